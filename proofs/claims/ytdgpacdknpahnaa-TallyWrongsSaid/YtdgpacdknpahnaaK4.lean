/- Parts of the proof, 4. No conditions. -/
import Derived.Test.YtdgpacdknpahnaaK3
import Derived.Test.YtdgpacdknpahnaaK2
namespace Go.Proofs.Ytdgpacdknpahnaa
open Go.Conc
def KP (K : KB) : Value → List AObj → Prop := fun v h => ∃ x, h = hOf x ∧ K v x = true
def HP (K : XH → Bool) : List AObj → Prop := fun h => ∃ x, h = hOf x ∧ K x = true
section
variable {P : Program} {x : XH} {r : Nat → Value}
theorem and_t {a b : Bool} (h : (a && b) = true) : a = true ∧ b = true := by simpa using h
theorem ble_t {a b : Nat} (h : Nat.ble a b = true) : a ≤ b := Nat.le_of_ble_eq_true h
theorem blt_t {a b : Nat} (h : Nat.blt a b = true) : a < b := Nat.le_of_ble_eq_true h
theorem nonneg_t {i : Int} {k : Nat → Bool} (h : nonneg i k = true) : 0 ≤ i ∧ k i.toNat = true := by
  cases i with
  | ofNat n => exact ⟨Int.natCast_nonneg n, h⟩
  | negSucc n => cases h
theorem xLoad_t {g : Bool} {s : Nat} {p : Value} {K : Value → Bool} (hx : xLoad g s p x K = true) : aLoad g s p (hOf x) fun v => K v = true := by
  unfold xLoad at hx
  unfold aLoad
  split at hx
  · obtain ⟨o, hb, hx⟩ := hg_t hx
    unfold xLoadC at hx
    split at hx
    · simp only [hb]
      cases g with
      | true =>
        simp only [cond_true, dropK_eq, takeK_eq] at hx ⊢
        obtain ⟨a, b⟩ := and_t hx
        obtain ⟨b, d⟩ := and_t b
        exact ⟨ble_t a, b, d⟩
      | false =>
        simp only [cond_false] at hx ⊢
        obtain ⟨v, hv, hk⟩ := gc_eq hx
        rw [hv]
        exact and_t hk
    · cases hx
  · cases hx
theorem xStore_t {s : Nat} {p v : Value} {K : XH → Bool} (hx : xStore s p v x K = true) : aStore s p v (hOf x) (HP K) := by
  unfold xStore at hx
  unfold aStore
  split at hx
  · obtain ⟨o, hb, hx⟩ := hg_t hx
    unfold xStoreC at hx
    split at hx
    · simp only [hb]
      obtain ⟨a, b⟩ := and_t hx
      obtain ⟨a, a3⟩ := and_t a
      obtain ⟨a1, a2⟩ := and_t a
      rw [wrK_eq] at b
      exact ⟨by simpa using a1, a2, ble_t a3, hset_t b⟩
    · cases hx
  · cases hx
theorem xFill_t : ∀ (ps : List (Nat × Nat × Value)) (c : List Value) {K : List Value → Bool}, xFill c ps K = true → aFill c ps fun c => K c = true
  | [], c, K, hx => hx
  | (off, s, v) :: ps, c, K, hx => by
    unfold xFill at hx
    obtain ⟨a, b⟩ := and_t hx
    obtain ⟨a, a3⟩ := and_t a
    obtain ⟨a1, a2⟩ := and_t a
    rw [wrK_eq] at b
    exact ⟨by simpa using a1, a2, ble_t a3, xFill_t ps _ b⟩
theorem xNew_t {c : List Value} {K : Nat → XH → Bool} (hx : xNew c x K = true) : HP (K (hOf x).length) (hOf x ++ [.cells c true 0]) := by
  rw [hOf_len]
  exact hpush_t hx
theorem xField_t {g : Bool} {s off : Nat} {x : Value} {K : Value → Bool} (hx : xField g s off x K = true) : aField g s off x fun v => K v = true := by
  unfold xField at hx
  unfold aField
  split at hx
  · cases g with
    | true =>
      simp only [cond_true] at hx ⊢
      obtain ⟨a, b⟩ := and_t hx
      exact ⟨ble_t a, b⟩
    | false =>
      simp only [cond_false] at hx ⊢
      obtain ⟨v, hv, hk⟩ := gc_eq hx
      rw [hv]
      exact hk
  · cases hx
theorem xOff_t {p : Value} {o : Nat} {K : Value → Bool} (hx : xOff p o K = true) : aOff p o fun v => K v = true := by
  unfold xOff at hx
  unfold aOff
  split at hx
  · exact hx
  · cases hx
theorem xIdx_t {s : Nat} {x i : Value} {K : Value → Bool} (hx : xIdx s x i K = true) : aIdx s x i fun v => K v = true := by
  unfold xIdx at hx
  unfold aIdx
  split at hx
  · obtain ⟨a, b⟩ := nonneg_t hx
    obtain ⟨b, c⟩ := and_t b
    have := blt_t b
    exact ⟨⟨a, by omega⟩, c⟩
  · cases hx
theorem xIdxA_t {l s : Nat} {x i : Value} {K : Value → Bool} (hx : xIdxA l s x i K = true) : aIdxA l s x i fun v => K v = true := by
  unfold xIdxA at hx
  unfold aIdxA
  split at hx
  · obtain ⟨a, b⟩ := nonneg_t hx
    obtain ⟨b, c⟩ := and_t b
    have := blt_t b
    exact ⟨⟨a, by omega⟩, c⟩
  · cases hx
theorem xInt_t {op : BinOp} {k : IntKind} {a b : Int} {K : Value → Bool} (hx : xInt op k a b K = true) : aInt op k a b fun v => K v = true := by
  cases op <;> simp only [xInt, aInt] at hx ⊢ <;> first | exact hx | (obtain ⟨x, y⟩ := and_t hx; exact ⟨by simpa using x, y⟩) | cases hx
theorem xShift_t {op : BinOp} {k : IntKind} {a b : Int} {K : Value → Bool} (hx : xShift op k a b K = true) : aShift op k a b fun v => K v = true := by
  unfold xShift at hx
  unfold aShift
  obtain ⟨x, y⟩ := and_t hx
  refine ⟨of_decide_eq_true x, ?_⟩
  cases op <;> first | exact y | cases y
theorem xEq_t {n : Bool} {t : TypeId} {x y : Value} {K : Value → Bool} (hx : xEq P n t x y K = true) : aEq P n t x y fun v => K v = true := by
  unfold xEq at hx
  unfold aEq
  split at hx
  · rename_i b hb
    rw [hb]
    obtain ⟨a, b⟩ := and_t hx
    exact ⟨by simpa using a, b⟩
  · cases hx
theorem xStr_t {op : BinOp} {a b : ByteArray} {K : Value → Bool} (hx : xStr op a b K = true) : aStr op a b fun v => K v = true := by
  cases op <;> simp only [xStr, aStr] at hx ⊢ <;> first | exact hx | (obtain ⟨x, y⟩ := and_t hx; exact ⟨ble_t x, y⟩) | cases hx
theorem xBin_t {op : BinOp} {t : TypeId} {x y : Value} {K : Value → Bool} (hx : xBin P op t x y K = true) : aBin P op t x y fun v => K v = true := by
  unfold xBin at hx
  split at hx
  · unfold aBin
    simp only
    split at hx
    · exact xShift_t hx
    · exact xShift_t hx
    · rename_i n1 n2
      obtain ⟨a, b⟩ := and_t hx
      rw [beq_iff_eq] at a
      have b := xInt_t b
      split
      · exact absurd rfl n1
      · exact absurd rfl n2
      · exact ⟨a, b⟩
  · exact xStr_t hx
  · rename_i n1 n2
    unfold aBin
    split
    · exact absurd rfl (n1 _ _ _ _ rfl)
    · exact absurd rfl (n2 _ _ rfl)
    · cases op <;> first | cases hx; done | exact xEq_t hx
theorem xUn_t {op : UnOp} {x : Value} {K : Value → Bool} (hx : xUn op x K = true) : aUn op x fun v => K v = true := by
  unfold xUn at hx
  unfold aUn
  split at hx
  · exact hx
  · exact hx
  · cases hx
theorem xConv_t {t : TypeId} {x : Value} {K : Value → Bool} (hx : xConv P t x K = true) : aConv P t x fun v => K v = true := by
  unfold xConv at hx
  unfold aConv
  split at hx
  · rename_i h1
    rw [h1]
    exact hx
  · cases hx
theorem xExt_t {x : Value} {i : Nat} {K : Value → Bool} (hx : xExt x i K = true) : aExt x i fun v => K v = true := by
  unfold xExt at hx
  unfold aExt
  split at hx
  · obtain ⟨v, hv, hk⟩ := gc_eq hx
    simp only [hv]
    exact hk
  · cases hx
theorem xNil_t {x : Value} {K : Value → Bool} (hx : xNil x K = true) : aNil x fun v => K v = true := by
  unfold xNil at hx
  unfold aNil
  split at hx
  · exact hx
  · exact hx
  · exact hx
  · cases hx
theorem xLenS_t {x : Value} {K : Value → Bool} (hx : xLenS x K = true) : aLenS x fun v => K v = true := by
  unfold xLenS at hx
  unfold aLenS
  split at hx
  · exact hx
  · cases hx
theorem xLenStr_t {x : Value} {K : Value → Bool} (hx : xLenStr x K = true) : aLenStr x fun v => K v = true := by
  unfold xLenStr at hx
  unfold aLenStr
  split at hx
  · exact hx
  · cases hx
theorem xLenM_t {v : Value} {K : Value → Bool} (hx : xLenM v x K = true) : aLenM v (hOf x) fun v => K v = true := by
  unfold xLenM at hx
  unfold aLenM
  split at hx
  · exact hx
  · obtain ⟨o, hb, hx⟩ := hg_t hx
    split at hx
    · simp only [hb]
      exact hx
    · cases hx
  · cases hx
theorem xMin_t : ∀ (l : List Value) (x : Value) {K : Value → Bool}, xMin x l K = true → aMin x l fun v => K v = true
  | [], x, K, hx => hx
  | y :: l, x, K, hx => by
    unfold xMin at hx
    unfold aMin
    split at hx
    · exact xMin_t l _ hx
    · cases hx
theorem xMax_t : ∀ (l : List Value) (x : Value) {K : Value → Bool}, xMax x l K = true → aMax x l fun v => K v = true
  | [], x, K, hx => hx
  | y :: l, x, K, hx => by
    unfold xMax at hx
    unfold aMax
    split at hx
    · exact xMax_t l _ hx
    · cases hx
theorem xMkS_t {z : List Value} {l c : Value} {K : KB} (hx : xMkS z l c x K = true) : aMkS z l c (hOf x) (KP K) := by
  unfold xMkS at hx
  unfold aMkS
  split at hx
  · obtain ⟨a, b⟩ := nonneg_t hx
    obtain ⟨c, d⟩ := nonneg_t b
    obtain ⟨d, e⟩ := and_t d
    obtain ⟨d1, d2⟩ := and_t d
    rw [fN_eq, fL_eq] at e
    have := ble_t d1
    have := ble_t d2
    exact ⟨a, by omega, by omega, xNew_t e⟩
  · cases hx
theorem xSrc_t {s n : Nat} {y : Value} {K : List Value → Bool} (hx : xSrc s n y x K = true) : srcCells s n y (hOf x) fun v => K v = true := by
  unfold xSrc at hx
  unfold srcCells
  split at hx
  · obtain ⟨a, b⟩ := and_t hx
    exact ⟨by simpa using a, b⟩
  · by_cases e : n = 0
    · subst e
      exact ⟨fun _ => hx, fun x => absurd rfl x⟩
    · have e' : (n == 0) = false := by simpa using e
      rw [e', cond_false] at hx
      refine ⟨fun x => absurd x e, fun _ => ?_⟩
      obtain ⟨o, hb, hx⟩ := hg_t hx
      unfold xSrcC at hx
      split at hx
      · simp only [hb]
        simp only [dropK_eq, takeK_eq] at hx
        obtain ⟨a, b⟩ := and_t hx
        obtain ⟨b, c⟩ := and_t b
        exact ⟨ble_t a, b, c⟩
      · cases hx
  · cases hx
theorem srcCells_mono {h : List AObj} {s n : Nat} {y : Value} {K K' : List Value → Prop} (hx : srcCells s n y h K) (hk : ∀ l, K l → K' l) : srcCells s n y h K' := by
  unfold srcCells at hx ⊢
  split at hx
  · exact ⟨hx.1, hk _ hx.2⟩
  · refine ⟨fun e => hk _ (hx.1 e), fun e => ?_⟩
    have := hx.2 e
    split at this
    · exact ⟨this.1, this.2.1, hk _ this.2.2⟩
    · exact this.elim
  · exact hx.elim
theorem xApp_t {s : Nat} {v y : Value} {K : KB} (hx : xApp s v y x K = true) : aApp s v y (hOf x) (KP K) := by
  unfold xApp at hx
  unfold aApp
  split at hx
  · rename_i base n c yb m yc
    obtain ⟨a, hx⟩ := and_t hx
    refine ⟨ble_t a, srcCells_mono (xSrc_t hx) fun ys hk => ?_⟩
    split at hk
    · obtain ⟨p, q⟩ := and_t hk
      obtain ⟨p1, p2⟩ := and_t p
      refine ⟨⟨by simpa using p1, by simpa using p2⟩, fun e => ?_, fun e => ?_⟩
      · subst e; exact ⟨x, rfl, q⟩
      · have e' : (m == 0) = false := by simpa using e
        rw [e', cond_false] at q
        rw [hOf_len]
        exact hpush_t q
    · rename_i b o
      obtain ⟨ob, hb, hk⟩ := hg_t hk
      unfold xAppC at hk
      split at hk
      · rename_i cs wr sz
        simp only [hb]
        obtain ⟨p, q⟩ := and_t hk
        obtain ⟨p1, p2⟩ := and_t p
        refine ⟨⟨ble_t p1, p2⟩, fun e => ?_, fun e => ?_⟩
        · have e' : Nat.blt c fz = true := by rw [Nat.blt_eq]; exact e
          rw [e', cond_true] at q
          refine ⟨fun e2 => ?_, fun e2 => ?_⟩
          · have e3 : Nat.ble (n + m) c = true := Nat.ble_eq_true_of_le e2
            rw [e3, cond_true, wrK_eq] at q
            obtain ⟨q1, q2⟩ := and_t q
            obtain ⟨q1, q3⟩ := and_t q1
            exact ⟨q1, ble_t q3, hset_t q2⟩
          · have e3 : Nat.ble (n + m) c = false := by
              cases hx : Nat.ble (n + m) c with
              | false => rfl
              | true => have := ble_t hx; omega
            rw [e3, cond_false, dropK_eq, takeK_eq, appK_eq] at q
            rw [hOf_len]
            exact hpush_t q
        · have e' : Nat.blt c fz = false := by
            cases hx : Nat.blt c fz with
            | false => rfl
            | true => have := blt_t hx; omega
          rw [e', cond_false] at q
          obtain ⟨q1, q2⟩ := and_t q
          obtain ⟨q1, q3⟩ := and_t q1
          obtain ⟨q1, q4⟩ := and_t q1
          obtain ⟨q1, q5⟩ := and_t q1
          rw [takeK_eq, appK_eq] at q2
          obtain ⟨y, e1, q2⟩ := hset_t q2
          refine ⟨by simpa using q1, q5, by simpa using q4, by simpa using q3, ?_⟩
          have hn : (hOf x).length = y.n := by rw [← hOf_len y, ← e1]; simp
          rw [hn, e1]
          exact hpush_t q2
      · cases hk
    · cases hk
  · cases hx
theorem xSl3_t {v hi mx : Value} {K : Value → Bool} (hx : xSl3 v hi mx x K = true) : aSl3 v hi mx (hOf x) fun v => K v = true := by
  unfold xSl3 at hx
  unfold aSl3
  split at hx
  · rename_i base n c k1 a k2 m
    obtain ⟨a0, hx⟩ := nonneg_t hx
    obtain ⟨m0, hx⟩ := nonneg_t hx
    obtain ⟨p, q2⟩ := and_t hx
    obtain ⟨p, q1⟩ := and_t p
    obtain ⟨p1, p2⟩ := and_t p
    have p1 := ble_t p1
    have p2 := ble_t p2
    refine ⟨a0, ⟨by omega, by omega⟩, ⟨fun e => ?_, fun e => ?_⟩, q2⟩
    · have e' : Nat.blt c fz = true := by rw [Nat.blt_eq]; exact e
      rw [e', cond_true] at q1
      have := ble_t q1
      omega
    · have e' : Nat.blt c fz = false := by
        cases hx : Nat.blt c fz with
        | false => rfl
        | true => have := blt_t hx; omega
      rw [e', cond_false] at q1
      split at q1
      · obtain ⟨o, hb, q1⟩ := hg_t q1
        unfold xSl3C at q1
        split at q1
        · simp only [hb]
          obtain ⟨q1, r1⟩ := and_t q1
          obtain ⟨q1, r2⟩ := and_t q1
          obtain ⟨q1, r3⟩ := and_t q1
          exact ⟨by simpa using q1, by simpa using r3, by simpa using r2, ble_t r1⟩
        · cases q1
      · cases q1
  · cases hx
theorem beq_t {a b : Nat} (h : Nat.beq a b = true) : a = b := Nat.eq_of_beq_eq_true h
theorem xB2S_t {v : Value} {K : Value → Bool} (hx : xB2S v x K = true) : aB2S v (hOf x) fun v => K v = true := by
  unfold xB2S at hx
  unfold aB2S
  split at hx
  · exact hx
  · obtain ⟨o, hb, hx⟩ := hg_t hx
    unfold xB2SC at hx
    split at hx
    · simp only [hb]
      obtain ⟨a, hx⟩ := and_t hx
      rw [dropK_eq, takeK_eq] at hx
      refine ⟨ble_t a, ?_⟩
      split at hx
      · rename_i e; simp only [e]; exact hx
      · cases hx
    · cases hx
  · cases hx
theorem xIdxStr_t {v i : Value} {K : Value → Bool} (hx : xIdxStr v i K = true) : aIdxStr v i fun v => K v = true := by
  unfold xIdxStr at hx
  unfold aIdxStr
  split at hx
  · obtain ⟨a0, hx⟩ := nonneg_t hx
    refine ⟨a0, ?_⟩
    split at hx
    · rename_i e
      rw [fI_eq] at hx
      simp only [e]
      exact hx
    · cases hx
  · cases hx
theorem xIdxV_t {n s : Nat} {g : Bool} {v i : Value} {K : Value → Bool} (hx : xIdxV n s g v i K = true) : aIdxV n s g v i fun v => K v = true := by
  unfold xIdxV at hx
  unfold aIdxV
  split at hx
  · obtain ⟨a0, hx⟩ := nonneg_t hx
    obtain ⟨a1, hx⟩ := and_t hx
    have a1 := blt_t a1
    refine ⟨⟨a0, by omega⟩, ?_⟩
    unfold xField' at hx
    unfold aField
    split at hx
    · cases g with
      | true =>
        obtain ⟨a, hx⟩ := and_t hx
        exact ⟨ble_t a, hx⟩
      | false =>
        obtain ⟨v, e, hv⟩ := gc_eq hx
        simp only [cond_false, e]
        exact hv
    · cases hx
  · cases hx
theorem xCapS_t {v : Value} {K : Value → Bool} (hx : xCapS v K = true) : aCapS v fun v => K v = true := by
  unfold xCapS at hx
  unfold aCapS
  split at hx
  · obtain ⟨a, hx⟩ := and_t hx
    exact ⟨blt_t a, hx⟩
  · cases hx
theorem xSlStr_t {v : Value} {lo hi : Option Value} {K : Value → Bool} (hx : xSlStr v lo hi K = true) : aSlStr v lo hi fun v => K v = true := by
  unfold xSlStr at hx
  unfold aSlStr
  split at hx
  · split at hx
    · rename_i e1 e2
      simp only [e1, e2]
      obtain ⟨a, hx⟩ := and_t hx
      obtain ⟨a1, a2⟩ := and_t a
      exact ⟨⟨ble_t a1, ble_t a2⟩, hx⟩
    · cases hx
  · cases hx
theorem xSl2_t {s : Nat} {v : Value} {lo hi : Option Value} {K : Value → Bool} (hx : xSl2 s v lo hi x K = true) : aSl2 s v lo hi (hOf x) fun v => K v = true := by
  unfold xSl2 at hx
  unfold aSl2
  split at hx
  · rename_i base n c
    split at hx
    · rename_i l u e1 e2
      simp only [e1, e2]
      obtain ⟨a, hx⟩ := and_t hx
      refine ⟨ble_t a, ?_⟩
      split at hx
      · obtain ⟨a, hx⟩ := and_t hx
        obtain ⟨a1, a2⟩ := and_t a
        exact ⟨⟨beq_t a1, beq_t a2⟩, hx⟩
      · rename_i b o
        by_cases hc : c < fz
        · have e' : Nat.blt c fz = true := by rw [Nat.blt_eq]; exact hc
          rw [e', cond_true] at hx
          obtain ⟨a, hx⟩ := and_t hx
          exact ⟨fun _ => ⟨ble_t a, hx⟩, fun y => absurd hc (by omega)⟩
        · have e' : Nat.blt c fz = false := by
            cases hx : Nat.blt c fz with
            | false => rfl
            | true => have := blt_t hx; omega
          rw [e', cond_false] at hx
          refine ⟨fun y => absurd y hc, fun _ => ?_⟩
          obtain ⟨q, hx⟩ := and_t hx
          obtain ⟨o, hb, q⟩ := hg_t q
          unfold xSl2C at q
          split at q
          · simp only [hb]
            obtain ⟨q, q5⟩ := and_t q
            obtain ⟨q, q4⟩ := and_t q
            obtain ⟨q, q3⟩ := and_t q
            obtain ⟨q1, q2⟩ := and_t q
            refine ⟨⟨beq_t q1, beq_t q2, blt_t q3, ble_t q4, ?_⟩, hx⟩
            rcases Bool.or_eq_true_iff.1 q5 with q5 | q5
            · exact .inl (beq_t q5)
            · exact .inr (ble_t q5)
          · cases q
      · cases hx
    · cases hx
  · cases hx
theorem xSlA_t {n s : Nat} {v : Value} {lo hi : Option Value} {K : Value → Bool} (hx : xSlA n s v lo hi K = true) : aSlA n s v lo hi fun v => K v = true := by
  unfold xSlA at hx
  unfold aSlA
  split at hx
  · split at hx
    · rename_i e1 e2
      simp only [e1, e2]
      obtain ⟨a, hx⟩ := and_t hx
      obtain ⟨a, a3⟩ := and_t a
      obtain ⟨a1, a2⟩ := and_t a
      exact ⟨⟨ble_t a1, ble_t a2, ble_t a3⟩, hx⟩
    · cases hx
  · cases hx
theorem xCopy_t {s : Nat} {v y : Value} {K : KB} (hx : xCopy s v y x K = true) : aCopy s v y (hOf x) (KP K) := by
  unfold xCopy at hx
  unfold aCopy
  split at hx
  · refine srcCells_mono (xSrc_t hx) fun ys hy => ?_
    split at hy
    · exact ⟨x, rfl, hy⟩
    · obtain ⟨o, hb, hy⟩ := hg_t hy
      unfold xCopyC at hy
      split at hy
      · simp only [hb]
        obtain ⟨a, hy⟩ := and_t hy
        rw [wrK_eq] at hy
        refine ⟨ble_t a, ?_⟩
        obtain ⟨z, ez, hz⟩ := hset_t hy
        exact ⟨z, ez, hz⟩
      · cases hy
    · cases hy
  · cases hx
theorem xAppZ_t {s : Nat} {z : List Value} {v y : Value} {K : KB} (hx : xAppZ s z v y x K = true) : aAppZ s z v y (hOf x) (KP K) := by
  unfold xAppZ at hx
  unfold aAppZ
  split at hx
  · rename_i n c m
    obtain ⟨a, hx⟩ := and_t hx
    obtain ⟨a1, a2⟩ := and_t a
    obtain ⟨m0, hx⟩ := nonneg_t hx
    obtain ⟨a3, hx⟩ := and_t hx
    have a3 := ble_t a3
    refine ⟨⟨beq_t a1, beq_t a2, m0, by omega⟩, fun e => ?_, fun e => ?_⟩
    · subst e
      have e0 : Nat.beq (Int.toNat 0) 0 = true := rfl
      rw [e0, cond_true] at hx
      exact ⟨x, rfl, hx⟩
    · have e0 : Nat.beq m.toNat 0 = false := by
        cases hb : Nat.beq m.toNat 0 with
        | false => rfl
        | true => have := beq_t hb; omega
      rw [e0, cond_false, fL_eq] at hx
      have := hpush_t hx
      rw [← hOf_len x] at this
      exact this
  · cases hx
theorem xLook_t {mt : TypeId} {ok : Bool} {m k : Value} {K : Value → Bool} (hx : xLook P mt ok m k x K = true) : aLook P mt ok m k (hOf x) fun v => K v = true := by
  unfold xLook at hx
  unfold aLook
  split at hx
  · rename_i h1
    rw [h1]
    simp only
    split at hx
    · rename_i hz
      obtain ⟨o, hb, hx⟩ := hg_t hx
      unfold xLookC at hx
      split at hx
      · simp only [hb, hz]
        obtain ⟨a, b⟩ := and_t hx
        refine ⟨a, ?_⟩
        split at b
        · rename_i e; rw [e]; exact b
        · rename_i e; rw [e]; exact b
        · cases b
      · cases hx
    · cases hx
  · cases hx
theorem plain_vok {v : Value} {n : Nat} (hp : plainC v = true) : VOk n v ∧ one v = true := by
  unfold plainC at hp
  split at hp <;> first | (exact ⟨by simp [VOk], rfl⟩) | cases hp
theorem plainK_vok {k : Value} (hk : plainK k = true) : VOk 0 k := by
  unfold plainK at hk
  split at hk
  · simp only [VOk, AOk, LOk_iff]
    exact fun v hv => (plain_vok (List.all_eq_true.1 hk v hv)).1
  · exact (plain_vok hk).1
theorem xUpd_t {mt : TypeId} {m k v : Value} {K : XH → Bool} (hx : xUpd P mt m k v x K = true) : aUpd P mt m k v (hOf x) (HP K) := by
  unfold xUpd at hx
  unfold aUpd
  split at hx
  · rename_i h1
    rw [h1]
    simp only
    obtain ⟨o, hb, hx⟩ := hg_t hx
    unfold xUpdC at hx
    split at hx
    · simp only [hb]
      obtain ⟨a, b⟩ := and_t hx
      obtain ⟨a, a2⟩ := and_t a
      split at b
      · rename_i e
        rw [appK_eq] at b
        exact ⟨a, plainK_vok a2, e, hset_t b⟩
      · cases b
    · cases hx
  · cases hx
theorem oAlloc_t {t : TypeId} {K : KB} (hx : oAlloc P t x K = true) : aop P (.alloc t) r (hOf x) (KP K) := by
  unfold oAlloc at hx
  unfold aop
  split at hx
  · rename_i e; simp only [e]; exact xNew_t hx
  · cases hx
theorem oBuild_t {t : TypeId} {ps : Array (Nat × Operand)} {K : KB} (hx : oBuild P t (ps.toList.map fun (i, x) => (i, ev r x)) x K = true) : aop P (.build t ps) r (hOf x) (KP K) := by
  unfold oBuild at hx
  unfold aop
  split at hx
  · rename_i e1 e2
    simp only [e1, e2]
    cases hg : aggT P t with
    | true =>
      rw [hg] at hx
      obtain ⟨c, k1, k2⟩ := pin_aFill _ _ _ (xFill_t _ _ hx)
      exact k2 _ ⟨x, rfl, k1⟩
    | false => rw [hg] at hx; cases hx
  · cases hx
theorem oBuildS_t {t : TypeId} {n : Nat} {ps : Array (Nat × Operand)} {K : KB} (hx : oBuildS P t n (ps.toList.map fun (i, x) => (i, ev r x)) x K = true) : aop P (.buildSlice t n ps) r (hOf x) (KP K) := by
  unfold oBuildS at hx
  unfold aop
  split at hx
  · rename_i e0
    simp only [e0]
    split at hx
    · rename_i e1 e2 e3
      simp only [e1, e2, e3]
      obtain ⟨a, b⟩ := and_t hx
      obtain ⟨a, a3⟩ := and_t a
      obtain ⟨a1, a2⟩ := and_t a
      simp only [fL_eq] at b
      obtain ⟨c, k1, k2⟩ := pin_aFill _ _ _ (xFill_t _ _ b)
      exact ⟨⟨ble_t a1, ble_t a2, by simpa using a3⟩, k2 _ (xNew_t k1)⟩
    · cases hx
  · cases hx
theorem pin_use {F : (Value → Prop) → Prop} {K : KB} (p : Pin F) (hx : F fun v => K v x = true) : F fun v => KP K v (hOf x) := by
  obtain ⟨v, k1, k2⟩ := p _ hx
  exact k2 _ ⟨x, rfl, k1⟩
theorem oLoad_t {t : TypeId} {a : Operand} {K : KB} (hx : oLoad P t (ev r a) x K = true) : aop P (.load t a) r (hOf x) (KP K) := by
  unfold oLoad at hx
  unfold aop
  split at hx
  · rename_i e; simp only [e]; exact pin_use pin_aLoad (xLoad_t hx)
  · cases hx
theorem oStore_t {t : TypeId} {a b : Operand} {K : KB} (hx : oStore P t (ev r a) (ev r b) x K = true) : aop P (.store t a b) r (hOf x) (KP K) := by
  unfold oStore at hx
  unfold aop
  split at hx
  · rename_i e; simp only [e]; exact xStore_t hx
  · cases hx
theorem oConv_t {s d : TypeId} {a : Operand} {K : KB} (hx : oConv P s d (ev r a) x K = true) : aop P (.convert s d a) r (hOf x) (KP K) := by
  unfold oConv at hx
  unfold aop
  split at hx
  · rename_i e; simp only [e]; exact pin_use pin_aConv (xConv_t hx)
  · rename_i e
    simp only [e]
    split at hx
    · rename_i e1 e2; simp only [e1, e2]; exact pin_use pin_aB2S (xB2S_t hx)
    · cases hx
  · cases hx
theorem oMkS_t {t : TypeId} {a b : Operand} {K : KB} (hx : oMkS P t (ev r a) (ev r b) x K = true) : aop P (.makeSlice t a b) r (hOf x) (KP K) := by
  unfold oMkS at hx
  unfold aop
  split at hx
  · rename_i e0
    simp only [e0]
    split at hx
    · rename_i e1 e2 e3
      simp only [e1, e2, e3]
      obtain ⟨a, b⟩ := and_t hx
      obtain ⟨a1, a2⟩ := and_t a
      exact ⟨⟨by simpa using a1, ble_t a2⟩, xMkS_t b⟩
    · cases hx
  · cases hx
theorem pin_aSl3 {v hi mx : Value} {h : List AObj} : Pin (aSl3 v hi mx h) := by
  intro K hK
  unfold aSl3 at hK ⊢
  split at hK
  · exact ⟨_, hK.2.2.2, fun K1 k => ⟨hK.1, hK.2.1, hK.2.2.1, k⟩⟩
  · exact hK.elim
theorem oSl_t {t : TypeId} {a b c : Operand} {K : KB} (hx : oSl P t (ev r a) (ev r b) (ev r c) x K = true) : aop P (.slice t a none (some b) (some c)) r (hOf x) (KP K) := by
  unfold oSl at hx
  unfold aop
  split at hx
  · rename_i e0
    simp only [e0]
    split at hx
    · rename_i e1; simp only [e1]; exact pin_use pin_aSl3 (xSl3_t hx)
    · cases hx
  · cases hx
theorem oSl2_t {t : TypeId} {a : Operand} {lo hi : Option Operand} {K : KB} (hx : oSl2 P t (ev r a) (lo.map (ev r)) (hi.map (ev r)) x K = true) : aop P (.slice t a lo hi none) r (hOf x) (KP K) := by
  unfold oSl2 at hx
  unfold aop
  split at hx
  · rename_i e0; simp only [e0]; exact pin_use pin_aSlStr (xSlStr_t hx)
  · rename_i e0
    simp only [e0]
    split at hx
    · rename_i e1; simp only [e1]; exact pin_use pin_aSl2 (xSl2_t hx)
    · cases hx
  · rename_i e0
    simp only [e0]
    split at hx
    · rename_i e1; simp only [e1]; exact pin_use pin_aSlA (xSlA_t hx)
    · cases hx
  · cases hx
theorem oIdx_t {t : TypeId} {a b : Operand} {K : KB} (hx : oIdx P t (ev r a) (ev r b) x K = true) : aop P (.index t a b) r (hOf x) (KP K) := by
  unfold oIdx at hx
  unfold aop
  split at hx
  · rename_i e0; simp only [e0]; exact pin_use pin_aIdxStr (xIdxStr_t hx)
  · rename_i e0
    simp only [e0]
    split at hx
    · rename_i e1; simp only [e1]; exact pin_use pin_aIdxV (xIdxV_t hx)
    · cases hx
  · cases hx
theorem oFA_t {t : TypeId} {a : Operand} {f : Nat} {K : KB} (hx : oFA P t (ev r a) f x K = true) : aop P (.fieldAddr t a f) r (hOf x) (KP K) := by
  unfold oFA at hx
  unfold aop
  split at hx
  · rename_i e; simp only [e]; exact pin_use pin_aOff (xOff_t hx)
  · cases hx
theorem oF_t {t : TypeId} {a : Operand} {f : Nat} {K : KB} (hx : oF P t (ev r a) f x K = true) : aop P (.field t a f) r (hOf x) (KP K) := by
  unfold oF at hx
  unfold aop
  split at hx
  · rename_i e0
    simp only [e0]
    split at hx
    · rename_i e1
      simp only [e1]
      split at hx
      · rename_i e2; simp only [e2]; exact pin_use pin_aField (xField_t hx)
      · cases hx
    · cases hx
  · cases hx
theorem oIA_t {t : TypeId} {a b : Operand} {K : KB} (hx : oIA P t (ev r a) (ev r b) x K = true) : aop P (.indexAddr t a b) r (hOf x) (KP K) := by
  unfold oIA at hx
  unfold aop
  split at hx
  · rename_i e0
    simp only [e0]
    split at hx
    · rename_i e1; simp only [e1]; exact pin_use pin_aIdx (xIdx_t hx)
    · cases hx
  · rename_i e0
    simp only [e0]
    split at hx
    · rename_i e1; simp only [e1]; exact pin_use pin_aIdxA (xIdxA_t hx)
    · cases hx
  · cases hx
theorem oBi_t {b : Builtin} {args : Array Operand} {ats : Array TypeId} {K : KB} (hx : oBi P b r args.toList ats.toList x K = true) : aop P (.call { callee := .builtin b, args := args, argTypes := ats }) r (hOf x) (KP K) := by
  unfold oBi at hx
  unfold aop
  split at hx
  · rename_i e1 e2
    simp only [e1, e2]
    unfold oLen at hx
    split at hx
    · rename_i e; simp only [e]; exact pin_use pin_aLenStr (xLenStr_t hx)
    · rename_i e; simp only [e]; exact pin_use pin_aLenS (xLenS_t hx)
    · rename_i e
      simp only [e]
      have hp := xLenM_t hx
      unfold aLenM at hp ⊢
      split at hp
      · rename_i e2; simp only [e2]; exact ⟨x, rfl, hp⟩
      · rename_i e2
        simp only [e2]
        split at hp
        · exact (⟨x, rfl, hp⟩ : KP K _ _)
        · exact hp.elim
      · exact hp.elim
    · rename_i e; simp only [e]; exact ⟨x, rfl, hx⟩
    · cases hx
  · rename_i e1 e2
    simp only [e1, e2]
    unfold oCap at hx
    split at hx
    · rename_i e; simp only [e]; exact pin_use pin_aCapS (xCapS_t hx)
    · cases hx
  · rename_i e1
    simp only [e1]
    exact pin_use (pin_aMin _ _) (xMin_t _ _ hx)
  · rename_i e1
    simp only [e1]
    exact pin_use (pin_aMax _ _) (xMax_t _ _ hx)
  · rename_i e1 e2
    simp only [e1, e2]
    unfold oApp at hx
    split at hx
    · rename_i e3 e4
      simp only [e3, e4]
      split at hx
      · rename_i e5 e6 e7
        simp only [e5, e6, e7]
        obtain ⟨a, b⟩ := and_t hx
        obtain ⟨a, a4⟩ := and_t a
        obtain ⟨a, a3⟩ := and_t a
        obtain ⟨a1, a2⟩ := and_t a
        exact ⟨⟨by simpa using a1, blt_t a2, blt_t a3, ble_t a4⟩, xApp_t b⟩
      · cases hx
    · rename_i e3 e4
      simp only [e3, e4]
      split at hx
      · rename_i e5 e6 e7
        simp only [e5, e6, e7]
        obtain ⟨a, b⟩ := and_t hx
        obtain ⟨a, a4⟩ := and_t a
        obtain ⟨a, a3⟩ := and_t a
        obtain ⟨a1, a2⟩ := and_t a
        exact ⟨⟨by simpa using a1, blt_t a2, blt_t a3, ble_t a4⟩, xAppZ_t b⟩
      · cases hx
    · cases hx
  · rename_i e1 e2
    simp only [e1, e2]
    unfold oCopy at hx
    split at hx
    · rename_i e3 e4
      simp only [e3, e4]
      split at hx
      · rename_i e5
        simp only [e5]
        obtain ⟨a, b⟩ := and_t hx
        exact ⟨blt_t a, xCopy_t b⟩
      · cases hx
    · cases hx
  · cases hx
theorem xaop_t {o : Op} {K : KB} (hx : xaop P o r x K = true) : aop P o r (hOf x) (KP K) := by
  unfold xaop at hx
  split at hx
  · exact ⟨x, rfl, hx⟩
  · exact ⟨x, rfl, hx⟩
  · unfold oPick at hx
    unfold aop
    split at hx
    · rename_i e; simp only [e]; exact ⟨x, rfl, hx⟩
    · cases hx
  · exact oAlloc_t hx
  · obtain ⟨a, b⟩ := and_t hx
    rw [fL_eq] at b
    exact ⟨a, xNew_t b⟩
  · exact oBuild_t hx
  · exact oBuildS_t hx
  · exact oLoad_t hx
  · exact oStore_t hx
  · exact pin_use pin_aNil (xNil_t hx)
  · exact pin_use pin_aBin (xBin_t hx)
  · exact pin_use pin_aUn (xUn_t hx)
  · exact oConv_t hx
  · obtain ⟨a, b⟩ := and_t hx
    rw [fL_eq, fL_eq] at b
    exact ⟨a, x, rfl, b⟩
  · have := hpush_t hx
    rw [← hOf_len x] at this
    exact this
  · exact oMkS_t hx
  · exact oSl_t hx
  · exact oSl2_t hx
  · exact oIdx_t hx
  · exact oFA_t hx
  · exact oF_t hx
  · exact oIA_t hx
  · rename_i t m k ok
    have hp := xLook_t hx
    unfold aop
    unfold aLook at hp ⊢
    split at hp
    · rename_i e1 e2
      simp only [e1, e2]
      split at hp
      · rename_i e3 e4
        try simp only [e3, e4]
        refine ⟨hp.1, ?_⟩
        have hp := hp.2
        split at hp
        · exact (⟨x, rfl, hp⟩ : KP K _ _)
        · exact (⟨x, rfl, hp⟩ : KP K _ _)
        · exact hp.elim
      · exact hp.elim
    · exact hp.elim
  · obtain ⟨a, b⟩ := and_t hx
    exact ⟨plain_vok a, xUpd_t b⟩
  · exact pin_use pin_aExt (xExt_t hx)
  · exact oBi_t hx
  · cases hx
end
abbrev CB := FuncId → List Value → XH → KB → Bool
abbrev LB := T Value → XH → Bool
noncomputable def xcallV (P : Program) (C : CB) (v : Value) (args : List Value) (h : XH) (K : KB) : Bool :=
  match v with
  | .func (.func g) ⟨first⟩ ⟨cap⟩ => Nat.blt g P.funcs.size && C g (first ++ args ++ cap) h K
  | .func (.yield l) ⟨[]⟩ ⟨[]⟩ => C (yid P l) args h K
  | _ => false
noncomputable def xopW (P : Program) (C : CB) (o : Op) (r : Nat → Value) (h : XH) (K : KB) : Bool :=
  match o with
  | .call { callee := .value x, args, .. } => fL (args.toList.map (ev r)) fun vs => xcallV P C (ev r x) vs h K
  | op => xaop P op r h K
noncomputable def xput (d : Option Nat) (v : Value) (l : T Value) (k : T Value → Bool) : Bool :=
  match d with
  | some d => fV v fun v => tset unk 9 l d v k
  | none => k l
def xgd (ops : Array Oper) (sk : List Nat) (o : Oper) (r : Nat → Value) : Option Bool :=
  match o.guard with
  | none => some true
  | some (j, want) => match dstOf ops j with
    | some t => match r t with
      | .bool b => some (b == want)
      | .tuple ⟨[]⟩ => bif sk.any fun i => Nat.beq i j then some false else none
      | _ => none
    | none => none
def skDrop (ops : Array Oper) (d : Option Nat) (sk : List Nat) : List Nat :=
  match sk, d with
  | [], _ => []
  | sk, none => sk
  | sk, some d => sk.filter fun j => match dstOf ops j with
    | some t => !(Nat.beq t d)
    | none => true
def skAdd (ops : Array Oper) (i : Nat) (d : Option Nat) (sk : List Nat) : List Nat :=
  match d with
  | none => sk
  | some d => i :: skDrop ops (some d) sk
noncomputable def xops (P : Program) (C : CB) (N : Nat) (ops : Array Oper) (os : List Nat) : T Value → XH → List Nat → LB → Bool :=
  List.rec (motive := fun _ => T Value → XH → List Nat → LB → Bool) (fun l h _ K => K l h) (fun i _ ih l h sk K => match ops[i]? with
    | some o => dstOk N o && match xgd ops sk o (gt l) with
      | some true => xopW P C o.op (gt l) h fun v h => xput o.dst v l fun l => ih l h (skDrop ops o.dst sk) K
      | some false => xput o.dst undef l fun l => ih l h (skAdd ops i o.dst sk) K
      | none => false
    | none => false) os
def simA (σ : Nat → Nat) (a b : Value) : Bool :=
  match a, b with
  | .int k a, .int k' b => k == k' && a == b
  | .bool a, .bool b => a == b
  | .pointer none, .pointer none => true
  | .pointer (some ⟨a, o, none⟩), .pointer (some ⟨b, p, none⟩) => Nat.beq (σ a) b && Nat.beq o p
  | .slice none n c, .slice none m d => Nat.beq n m && Nat.beq c d
  | .slice (some ⟨a, o, none⟩) n c, .slice (some ⟨b, p, none⟩) m d => Nat.beq (σ a) b && Nat.beq o p && Nat.beq n m && Nat.beq c d
  | .map (some a), .map (some b) => Nat.beq (σ a) b
  | .map none, .map none => true
  | .nilFunc, .nilFunc => true
  | .tuple ⟨[]⟩, .tuple ⟨[]⟩ => true
  | _, _ => false
def simL (p : Value → Value → Bool) : List Value → List Value → Bool
  | [], [] => true
  | a :: l, b :: m => p a b && simL p l m
  | _, _ => false
def simS (σ : Nat → Nat) (a b : Value) : Bool :=
  match a, b with
  | .func (.func g) ⟨f⟩ ⟨c⟩, .func (.func g') ⟨f'⟩ ⟨c'⟩ => Nat.beq g g' && simL (simA σ) f f' && simL (simA σ) c c'
  | a, b => simA σ a b
def simV (σ : Nat → Nat) (a b : Value) : Bool :=
  match a, b with
  | .agg ⟨l⟩, .agg ⟨m⟩ => simL (simS σ) l m
  | .tuple ⟨l⟩, .tuple ⟨m⟩ => simL (simS σ) l m
  | a, b => simS σ a b
def eqP (a b : Value) : Bool :=
  match a, b with
  | .int k a, .int k' b => k == k' && a == b
  | .bool a, .bool b => a == b
  | _, _ => false
def eqK (a b : Value) : Bool :=
  match a, b with
  | .agg ⟨l⟩, .agg ⟨m⟩ => simL eqP l m
  | a, b => eqP a b
def simE (σ : Nat → Nat) : List (Value × Value) → List (Value × Value) → Bool
  | [], [] => true
  | (a, x) :: l, (b, y) :: m => eqK a b && simS σ x y && simE σ l m
  | _, _ => false
def simO (σ : Nat → Nat) (a b : AObj) : Bool :=
  match a, b with
  | .cells c w s, .cells d x t => simL (simS σ) c d && w == x && s == t
  | .map c w, .map d x => simE σ c d && w == x
  | .deferred, .deferred => true
  | _, _ => false
noncomputable def xsame (B : Option (List Nat)) (h0 h1 : XH) : Bool :=
  match B with
  | none => false
  | some B => B.all fun b => hg h1 b fun o1 => hg h0 b fun o0 => simO (fun i => i) o0 o1
def xrd (B : Option (List Nat)) (x : Option Nat) : Bool :=
  match B, x with
  | some B, some b => B.any fun y => Nat.beq b y
  | _, _ => true
def xall : List Nat → (Nat → Bool) → Bool
  | [], _ => true
  | [i], A => A i
  | i :: l, A => A i && xall l A
noncomputable def xany (P : Program) (C : CB) (N : Nat) (ops : Array Oper) (B : Option (List Nat)) (h0 : XH) : Nat → Array Bool → Bool → T Value → XH → List Nat → LB → Bool
  | 0, L, _, l, h, _, K => (Region.ready .any ops L).isEmpty && K l h
  | n + 1, L, sok, l, h, sk, K => match pickN P ops L with
    | some i => match ops[i]? with
      | some o => (dstOk N o && (!isRead o.op || sok)) && match xgd ops sk o (gt l) with
        | some true => xopW P C o.op (gt l) h fun v _ => (!(isRead o.op && B.isSome) || xrd B (readOf o.op (gt l))) && xput o.dst v l fun l => xany P C N ops B h0 n (L.setIfInBounds i true) sok l h (skDrop ops o.dst sk) K
        | some false => xput o.dst undef l fun l => xany P C N ops B h0 n (L.setIfInBounds i true) sok l h (skAdd ops i o.dst sk) K
        | none => false
      | none => false
    | none => bif (Region.ready .any ops L).isEmpty then K l h else xall (Region.ready .any ops L) fun i => match ops[i]? with
      | some o => dstOk N o && match xgd ops sk o (gt l) with
        | some true => xopW P C o.op (gt l) h fun v h' => bif sNeed P ops i o then xsame B h0 h' && xput o.dst v l fun l => xany P C N ops B h0 n (L.setIfInBounds i true) true l h' (skDrop ops o.dst sk) K
            else xput o.dst v l fun l => xany P C N ops B h0 n (L.setIfInBounds i true) false l h' (skDrop ops o.dst sk) K
        | some false => (!(sNeed P ops i o && !sok)) && xput o.dst undef l fun l => xany P C N ops B h0 n (L.setIfInBounds i true) sok l h (skAdd ops i o.dst sk) K
        | none => false
      | none => false
noncomputable def xpre (P : Program) (C : CB) (N : Nat) (ops : Array Oper) : Nat → Array Bool → List Nat → T Value → XH → List Nat → LB → Bool
  | 0, L, R, l, h, sk, K => xany P C N ops (some R) h 0 L true l h sk K
  | n + 1, L, R, l, h, sk, K => match pickN P ops L with
    | some i => match ops[i]? with
      | some o => dstOk N o && match xgd ops sk o (gt l) with
        | some true => xopW P C o.op (gt l) h fun v _ => xput o.dst v l fun l' => xpre P C N ops n (L.setIfInBounds i true) ((readOf o.op (gt l)).toList ++ R) l' h (skDrop ops o.dst sk) K
        | some false => xput o.dst undef l fun l => xpre P C N ops n (L.setIfInBounds i true) R l h (skAdd ops i o.dst sk) K
        | none => false
      | none => false
    | none => xany P C N ops (some R) h (n + 1) L true l h sk K
noncomputable def xdraw (P : Program) (C : CB) (N : Nat) (ops : Array Oper) (l : T Value) (h : XH) (K : LB) : Bool :=
  bif still P ops then xany P C N ops none h ops.size (Array.replicate ops.size false) true l h [] K else xpre P C N ops ops.size (Array.replicate ops.size false) [] l h [] K
mutual
theorem sub_idV : ∀ v : Value, sub (fun i => i) v = v
  | .pointer (some a) => by simp [sub]
  | .slice (some a) _ _ => by simp [sub]
  | .map (some r) => by simp [sub]
  | .chan (some r) => by simp [sub]
  | .func fn first cap => by
    have hf : subFn (fun i => i) fn = fn := by cases fn <;> simp [subFn]
    simp only [sub, hf, sub_idA first, sub_idA cap]
  | .iface _ v => by simp only [sub, sub_idV v]
  | .agg cs => by simp only [sub, sub_idA cs]
  | .tuple vs => by simp only [sub, sub_idA vs]
  | .bool _ | .int _ _ | .float _ _ | .complex _ _ _ | .string _ | .pointer none | .slice none _ _ | .map none | .chan none | .nilFunc | .nilIface => by simp only [sub]
theorem sub_idA : ∀ a : Array Value, subA (fun i => i) a = a
  | ⟨l⟩ => by simp only [subA, sub_idL l]
theorem sub_idL : ∀ l : List Value, subL (fun i => i) l = l
  | [] => by simp only [subL]
  | v :: l => by simp only [subL, sub_idV v, sub_idL l]
end
section
variable {P : Program} {J : JT} {C : CB} {N : Nat} {ops : Array Oper} {ds : List Nat} {σ : Nat → Nat}
theorem simA_t {a b : Value} (hx : simA σ a b = true) : b = sub σ a := by
  unfold simA at hx
  split at hx <;> first
    | rfl
    | cases hx; done
    | (simp only [Bool.and_eq_true, beq_iff_eq, Nat.beq_eq] at hx; obtain ⟨⟨⟨rfl, rfl⟩, rfl⟩, rfl⟩ := hx; rfl)
    | (simp only [Bool.and_eq_true, beq_iff_eq, Nat.beq_eq] at hx; obtain ⟨rfl, rfl⟩ := hx; rfl)
    | (simp only [beq_iff_eq, Nat.beq_eq] at hx; subst hx; rfl)
theorem simL_t {p : Value → Value → Bool} {g : Value → Value} (hp : ∀ a b, p a b = true → b = g a) : ∀ {a b : List Value}, simL p a b = true → b = a.map g
  | [], [], _ => rfl
  | a :: l, b :: m, hx => by
    unfold simL at hx
    obtain ⟨x, y⟩ := and_t hx
    rw [hp _ _ x, simL_t hp y]
    rfl
  | [], b :: m, hx => by cases hx
  | a :: l, [], hx => by cases hx
theorem simS_t {a b : Value} (hx : simS σ a b = true) : b = sub σ a := by
  unfold simS at hx
  split at hx
  · obtain ⟨x, y⟩ := and_t hx
    obtain ⟨x, z⟩ := and_t x
    have x : _ = _ := Nat.eq_of_beq_eq_true x
    rw [simL_t (g := sub σ) (fun _ _ => simA_t) z, simL_t (g := sub σ) (fun _ _ => simA_t) y, ← x]
    simp only [sub, subFn, subA, subL_eq]
  · exact simA_t hx
theorem simV_t {a b : Value} (hx : simV σ a b = true) : b = sub σ a := by
  unfold simV at hx
  split at hx
  · rw [simL_t (g := sub σ) (fun _ _ => simS_t) hx]
    simp only [sub, subA, subL_eq]
  · rw [simL_t (g := sub σ) (fun _ _ => simS_t) hx]
    simp only [sub, subA, subL_eq]
  · exact simS_t hx
theorem eqP_t {a b : Value} (hx : eqP a b = true) : b = a := by
  unfold eqP at hx
  split at hx
  · simp only [Bool.and_eq_true, beq_iff_eq] at hx
    obtain ⟨rfl, rfl⟩ := hx
    rfl
  · simp only [beq_iff_eq] at hx
    subst hx
    rfl
  · cases hx
theorem eqK_t {a b : Value} (hx : eqK a b = true) : b = a := by
  unfold eqK at hx
  split at hx
  · rw [simL_t (g := id) (fun _ _ => eqP_t) hx]
    simp
  · exact eqP_t hx
theorem simE_t : ∀ {a b : List (Value × Value)}, simE σ a b = true → b = a.map fun e => (e.1, sub σ e.2)
  | [], [], _ => rfl
  | (a, x) :: l, (b, y) :: m, hx => by
    unfold simE at hx
    obtain ⟨p, q⟩ := and_t hx
    obtain ⟨p1, p2⟩ := and_t p
    rw [eqK_t p1, simS_t p2, simE_t q]
    rfl
  | [], b :: m, hx => by cases hx
  | a :: l, [], hx => by cases hx
theorem simO_t {a b : AObj} (hx : simO σ a b = true) : b = subO σ a ∧ a.live = true := by
  unfold simO at hx
  split at hx
  · obtain ⟨x, y⟩ := and_t hx
    obtain ⟨x, z⟩ := and_t x
    rw [simL_t (g := sub σ) (fun _ _ => simS_t) x, beq_iff_eq.1 z, beq_iff_eq.1 y]
    exact ⟨rfl, rfl⟩
  · obtain ⟨x, y⟩ := and_t hx
    rw [simE_t x, beq_iff_eq.1 y]
    exact ⟨rfl, rfl⟩
  · exact ⟨rfl, rfl⟩
  · cases hx
theorem subO_idV {o : AObj} (h : ∀ st pend fn r size params assign body dfr, o ≠ .loop st pend fn r size params assign body dfr) : subO (fun i => i) o = o := by
  cases o with
  | cells c wr sz =>
    simp only [subO]
    congr 1
    exact (List.map_congr_left fun v _ => sub_idV v).trans (List.map_id _)
  | map es wr =>
    simp only [subO]
    congr 1
    refine (List.map_congr_left fun e _ => ?_).trans (List.map_id _)
    rw [sub_idV]
    rfl
  | loop => exact absurd rfl (h _ _ _ _ _ _ _ _ _)
  | _ => rfl
theorem xsame_t {B : Option (List Nat)} {x0 x1 : XH} (hx : xsame B x0 x1 = true) : SameB B (hOf x0) (hOf x1) := by
  unfold xsame at hx
  split at hx
  · cases hx
  · intro b hb
    obtain ⟨o1, h1, hx⟩ := hg_t (List.all_eq_true.1 hx b hb)
    obtain ⟨o0, h0, hx⟩ := hg_t hx
    obtain ⟨e, l⟩ := simO_t hx
    rw [h1, h0, e, subO_idV]
    rintro st pend fn r size params assign body dfr rfl
    cases o1 <;> cases hx
theorem xrd_t {B : Option (List Nat)} {x : Option Nat} (hx : xrd B x = true) : RdOk B x := by
  unfold xrd at hx
  unfold RdOk
  split at hx
  · obtain ⟨y, hy, e⟩ := List.any_eq_true.1 hx
    rw [Nat.beq_eq] at e
    rw [e]
    exact hy
  · rename_i n
    split
    · exact absurd rfl (n _ _ rfl)
    · trivial
theorem allOf_t {A : Nat → Bool} {A' : Nat → Prop} : ∀ (l : List Nat), xall l A = true → (∀ i, A i = true → A' i) → allOf l A'
  | [], _, _ => trivial
  | [i], hx, hk => hk i hx
  | i :: j :: l, hx, hk => by
    unfold xall at hx
    obtain ⟨a, b⟩ := and_t hx
    exact ⟨hk i a, allOf_t (j :: l) b hk⟩
noncomputable def rgOf (l : T Value) (ds : List Nat) : RG := ⟨gt l, ds⟩
theorem gt_set {l l' : T Value} {d : Nat} {v : Value} (h : ∀ j, tget unk l' j = if j = d then v else tget unk l j) : (fun t => bif t == d then v else gt l t) = gt l' := by
  funext t
  unfold gt
  rw [h]
  by_cases e : t = d
  · subst e; simp
  · have e1 : (t == d) = false := by simpa using e
    simp [e1, e]
theorem xput_t {d : Option Nat} {v : Value} {l : T Value} {k : T Value → Bool} (hx : xput d v l k = true) : ∃ l', (rgOf l ds).putO d v = rgOf l' ds ∧ k l' = true := by
  cases d with
  | none => exact ⟨l, rfl, hx⟩
  | some d =>
    simp only [xput, fV_eq] at hx
    obtain ⟨l', h1, h2⟩ := tset_t _ hx
    exact ⟨l', by simp only [RG.putO, RG.p, rgOf]; rw [gt_set h2], h1⟩
def CSound (P : Program) (J : JT) (C : CB) : Prop := ∀ g args x K, C g args x K = true → Good P J g args (hOf x) (KP K)
theorem xopW_t (hC : CSound P J C) {o : Oper} {r : Nat → Value} {x : XH} {K : KB} (hx : xopW P C o.op r x K = true) : opW P (Good P J) o r (hOf x) (KP K) := by
  unfold xopW at hx
  unfold opW
  split at hx
  · rename_i e
    simp only [e]
    rw [fL_eq] at hx
    unfold xcallV at hx
    unfold callV
    split at hx
    · rename_i e2
      simp only [e2]
      obtain ⟨a, b⟩ := and_t hx
      rw [a, cond_true]
      exact hC _ _ _ _ b
    · rename_i e2
      simp only [e2]
      exact hC _ _ _ _ hx
    · cases hx
  · rename_i n
    split
    · rename_i x args ats e
      exact absurd e (n _ _ _)
    · exact xaop_t hx
theorem aop_mono {h : List AObj} {o : Op} {r : Nat → Value} {K K' : Value → List AObj → Prop} (hK : aop P o r h K) (hk : ∀ v h, K v h → K' v h) : aop P o r h K' := by
  by_cases hf : freeOp P o = true
  · obtain ⟨v, a, b⟩ := aop_free hf hK
    exact b h K' (fun _ _ => rfl) (hk _ _ a)
  unfold aop at hK ⊢
  split at hK
  · exact hk _ _ hK
  · exact hk _ _ hK
  · exact absurd rfl hf
  · split at hK
    · exact (hk _ _ hK : aAlloc _ h K')
    · exact hK.elim
  · exact ⟨hK.1, hk _ _ hK.2⟩
  · exact absurd rfl hf
  · split at hK
    · rename_i e0
      try simp only [e0]
      split at hK
      · rename_i e1 e2 e3
        try simp only [e1, e2, e3]
        obtain ⟨c, k1, k2⟩ := pin_aFill _ _ _ hK.2
        exact ⟨hK.1, k2 _ (hk _ _ k1)⟩
      · exact hK.elim
    · exact hK.elim
  · exact absurd rfl hf
  · split at hK
    · rename_i e
      try simp only [e]
      unfold aStore at hK ⊢
      split at hK
      · split at hK
        · rename_i e2
          try simp only [e2]
          exact ⟨hK.1, hK.2.1, hK.2.2.1, hk _ _ hK.2.2.2⟩
        · exact hK.elim
      · exact hK.elim
    · exact hK.elim
  · exact absurd rfl hf
  · exact absurd rfl hf
  · exact absurd rfl hf
  · split at hK
    · rename_i e0
      exact absurd (by simp only [freeOp, e0]) hf
    · rename_i e0
      try simp only [e0]
      split at hK
      · rename_i e1 e2
        try simp only [e1, e2]
        obtain ⟨v, a, b⟩ := pin_aB2S _ hK
        exact b (fun v => K' v h) (hk _ _ a)
      · exact hK.elim
    · exact hK.elim
  · exact absurd rfl hf
  · exact hk _ _ hK
  · split at hK
    · rename_i e0
      try simp only [e0]
      split at hK
      · rename_i e1
        try simp only [e1]
        refine ⟨hK.1, ?_⟩
        have hK := hK.2
        unfold aMkC at hK ⊢
        split at hK
        · exact ⟨hK.1, hk _ _ hK.2⟩
        · exact hK.elim
      · exact hK.elim
    · exact hK.elim
  · split at hK
    · rename_i e0
      try simp only [e0]
      split at hK
      · rename_i e1 e2 e3
        try simp only [e1, e2, e3]
        refine ⟨hK.1, ?_⟩
        have hK := hK.2
        unfold aMkS at hK ⊢
        split at hK
        · exact ⟨hK.1, hK.2.1, hK.2.2.1, hk _ _ hK.2.2.2⟩
        · exact hK.elim
      · exact hK.elim
    · exact hK.elim
  · split at hK
    · rename_i e0
      try simp only [e0]
      split at hK
      · rename_i e1
        try simp only [e1]
        unfold aSl3 at hK ⊢
        split at hK
        · exact ⟨hK.1, hK.2.1, hK.2.2.1, hk _ _ hK.2.2.2⟩
        · exact hK.elim
      · exact hK.elim
    · exact hK.elim
  · split at hK
    · rename_i e0
      try simp only [e0]
      obtain ⟨v, a, b⟩ := pin_aSlStr _ hK
      exact b (fun v => K' v h) (hk _ _ a)
    · rename_i e0
      try simp only [e0]
      split at hK
      · rename_i e1
        try simp only [e1]
        obtain ⟨v, a, b⟩ := pin_aSl2 _ hK
        exact b (fun v => K' v h) (hk _ _ a)
      · exact hK.elim
    · rename_i e0
      try simp only [e0]
      split at hK
      · rename_i e1
        try simp only [e1]
        obtain ⟨v, a, b⟩ := pin_aSlA _ hK
        exact b (fun v => K' v h) (hk _ _ a)
      · exact hK.elim
    · exact hK.elim
  · exact absurd rfl hf
  · exact absurd rfl hf
  · exact absurd rfl hf
  · exact absurd rfl hf
  · exact absurd rfl hf
  · refine ⟨hK.1, ?_⟩
    have hK := hK.2
    unfold aUpd at hK ⊢
    split at hK
    · rename_i e0
      try simp only [e0]
      split at hK
      · rename_i e1
        try simp only [e1]
        exact ⟨hK.1, hK.2.1, hK.2.2.1, hk _ _ hK.2.2.2⟩
      · exact hK.elim
    · exact hK.elim
  · exact absurd rfl hf
  · split at hK
    · exact absurd rfl hf
    · exact absurd rfl hf
    · exact absurd rfl hf
    · exact absurd rfl hf
    · split at hK
      · rename_i e1 e2 _ _ _ _ e3 e4
        try simp only [e1, e2, e3, e4]
        split at hK
        · rename_i e5 e6 e7
          try simp only [e5, e6, e7]
          refine ⟨hK.1, ?_⟩
          have hK := hK.2
          unfold aApp at hK ⊢
          split at hK
          · refine ⟨hK.1, srcCells_mono hK.2 fun ys hy => ?_⟩
            split at hy
            · exact ⟨hy.1, fun e => hk _ _ (hy.2.1 e), fun e => hk _ _ (hy.2.2 e)⟩
            · split at hy
              · rename_i e8
                try simp only [e8]
                refine ⟨hy.1, fun e => ⟨fun e2 => ?_, fun e2 => hk _ _ ((hy.2.1 e).2 e2)⟩, fun e => ?_⟩
                · have := (hy.2.1 e).1 e2
                  exact ⟨this.1, this.2.1, hk _ _ this.2.2⟩
                · have := hy.2.2 e
                  exact ⟨this.1, this.2.1, this.2.2.1, this.2.2.2.1, hk _ _ this.2.2.2.2⟩
              · exact hy.elim
            · exact hy.elim
          · exact hK.elim
        · exact hK.elim
      · rename_i e1 e2 _ _ _ _ _ e3 e4
        try simp only [e1, e2, e3, e4]
        split at hK
        · rename_i e5 e6 e7
          try simp only [e5, e6, e7]
          refine ⟨hK.1, ?_⟩
          have hK := hK.2
          unfold aAppZ at hK ⊢
          split at hK
          · exact ⟨hK.1, fun e => hk _ _ (hK.2.1 e), fun e => hk _ _ (hK.2.2 e)⟩
          · exact hK.elim
        · exact hK.elim
      · exact hK.elim
    · split at hK
      · rename_i e1 e2 _ _ _ _ e3 e4
        try simp only [e1, e2, e3, e4]
        split at hK
        · rename_i e5
          try simp only [e5]
          refine ⟨hK.1, ?_⟩
          have hK := hK.2
          unfold aCopy at hK ⊢
          split at hK
          · refine srcCells_mono hK fun ys hy => ?_
            split at hy
            · exact hk _ _ hy
            · split at hy
              · rename_i e8
                try simp only [e8]
                exact ⟨hy.1, hk _ _ hy.2⟩
              · exact hy.elim
            · exact hy.elim
          · exact hK.elim
        · exact hK.elim
      · exact hK.elim
    · exact hK.elim
  · exact hK.elim
theorem opW_mono {h : List AObj} {o : Oper} {r : Nat → Value} {K K' : Value → List AObj → Prop} (hK : opW P (Good P J) o r h K) (hk : ∀ v h, K v h → K' v h) : opW P (Good P J) o r h K' := by
  unfold opW at hK ⊢
  split at hK
  · rename_i e
    try simp only [e]
    unfold callV at hK ⊢
    split at hK
    · rename_i g first cap e2
      try simp only [e2]
      cases hb : Nat.blt g P.funcs.size with
      | true => rw [hb] at hK; exact Good.mono hK hk
      | false => rw [hb] at hK; exact hK.elim
    · rename_i e2
      try simp only [e2]
      exact Good.mono hK hk
    · exact hK.elim
  · exact aop_mono hK hk
def skOk (sk : List Nat) (dec : Dec) : Prop := ∀ j ∈ sk, dfind j dec = some none
theorem xgd_gd {sk : List Nat} {o : Oper} {r : Nat → Value} {w : Bool} (hg : xgd ops sk o r = some w) : gd ops o r = some w := by
  unfold xgd at hg
  unfold gd
  split at hg
  · rename_i e; rw [e]; exact hg
  · rename_i j want e
    rw [e]
    simp only [bind_dst]
    split at hg
    · rename_i t ht
      rw [ht]
      simp only
      split at hg
      · rename_i e2; rw [e2]; exact hg
      · rename_i e2
        rw [e2]
        cases hs : sk.any fun i => Nat.beq i j with
        | true => rw [hs] at hg; exact hg
        | false => rw [hs] at hg; cases hg
      · cases hg
    · cases hg
theorem goG_ex {sk : List Nat} {dec : Dec} {o : Oper} {f : RG} {w : Bool} (hg : xgd ops sk o f.r = some w) (hd : decOk ops dec f) (hs : skOk sk dec) : ∃ dec', decOk ops dec' f ∧ skOk sk dec' ∧ ∀ A : Bool → Dec → RG → Prop, A w dec' f → goG ops dec o f A := by
  unfold xgd at hg
  unfold goG
  cases hgu : o.guard with
  | none =>
    rw [hgu] at hg
    cases hg
    exact ⟨dec, hd, hs, fun A h => h⟩
  | some jw =>
    obtain ⟨j, want⟩ := jw
    rw [hgu] at hg
    simp only at hg ⊢
    cases hdst : dstOf ops j with
    | none => rw [hdst] at hg; cases hg
    | some t =>
      rw [hdst] at hg
      simp only at hg
      split at hg
      · rename_i b hb
        cases hg
        cases hf : dfind j dec with
        | some b' =>
          obtain ⟨t', h1, h2⟩ := hd j b' hf
          rw [hdst] at h1
          cases h1
          rw [hb] at h2
          cases b' with
          | none => cases h2
          | some b' =>
            cases h2
            exact ⟨dec, hd, hs, fun A h => h⟩
        | none =>
          refine ⟨(j, some b) :: dec, fun i x hi => ?_, fun i hi => ?_, fun A h => ?_⟩
          · unfold dfind at hi
            by_cases e : j = i
            · subst e
              simp at hi
              subst hi
              exact ⟨t, hdst, hb⟩
            · have : (j == i) = false := by simpa using e
              rw [this, cond_false] at hi
              exact hd i x hi
          · have hi' := hs i hi
            unfold dfind
            have : (j == i) = false := by
              have : j ≠ i := fun e => by rw [e] at hf; rw [hf] at hi'; cases hi'
              simpa using this
            rw [this, cond_false]
            exact hi'
          · simp only
            rw [hb]
            cases b with
            | true =>
              show A _ _ (f.p t (.bool true))
              rw [put_self hb]
              exact h
            | false =>
              show A _ _ (f.p t (.bool false))
              rw [put_self hb]
              exact h
      · rename_i hb
        cases hk : sk.any fun i => Nat.beq i j with
        | false => rw [hk] at hg; cases hg
        | true =>
          rw [hk, cond_true] at hg
          cases hg
          obtain ⟨i, hi, e⟩ := List.any_eq_true.1 hk
          have e : i = j := Nat.eq_of_beq_eq_true e
          subst e
          rw [hs i hi]
          exact ⟨dec, hd, hs, fun A h => h⟩
      · cases hg
theorem dfind_drop {d j : Nat} (hj : dstOf ops j ≠ some d) : ∀ {dec : Dec}, dfind j (forget ops (some d) dec) = dfind j dec
  | [] => rfl
  | (i, c) :: l => by
    have ih := dfind_drop hj (dec := l)
    unfold forget at ih ⊢
    simp only [List.filter_cons]
    by_cases e : i = j
    · subst e
      have hne : (dstOf ops i == some d) = false := by simpa using hj
      simp [hne, dfind]
    · have hij : (i == j) = false := by simpa using e
      have e2 : ∀ l' : Dec, dfind j ((i, c) :: l') = dfind j l' := fun l' => by
        show (bif i == j then some c else dfind j l') = _
        rw [hij, cond_false]
      split
      · rw [e2, e2]
        exact ih
      · rw [e2]
        exact ih
theorem skDrop_ok {sk : List Nat} {dec : Dec} {d : Option Nat} (hs : skOk sk dec) : skOk (skDrop ops d sk) (forget ops d dec) := by
  unfold skDrop
  split
  · intro j hj; cases hj
  · exact hs
  · rename_i d _
    intro j hj
    obtain ⟨h1, h2⟩ := List.mem_filter.1 hj
    rw [dfind_drop]
    · exact hs j h1
    · intro e
      rw [e] at h2
      simp at h2
theorem skAdd_ok {sk : List Nat} {dec : Dec} {i : Nat} {d : Option Nat} (hs : skOk sk dec) : skOk (skAdd ops i d sk) (skipD ops i d dec) := by
  cases d with
  | none => exact hs
  | some d =>
    intro j hj
    unfold skipD dfind
    by_cases e : i = j
    · subst e; simp
    · have hij : (i == j) = false := by simpa using e
      rw [hij, cond_false]
      rcases List.mem_cons.1 hj with rfl | hj
      · exact absurd rfl e
      · exact skDrop_ok (d := some d) hs j hj
def LP (ds : List Nat) (K : LB) : RG → List AObj → Prop := fun f h => ∃ l x, f = rgOf l ds ∧ h = hOf x ∧ K l x = true
theorem xops_t (hC : CSound P J C) : ∀ (os : List Nat) {sk : List Nat} {dec : Dec} {l : T Value} {x : XH} {K : LB}, decOk ops dec (rgOf l ds) → skOk sk dec → xops P C N ops os l x sk K = true → opsW P (Good P J) N ops os dec (rgOf l ds) (hOf x) (LP ds K)
  | [], sk, dec, l, x, K, hd, hs, hx => ⟨l, x, rfl, rfl, hx⟩
  | i :: os, sk, dec, l, x, K, hd, hs, hx => by
    change (match ops[i]? with
      | some o => dstOk N o && match xgd ops sk o (gt l) with
        | some true => xopW P C o.op (gt l) x fun v h => xput o.dst v l fun l => xops P C N ops os l h (skDrop ops o.dst sk) K
        | some false => xput o.dst undef l fun l => xops P C N ops os l x (skAdd ops i o.dst sk) K
        | none => false
      | none => false) = true at hx
    unfold opsW
    split at hx
    · rename_i o ho
      rw [ho]
      simp only
      obtain ⟨a, hx⟩ := and_t hx
      rw [a, cond_true]
      split at hx
      · rename_i hg
        obtain ⟨dec', hd', hs', hgo⟩ := goG_ex (f := rgOf l ds) hg hd hs
        refine hgo _ ?_
        rw [cond_true]
        refine opW_mono (xopW_t hC hx) fun v h' hk => ?_
        obtain ⟨x', rfl, hk⟩ := hk
        obtain ⟨l', e, hk⟩ := xput_t (ds := ds) hk
        have hd2 := decOk_put (v := v) (d := o.dst) hd'
        rw [e] at hd2 ⊢
        exact xops_t hC os hd2 (skDrop_ok hs') hk
      · rename_i hg
        obtain ⟨dec', hd', hs', hgo⟩ := goG_ex (f := rgOf l ds) hg hd hs
        refine hgo _ ?_
        rw [cond_false]
        obtain ⟨l', e, hk⟩ := xput_t (ds := ds) hx
        have hd2 := decOk_skip ho hd'
        rw [e] at hd2 ⊢
        exact xops_t hC os hd2 (skAdd_ok hs') hk
      · cases hx
    · cases hx
theorem xany_t (hC : CSound P J C) {B : Option (List Nat)} {x0 : XH} : ∀ (n : Nat) (L : Array Bool) (sok : Bool) (dec : Dec) {sk : List Nat} {l : T Value} {x : XH} {K : LB}, decOk ops dec (rgOf l ds) → skOk sk dec → xany P C N ops B x0 n L sok l x sk K = true → anyW P (Good P J) N ops B (hOf x0) n L sok dec (rgOf l ds) (hOf x) (LP ds K) := by
  intro n
  induction n with
  | zero =>
    intro L sok dec sk l x K hd hs hx
    unfold xany at hx
    unfold anyW
    obtain ⟨a, b⟩ := and_t hx
    rw [a, cond_true]
    exact ⟨l, x, rfl, rfl, b⟩
  | succ n ih =>
    intro L sok dec sk l x K hd hs hx
    unfold xany at hx
    unfold anyW
    split at hx
    · rename_i i hp
      rw [hp]
      simp only
      split at hx
      · rename_i o ho
        rw [ho]
        simp only
        obtain ⟨a, hx⟩ := and_t hx
        rw [a, cond_true]
        obtain ⟨a, a2⟩ := and_t a
        split at hx
        · rename_i hg
          obtain ⟨dec', hd', hs', hgo⟩ := goG_ex (f := rgOf l ds) hg hd hs
          refine hgo _ ?_
          rw [cond_true]
          refine opW_mono (xopW_t hC hx) fun v h' hk => ?_
          obtain ⟨x', _, hk⟩ := hk
          obtain ⟨k1, k2⟩ := and_t hk
          obtain ⟨l', e, hk⟩ := xput_t (ds := ds) k2
          have hd2 := decOk_put (v := v) (d := o.dst) hd'
          rw [e] at hd2 ⊢
          cases hb : isRead o.op && B.isSome with
          | true =>
            rw [cond_true]
            refine ⟨?_, ih _ _ _ hd2 (skDrop_ok hs') hk⟩
            rw [hb] at k1
            exact xrd_t k1
          | false =>
            rw [cond_false]
            exact ih _ _ _ hd2 (skDrop_ok hs') hk
        · rename_i hg
          obtain ⟨dec', hd', hs', hgo⟩ := goG_ex (f := rgOf l ds) hg hd hs
          refine hgo _ ?_
          rw [cond_false]
          obtain ⟨l', e, hk⟩ := xput_t (ds := ds) hx
          have hd2 := decOk_skip ho hd'
          rw [e] at hd2 ⊢
          exact ih _ _ _ hd2 (skAdd_ok hs') hk
        · cases hx
      · cases hx
    · rename_i hp
      rw [hp]
      simp only
      cases he : (Region.ready .any ops L).isEmpty with
      | true =>
        rw [he, cond_true] at hx
        rw [cond_true]
        exact ⟨l, x, rfl, rfl, hx⟩
      | false =>
        rw [he, cond_false] at hx
        rw [cond_false]
        refine allOf_t _ hx fun i hx => ?_
        split at hx
        · rename_i o ho
          rw [ho]
          simp only
          obtain ⟨a, hx⟩ := and_t hx
          rw [a, cond_true]
          split at hx
          · rename_i hg
            obtain ⟨dec', hd', hs', hgo⟩ := goG_ex (f := rgOf l ds) hg hd hs
            refine hgo _ ?_
            rw [cond_true]
            refine opW_mono (xopW_t hC hx) fun v h' hk => ?_
            obtain ⟨x', rfl, hk⟩ := hk
            have hd2 := decOk_put (v := v) (d := o.dst) hd'
            cases hn : sNeed P ops i o with
            | true =>
              simp only [hn, cond_true] at hk
              rw [cond_true]
              obtain ⟨k1, k2⟩ := and_t hk
              obtain ⟨l', e, hk⟩ := xput_t (ds := ds) k2
              rw [e] at hd2 ⊢
              exact ⟨xsame_t k1, ih _ _ _ hd2 (skDrop_ok hs') hk⟩
            | false =>
              simp only [hn, cond_false] at hk
              rw [cond_false]
              obtain ⟨l', e, hk⟩ := xput_t (ds := ds) hk
              rw [e] at hd2 ⊢
              exact ih _ _ _ hd2 (skDrop_ok hs') hk
          · rename_i hg
            obtain ⟨dec', hd', hs', hgo⟩ := goG_ex (f := rgOf l ds) hg hd hs
            refine hgo _ ?_
            rw [cond_false]
            obtain ⟨k1, k2⟩ := and_t hx
            have k1 : (sNeed P ops i o && !sok) = false := by
              cases hs : sNeed P ops i o && !sok with
              | false => rfl
              | true => rw [hs] at k1; cases k1
            rw [k1, cond_false]
            obtain ⟨l', e, hk⟩ := xput_t (ds := ds) k2
            have hd2 := decOk_skip ho hd'
            rw [e] at hd2 ⊢
            exact ih _ _ _ hd2 (skAdd_ok hs') hk
          · cases hx
        · cases hx
theorem anyW_rd {o : Oper} {R : List Nat} {r : Nat → Value} {A : List Nat → Prop} (h : ∃ B, (∀ b ∈ (readOf o.op r).toList ++ R, b ∈ B) ∧ A B) : ∃ B, (∀ b ∈ R, b ∈ B) ∧ RdOk (some B) (readOf o.op r) ∧ A B := by
  obtain ⟨B, h1, h2⟩ := h
  refine ⟨B, fun b hb => h1 b (by simp [hb]), ?_, h2⟩
  unfold RdOk
  cases hr : readOf o.op r with
  | none => trivial
  | some b => exact h1 b (by simp [hr])
theorem xpre_t (hC : CSound P J C) : ∀ (n : Nat) (L : Array Bool) (R : List Nat) (dec : Dec) {sk : List Nat} {l : T Value} {x : XH} {K : LB}, decOk ops dec (rgOf l ds) → skOk sk dec → xpre P C N ops n L R l x sk K = true →
    ∃ B, (∀ b ∈ R, b ∈ B) ∧ anyW P (Good P J) N ops (some B) (hOf x) n L true dec (rgOf l ds) (hOf x) (LP ds K) := by
  intro n
  induction n with
  | zero =>
    intro L R dec sk l x K hd hs hx
    exact ⟨R, fun b hb => hb, xany_t hC 0 L true dec hd hs hx⟩
  | succ n ih =>
    intro L R dec sk l x K hd hs hx
    unfold xpre at hx
    split at hx
    · rename_i i hp
      split at hx
      · rename_i o ho
        obtain ⟨a, hx⟩ := and_t hx
        have hfr : isFree P o = true := by
          have := List.find?_some hp
          rw [ho] at this
          simp only [Bool.and_eq_true] at this
          exact this.1
        split at hx
        · rename_i hg
          have hgd := xgd_gd hg
          obtain ⟨v, hv, hrep⟩ := opG_free (C := Good P J) (ops := ops) (r := gt l) hfr (by unfold opG; rw [hgd]; exact xopW_t hC hx)
          obtain ⟨x', hxx, hv⟩ := hv
          obtain ⟨l', e, hk⟩ := xput_t (ds := ds) hv
          obtain ⟨dec', hd', hs', hgo⟩ := goG_ex (f := rgOf l ds) hg hd hs
          have hd2 := decOk_put (v := v) (d := o.dst) hd'
          rw [e] at hd2
          obtain ⟨B, b1, b2⟩ := ih (L.setIfInBounds i true) ((readOf o.op (gt l)).toList ++ R) _ hd2 (skDrop_ok hs') hk
          obtain ⟨B, c1, c2, c3⟩ := anyW_rd (A := fun B => anyW P (Good P J) N ops (some B) (hOf x) n (L.setIfInBounds i true) true (forget ops o.dst dec') (rgOf l' ds) (hOf x) (LP ds K)) ⟨B, b1, b2⟩
          refine ⟨B, c1, ?_⟩
          unfold anyW
          rw [hp]
          simp only [ho]
          rw [a]
          simp only [Bool.or_true, Bool.and_true, cond_true]
          refine hgo _ ?_
          simp only [cond_true]
          have := hrep (hOf x) (fun v _ => bif isRead o.op && (some B).isSome then RdOk (some B) (readOf o.op (gt l)) ∧ anyW P (Good P J) N ops (some B) (hOf x) n (L.setIfInBounds i true) true (forget ops o.dst dec') ((rgOf l ds).putO o.dst v) (hOf x) (LP ds K) else anyW P (Good P J) N ops (some B) (hOf x) n (L.setIfInBounds i true) true (forget ops o.dst dec') ((rgOf l ds).putO o.dst v) (hOf x) (LP ds K)) (fun _ _ => rfl) (by
            rw [e]
            cases isRead o.op with
            | true => exact ⟨c2, c3⟩
            | false => exact c3)
          unfold opG at this
          rw [hgd] at this
          exact this
        · rename_i hg
          obtain ⟨l', e, hk⟩ := xput_t (ds := ds) hx
          obtain ⟨dec', hd', hs', hgo⟩ := goG_ex (f := rgOf l ds) hg hd hs
          have hd2 := decOk_skip ho hd'
          rw [e] at hd2
          obtain ⟨B, b1, b2⟩ := ih (L.setIfInBounds i true) R _ hd2 (skAdd_ok hs') hk
          refine ⟨B, b1, ?_⟩
          unfold anyW
          rw [hp]
          simp only [ho]
          rw [a]
          simp only [Bool.or_true, Bool.and_true, cond_true]
          refine hgo _ ?_
          simp only [cond_false]
          rw [e]
          exact b2
        · cases hx
      · cases hx
    · exact ⟨R, fun b hb => hb, xany_t hC (n + 1) L true dec hd hs hx⟩
theorem xdraw_t (hC : CSound P J C) {l : T Value} {x : XH} {K : LB} (hx : xdraw P C N ops l x K = true) : drawW P (Good P J) N ops (rgOf l ds) (hOf x) (LP ds K) := by
  unfold xdraw at hx
  unfold drawW
  have h0 : skOk [] [] := fun j hj => by cases hj
  cases hs : still P ops with
  | true =>
    rw [hs, cond_true] at hx
    rw [cond_true]
    exact xany_t hC _ _ _ _ (fun j b e => by cases e) h0 hx
  | false =>
    rw [hs, cond_false] at hx
    rw [cond_false]
    obtain ⟨B, _, hB⟩ := xpre_t (ds := ds) hC _ _ _ [] (fun j b e => by cases e) h0 hx
    exact ⟨B, hB⟩
end
abbrev QB := Exit → T Value → List Nat → XH → Bool
noncomputable def xjump (pend : Option Code) (Q : QB) (l : T Value) (ds : List Nat) (h : XH) : Bool :=
  match pend with
  | none => Q .normal l ds h
  | some .ret => Q .ret l ds h
  | some (.exit id) => Q (.exit id) l ds h
  | _ => false
noncomputable def seqQ (Q : QB) (k : T Value → List Nat → XH → Bool) : QB := fun e l ds h =>
  match e with
  | .normal => k l ds h
  | e => Q e l ds h
noncomputable def blkQ (id : Nat) (Q : QB) : QB := fun e l ds h =>
  match e with
  | .exit i => bif i == id then Q .normal l ds h else Q (.exit i) l ds h
  | e => Q e l ds h
noncomputable def xcnd (v : Value) (a b : Bool) : Bool :=
  match v with
  | .bool true => a
  | .bool false => b
  | _ => false
noncomputable def xrange (P : Program) (C : CB) (N fn : Nat) (v : Value) (params : Array Tmp) (assign body : Code) (l : T Value) (ds : List Nat) (x : XH) (Q : QB) : Bool :=
  match v with
  | .func (.func g) ⟨first⟩ ⟨cap⟩ => (Nat.blt fn 1000000 && Nat.blt g P.funcs.size) && hpush x .deferred fun h => hpush h (.loop .ready none fn (gt l) N params assign body x.n) fun y =>
      C g (first ++ [.func (.yield (x.n + 1)) ⟨[]⟩ ⟨[]⟩] ++ cap) y fun _ h' => hg h' (x.n + 1) fun o =>
        match o with
        | .loop st pend _ _ _ _ _ _ _ => !(st == .busy) && hset h' (x.n + 1) .dead fun h' => xjump pend Q l (x.n :: ds) h'
        | _ => false
  | _ => false
def ordF (P : Program) (ops : Array Oper) : Nat → Array Bool → List Nat
  | 0, _ => []
  | n + 1, L => match pickN P ops L with
    | some i => i :: ordF P ops n (L.setIfInBounds i true)
    | none => match Region.ready .any ops L with
      | [] => []
      | i :: _ => i :: ordF P ops n (L.setIfInBounds i true)
def multi (P : Program) (ops : Array Oper) : Nat → Array Bool → Bool
  | 0, _ => false
  | n + 1, L => match pickN P ops L with
    | some i => multi P ops n (L.setIfInBounds i true)
    | none => match Region.ready .any ops L with
      | [] => false
      | [i] => multi P ops n (L.setIfInBounds i true)
      | _ => true
def blkV : Value → Option Nat
  | .pointer (some a) => some a.block
  | .slice (some a) _ _ => some a.block
  | .map (some b) => some b
  | _ => none
def sg : List (Nat × Nat) → Nat → Nat
  | [], b => b
  | (a, c) :: l, b => bif Nat.beq a b then c else sg l b
def swp (l : List (Nat × Nat)) : List (Nat × Nat) := l.map fun p => (p.2, p.1)
def addP (n0 : Nat) (a b : Value) (acc : List (Nat × Nat)) (k : List (Nat × Nat) → Bool) : Bool :=
  match blkV a, blkV b with
  | some x, some y => bif Nat.ble n0 x && !(acc.any fun p => Nat.beq p.1 x) then fN x fun x => fN y fun y => k ((x, y) :: acc) else k acc
  | _, _ => k acc
noncomputable def prs (n0 : Nat) : T Value → T Value → List (Nat × Nat) → (List (Nat × Nat) → Bool) → Bool
  | .node a l r, .node b l' r', acc, k => addP n0 a b acc fun acc => prs n0 l l' acc fun acc => prs n0 r r' acc k
  | _, _, acc, k => k acc
noncomputable def simT (σ : Nat → Nat) : T Value → T Value → Bool
  | .nil, .nil => true
  | .node a l r, .node b l' r' => simV σ a b && simT σ l l' && simT σ r r'
  | _, _ => false
def isDead : AObj → Bool
  | .dead => true
  | _ => false
noncomputable def xsim (n0 : Nat) (l1 : T Value) (x1 : XH) (l2 : T Value) (x2 : XH) : Bool :=
  prs n0 l1 l2 [] fun s => (s.all fun p => Nat.ble n0 p.1) && simT (sg s) l1 l2 &&
    (List.range x1.n).all fun i => (Nat.beq (sg (swp s) (sg s i)) i) && ((isDead (tget .dead x1.t i)) || hg x2 (sg s i) fun o => simO (sg s) (tget .dead x1.t i) o)
noncomputable def xjoin (P : Program) (C : CB) (N : Nat) (ops : Array Oper) (l : T Value) (x : XH) (k : T Value → XH → Bool) : Bool :=
  xops P C N ops (ordF P ops ops.size (Array.replicate ops.size false)) l x [] fun l1 x1 => xdraw P C N ops l x (fun l2 x2 => xsim x.n l1 x1 l2 x2) && k l1 x1
def joinOf (P : Program) : Code → Option (Array Oper)
  | .region _ ops true => bif multi P ops ops.size (Array.replicate ops.size false) then some ops else none
  | _ => none
noncomputable def xseq (P : Program) (C : CB) (N : Nat) (a : Code) (ra rb : T Value → List Nat → XH → QB → Bool) (l : T Value) (ds : List Nat) (h : XH) (Q : QB) : Bool :=
  match joinOf P a with
  | some ops => xjoin P C N ops l h fun l h => rb l ds h Q
  | none => ra l ds h (seqQ Q fun l ds h => rb l ds h Q)
noncomputable def xC (P : Program) (C : CB) (N fn : Nat) (lp : Code → T Value → List Nat → XH → QB → Bool) (c : Code) : T Value → List Nat → XH → QB → Bool :=
  Code.rec (motive := fun _ => T Value → List Nat → XH → QB → Bool)
    (fun l ds h Q => Q .normal l ds h)
    (fun _ ops draw l ds h Q => bif draw then xdraw P C N ops l h fun l h => Q .normal l ds h else xops P C N ops (List.range ops.size) l h [] fun l h => Q .normal l ds h)
    (fun a _ iha ihb l ds h Q => xseq P C N a iha ihb l ds h Q)
    (fun c _ _ iha ihb l ds h Q => xcnd (ev (gt l) c) (iha l ds h Q) (ihb l ds h Q))
    (fun id _ ih l ds h Q => ih l ds h (blkQ id Q))
    (fun b _ l ds h Q => lp b l ds h Q)
    (fun fop params assign body _ _ l ds h Q => xrange P C N fn (ev (gt l) fop) params assign body l ds h Q)
    (fun id l ds h Q => Q (.exit id) l ds h)
    (fun _ ih l ds h Q => ih l ds h Q)
    (fun _ l ds h Q => Q .normal l ds h)
    (fun _ _ _ _ _ => false)
    (fun l ds h Q => Q .ret l ds h)
    (fun _ _ _ _ _ => false) c
noncomputable def xtake : List Nat → XH → (XH → Bool) → Bool
  | [], h, K => K h
  | d :: ds, h, K => hg h d fun o => match o with
    | .deferred => hset h d .dead fun h => xtake ds h K
    | _ => false
def isU : Value → Bool
  | .tuple ⟨[.tuple ⟨[]⟩]⟩ => true
  | _ => false
noncomputable def xres (P : Program) : List ResultVar → (Nat → Value) → XH → (List Value → Bool) → Bool
  | [], _, _, K => K []
  | .tmp t :: rs, r, h, K => fV (r t) fun v => !isU v && xres P rs r h fun vs => K (v :: vs)
  | .cell a t :: rs, r, h, K => match tk P t with
    | some (g, s) => xLoad g s (r a) h fun v => xres P rs r h fun vs => K (v :: vs)
    | none => false
noncomputable def xputs : T Value → List Nat → List Value → (T Value → Bool) → Bool
  | l, t :: ts, v :: vs, K => tset unk 9 l t v fun l => xputs l ts vs K
  | l, _, _, K => K l
noncomputable def xroundC (l : Nat) (K : KB) (e : Exit) (h : XH) (o : AObj) : Bool :=
  match o with
  | .loop _ _ fn r size params assign body dfr =>
    match e with
    | .normal => hset h l (.loop .ready none fn r size params assign body dfr) fun h => K (.bool true) h
    | .exit id => hset h l (.loop .done (some (.exit id)) fn r size params assign body dfr) fun h => K (.bool false) h
    | .ret => hset h l (.loop .done (some .ret) fn r size params assign body dfr) fun h => K (.bool false) h
    | _ => false
  | _ => false
noncomputable def xround (l : Nat) (K : KB) : QB := fun e _ _ h => hg h l (xroundC l K e h)
noncomputable def xret (P : Program) (rs : List ResultVar) (K : KB) : QB := fun e l ds h =>
  match e with
  | .normal | .ret => xtake ds h fun h => xres P rs (gt l) h fun vs => K (pack vs) h
  | _ => false
noncomputable def regT (r : Nat → Value) : Nat → (T Value → Bool) → Bool
  | 0, k => k .nil
  | n + 1, k => regT r n fun l => fV (r n) fun v => tset unk 9 l n v k
noncomputable def xenter (P : Program) (C : CB) (lp : Nat → Nat → Code → T Value → List Nat → XH → QB → Bool) (g : FuncId) (args : List Value) (h : XH) (K : KB) (fn : Func) : Bool :=
  match fn.body with
  | some c => (Nat.ble args.length fn.ntmps && !(fn.name == "runtime.NumGoroutine")) && xputs .nil (List.range args.length) args fun l =>
    xC P C fn.ntmps g (lp fn.ntmps g) c l [] h (xret P fn.results.toList K)
  | none => false
noncomputable def xinto (P : Program) (C : CB) (lp : Nat → Nat → Code → T Value → List Nat → XH → QB → Bool) (l : Nat) (args : List Value) (h : XH) (K : KB) (o : AObj) : Bool :=
  match o with
  | .loop .ready _ fn r size params assign body _ => (params.size == args.length && params.toList.all fun t => Nat.blt t size) && regT r size fun t => xputs t params.toList args fun t =>
    xC P C size (fn + 1000000) (lp size (fn + 1000000)) assign t [] h fun e t ds h =>
      match e, ds with
      | .normal, [] => hg h l fun o => match o with
        | .loop .ready pend fn' r' size' params' assign' body' dfr' => hset h l (.loop .busy pend fn' r' size' params' assign' body' dfr') fun h =>
          xC P C size (fn + 1000000) (lp size (fn + 1000000)) body t [] h (xround l K)
        | _ => false
      | _, _ => false
  | _ => false
mutual
/-- A call. -/
noncomputable def xcall (P : Program) : Nat → CB
  | 0, _, _, _, _ => false
  | n + 1, g, args, h, K =>
    match P.funcs[g]? with
    | some fn => xenter P (xcall P n) (xloop P n) g args h K fn
    | none => Nat.ble P.funcs.size g && hg h (g - P.funcs.size) (xinto P (xcall P n) (xloop P n) (g - P.funcs.size) args h K)
/-- A loop. -/
noncomputable def xloop (P : Program) : Nat → Nat → Nat → Code → T Value → List Nat → XH → QB → Bool
  | 0, _, _, _, _, _, _, _ => false
  | n + 1, N, fn, b, l, ds, h, Q => xC P (xcall P n) N fn (xloop P n N fn) b l ds h (seqQ Q fun l ds h => xloop P n N fn b l ds h Q)
end
def JF : JT := fun _ _ _ => False
theorem closedF (P : Program) (main : Bool) : Closed P main JF where
  rely := fun h _ => h
  step := fun _ h => by
    obtain ⟨_, _, _, _, _, _, h⟩ := h _ (RelyW.refl _ _)
    exact h
section
variable {P : Program} {main : Bool} {J : JT} {C : CB} {N n0 : Nat} {ds : List Nat} {fn : FuncId} {ops : Array Oper}
def QP (Q : QB) : QT := fun e f h => ∃ l ds x, f = rgOf l ds ∧ h = hOf x ∧ Q e l ds x = true
theorem xjump_t {pend : Option Code} {Q : QB} {l : T Value} {ds : List Nat} {x : XH} (hx : xjump pend Q l ds x = true) : jumpQ pend (QP Q) ⟨gt l, ds⟩ (hOf x) := by
  unfold xjump at hx
  unfold jumpQ
  split at hx
  · exact ⟨l, ds, x, rfl, rfl, hx⟩
  · exact ⟨l, ds, x, rfl, rfl, hx⟩
  · exact ⟨l, ds, x, rfl, rfl, hx⟩
  · cases hx
def LSound (J : JT) (N n0 : Nat) (fn : FuncId) (lp : Code → T Value → List Nat → XH → QB → Bool) : Prop := ∀ b l ds x Q, lp b l ds x Q = true → Sem J N n0 fn (.loop b) (rgOf l ds) (hOf x) (QP Q)
theorem first_run (hC : CSound P JF C) {todo : List Nat} {l : T Value} {x : XH} {K : LB} (hx : xops P C N ops todo l x [] K = true) {ρ : Env} {FC : Frm} {w : World} {ft : Foot} {a : Act}
    (A : ActRel (hOf x).length ρ N (rgOf l ds) a) (H : HRel ρ (hOf x) FC w ft) : ∃ l1 x1, K l1 x1 = true ∧ heapOk (hOf x1) ∧ (∀ t, gt l1 t = unk ∨ VOk (hOf x1).length (gt l1 t)) ∧ (hOf x).length ≤ (hOf x1).length := by
  have hs := SemOps_of (J := JF) (N := N) (n0 := (hOf x).length) (fn := 0) (Q := fun e f h => e = .normal ∧ LP ds K f h) (closedF P true) todo (dec := []) (fun j b e => by cases e) (by simpa using xops_t (ds := ds) hC todo (fun j b e => by cases e) (fun j hj => by cases hj) hx)
  refine Classical.byContradiction fun hn => ?_
  refine hs ⟨0, .normal, none⟩ a [] [] (fun _ _ _ _ => False) ρ FC w ft rfl (by simp) (fun _ _ _ _ _ z _ => z.elim) A H (Nat.le_refl _) ?_
  intro e f' h' ρ' w' ft' a' q A' H' hu hl
  obtain ⟨rfl, l1, x1, rfl, rfl, hk⟩ := q
  exact hn ⟨l1, x1, hk, H'.ok, fun t => (A'.regs t).imp id fun z => z.1, hl⟩
theorem simT_t {σ : Nat → Nat} : ∀ {l1 l2 : T Value}, simT σ l1 l2 = true → ∀ t, gt l2 t = sub σ (gt l1 t)
  | .nil, .nil, _, t => by simp [gt, tget_nil, sub_undef]
  | .node a l r, .node b l' r', hx, t => by
    unfold simT at hx
    obtain ⟨x, y⟩ := and_t hx
    obtain ⟨x, z⟩ := and_t x
    cases t with
    | zero => exact simV_t x
    | succ t =>
      unfold gt
      rw [tget_node, tget_node]
      split
      · exact simT_t z _
      · exact simT_t y _
  | .nil, .node b l' r', hx, t => by cases hx
  | .node a l r, .nil, hx, t => by cases hx
theorem addP_ex {n0 : Nat} {a b : Value} {acc : List (Nat × Nat)} {k : List (Nat × Nat) → Bool} (hx : addP n0 a b acc k = true) : ∃ s, k s = true := by
  unfold addP at hx
  split at hx
  · rename_i x y _ _
    cases hc : (Nat.ble n0 x && !(acc.any fun p => Nat.beq p.1 x)) with
    | true =>
      rw [hc, cond_true, fN_eq, fN_eq] at hx
      exact ⟨_, hx⟩
    | false =>
      rw [hc, cond_false] at hx
      exact ⟨_, hx⟩
  · exact ⟨_, hx⟩
theorem prs_ex {n0 : Nat} : ∀ (l1 l2 : T Value) {acc : List (Nat × Nat)} {k : List (Nat × Nat) → Bool}, prs n0 l1 l2 acc k = true → ∃ s, k s = true
  | .node a l r, .node b l' r', acc, k, hx => by
    unfold prs at hx
    obtain ⟨s1, hx⟩ := addP_ex hx
    obtain ⟨s2, hx⟩ := prs_ex l l' hx
    exact prs_ex r r' hx
  | .nil, l2, acc, k, hx => by
    unfold prs at hx
    exact ⟨_, hx⟩
  | .node a l r, .nil, acc, k, hx => by
    unfold prs at hx
    exact ⟨_, hx⟩
theorem sg_same {n : Nat} : ∀ {s : List (Nat × Nat)}, (s.all fun p => Nat.ble n p.1) = true → Same n (sg s)
  | [], _, b, _ => rfl
  | (a, c) :: l, hx, b, hb => by
    simp only [List.all_cons, Bool.and_eq_true] at hx
    have := ble_t hx.1
    unfold sg
    have hne : Nat.beq a b = false := by
      cases h : Nat.beq a b with
      | false => rfl
      | true => have := Nat.eq_of_beq_eq_true h; omega
    rw [hne, cond_false]
    exact sg_same hx.2 b hb
theorem xsim_t {n0 n1 : Nat} {l1 l2 : T Value} {x1 x2 : XH} (hx : xsim n1 l1 x1 l2 x2 = true) (ok : heapOk (hOf x1)) (hr : ∀ t, gt l1 t = unk ∨ VOk (hOf x1).length (gt l1 t)) (hn : n0 ≤ n1) (hl : n1 ≤ (hOf x1).length) (hd : ∀ d ∈ ds, d < n1) :
    ∃ σ, GCR n0 σ (rgOf l2 ds) (hOf x2) (rgOf l1 ds) (hOf x1) := by
  unfold xsim at hx
  obtain ⟨s, hx⟩ := prs_ex l1 l2 hx
  obtain ⟨a, b⟩ := and_t hx
  obtain ⟨a1, a2⟩ := and_t a
  have hs := sg_same a1
  have hb : ∀ i, i < x1.n → sg (swp s) (sg s i) = i ∧ (isDead (tget .dead x1.t i) = true ∨ hg x2 (sg s i) (fun o => simO (sg s) (tget .dead x1.t i) o) = true) := by
    intro i hi
    have := List.all_eq_true.1 b i (List.mem_range.2 hi)
    obtain ⟨p, q⟩ := and_t this
    exact ⟨Nat.eq_of_beq_eq_true p, by simpa using q⟩
  have hat : ∀ {i : Nat} {o : AObj}, (hOf x1)[i]? = some o → i < x1.n ∧ o = tget .dead x1.t i := by
    intro i o hi
    have hlt := (List.getElem?_eq_some_iff.1 hi).1
    rw [hOf_len] at hlt
    refine ⟨hlt, ?_⟩
    unfold hOf at hi
    rw [List.getElem?_map, List.getElem?_range hlt] at hi
    simpa using hi.symm
  refine ⟨sg s, ⟨Nat.le_trans hn hl, fun b hb => hs b (Nat.lt_of_lt_of_le hb hn), fun i o hi => ?_, fun i j o o' hi hj _ _ e => ?_, ok⟩, fun t => ?_, ?_, fun b hb => Nat.lt_of_lt_of_le (hd b hb) hl⟩
  · obtain ⟨hlt, rfl⟩ := hat hi
    rcases (hb i hlt).2 with h | h
    · left
      unfold isDead at h
      split at h
      · assumption
      · cases h
    · obtain ⟨o, ho, h⟩ := hg_t h
      right
      rw [ho, (simO_t h).1]
  · have h1 := (hb i (hat hi).1).1
    have h2 := (hb j (hat hj).1).1
    rw [← h1, ← h2, e]
  · rcases hr t with h | h
    · exact .inl h
    · exact .inr ⟨simT_t a2 t, h⟩
  · show ds = ds.map (sg s)
    exact ((List.map_congr_left fun d hd' => hs d (hd d hd')).trans (List.map_id _)).symm
theorem joinOf_t {a : Code} {ops : Array Oper} (h : joinOf P a = some ops) : ∃ id, a = .region id ops true := by
  unfold joinOf at h
  split at h
  · rename_i id ops'
    cases hm : multi P ops' ops'.size (Array.replicate ops'.size false) with
    | true => rw [hm] at h; cases h; exact ⟨id, rfl⟩
    | false => rw [hm] at h; cases h
  · cases h
theorem xjoin_t (hJ : Closed P main J) (hm : P.follows .mixedOrders = true) (hC : CSound P J C) (hC0 : CSound P JF C) {id : Nat} {b : Code} {l : T Value} {x : XH} {k : T Value → XH → Bool} {Q : QT} (hx : xjoin P C N ops l x k = true)
    (hb : ∀ l x, k l x = true → Sem J N n0 fn b (rgOf l ds) (hOf x) Q) : Sem J N n0 fn (.seq (.region id ops true) b) (rgOf l ds) (hOf x) Q := by
  intro b' a' k' cs' L' ρ FC w ft g1 g2 g3 g4 g5 g6 gc
  unfold xjoin at hx
  obtain ⟨l1, x1, hk, ok, hr, hl⟩ := first_run (ds := ds) hC0 hx g4 g5
  obtain ⟨k1, k2⟩ := and_t hk
  have hs : Sem J N n0 fn (.seq (.region id ops true) b) (rgOf l ds) (hOf x) Q := by
    refine Sem_seq hJ ((Sem_region_draw hJ hm (Q := fun e f h => e = .normal ∧ LP ds (fun l2 x2 => xsim x.n l1 x1 l2 x2) f h) (by simpa using xdraw_t (ds := ds) hC k1)).mono ?_)
    rintro e f h ⟨rfl, l2, x2, rfl, rfl, hsim⟩
    rw [hOf_len] at hl g6
    obtain ⟨σ, hg⟩ := xsim_t (ds := ds) hsim ok hr g6 hl (fun d hd => by
      have := g4.ok d hd
      rw [hOf_len] at this
      exact this)
    exact Sem.gc hg (hb l1 x1 k2)
  exact hs b' a' k' cs' L' ρ FC w ft g1 g2 g3 g4 g5 g6 gc
theorem xseq_t (hJ : Closed P main J) (hm : P.follows .mixedOrders = true) (hC : CSound P J C) (hC0 : CSound P JF C) {a b : Code} {ra rb : T Value → List Nat → XH → QB → Bool}
    (ha : ∀ l ds x Q, ra l ds x Q = true → Sem J N n0 fn a (rgOf l ds) (hOf x) (QP Q)) (hb : ∀ l ds x Q, rb l ds x Q = true → Sem J N n0 fn b (rgOf l ds) (hOf x) (QP Q)) {l : T Value} {ds : List Nat} {x : XH} {Q : QB} (hx : xseq P C N a ra rb l ds x Q = true) :
    Sem J N n0 fn (.seq a b) (rgOf l ds) (hOf x) (QP Q) := by
  unfold xseq at hx
  split at hx
  · rename_i ops hj
    obtain ⟨id, rfl⟩ := joinOf_t hj
    exact xjoin_t hJ hm hC hC0 hx fun l x hk => hb l ds x Q hk
  · refine Sem_seq hJ ((ha l ds x _ hx).mono fun e f h q => ?_)
    obtain ⟨l', ds', x', rfl, rfl, hq⟩ := q
    cases e with
    | normal => exact hb _ _ _ _ hq
    | _ => exact ⟨l', ds', x', rfl, rfl, hq⟩
theorem xC_t (hJ : Closed P main J) (hm : P.follows .mixedOrders = true) (hC : CSound P J C) (hC0 : CSound P JF C) {lp : Code → T Value → List Nat → XH → QB → Bool} (hL : LSound J N n0 fn lp) : ∀ (c : Code) (l : T Value) (ds : List Nat) (x : XH) (Q : QB), xC P C N fn lp c l ds x Q = true → Sem J N n0 fn c (rgOf l ds) (hOf x) (QP Q)
  | .skip, l, ds, x, Q, hx => Sem_skip hJ ⟨l, ds, x, rfl, rfl, hx⟩
  | .label _, l, ds, x, Q, hx => Sem_label hJ ⟨l, ds, x, rfl, rfl, hx⟩
  | .ret, l, ds, x, Q, hx => Sem_ret ⟨l, ds, x, rfl, rfl, hx⟩
  | .exit id, l, ds, x, Q, hx => Sem_exit hJ ⟨l, ds, x, rfl, rfl, hx⟩
  | .seq a b, l, ds, x, Q, hx => xseq_t hJ hm hC hC0 (ra := xC P C N fn lp a) (rb := xC P C N fn lp b) (fun l ds x Q h => xC_t hJ hm hC hC0 hL a l ds x Q h) (fun l ds x Q h => xC_t hJ hm hC hC0 hL b l ds x Q h) hx
  | .cond c a b, l, ds, x, Q, hx => by
    change xcnd (ev (gt l) c) (xC P C N fn lp a l ds x Q) (xC P C N fn lp b l ds x Q) = true at hx
    unfold xcnd at hx
    split at hx
    · rename_i e
      exact Sem_cond hJ (t := true) e (by simpa using xC_t hJ hm hC hC0 hL a l ds x Q hx)
    · rename_i e
      exact Sem_cond hJ (t := false) e (by simpa using xC_t hJ hm hC hC0 hL b l ds x Q hx)
    · cases hx
  | .block id a, l, ds, x, Q, hx => by
    refine Sem_block hJ ((xC_t hJ hm hC hC0 hL a l ds x (blkQ id Q) hx).mono fun e f h q => ?_)
    obtain ⟨l', ds', x', rfl, rfl, hq⟩ := q
    cases e with
    | exit i =>
      unfold blkQ at hq
      simp only at hq
      unfold blockK
      simp only
      cases hi : i == id with
      | true => rw [hi, cond_true] at hq; exact ⟨l', ds', x', rfl, rfl, hq⟩
      | false => rw [hi, cond_false] at hq; exact ⟨l', ds', x', rfl, rfl, hq⟩
    | _ => exact ⟨l', ds', x', rfl, rfl, hq⟩
  | .scope a, l, ds, x, Q, hx => Sem_scope hJ (xC_t hJ hm hC hC0 hL a l ds x Q hx)
  | .region id ops draw, l, ds, x, Q, hx => by
    change (bif draw then xdraw P C N ops l x fun l x => Q .normal l ds x else xops P C N ops (List.range ops.size) l x [] fun l x => Q .normal l ds x) = true at hx
    cases draw with
    | true =>
      rw [cond_true] at hx
      refine (Sem_region_draw hJ hm (Q := fun e f h => e = .normal ∧ LP ds (fun l x => Q .normal l ds x) f h) ?_).mono ?_
      · simpa using xdraw_t (ds := ds) hC hx
      · rintro e f h ⟨rfl, l', x', rfl, rfl, hq⟩
        exact ⟨l', ds, x', rfl, rfl, hq⟩
    | false =>
      rw [cond_false] at hx
      refine (Sem_region_text hJ (Q := fun e f h => e = .normal ∧ LP ds (fun l x => Q .normal l ds x) f h) ?_).mono ?_
      · simpa using xops_t (ds := ds) hC (List.range ops.size) (dec := []) (fun j b e => by cases e) (fun j hj => by cases hj) hx
      · rintro e f h ⟨rfl, l', x', rfl, rfl, hq⟩
        exact ⟨l', ds, x', rfl, rfl, hq⟩
  | .loop b, l, ds, x, Q, hx => hL b l ds x Q hx
  | .rangeFunc fop params assign body, l, ds, x, Q, hx => by
    change xrange P C N fn (ev (gt l) fop) params assign body l ds x Q = true at hx
    unfold xrange at hx
    split at hx
    · rename_i g first cap e
      obtain ⟨a, hx⟩ := and_t hx
      obtain ⟨a1, a2⟩ := and_t a
      obtain ⟨y1, e1, hx⟩ := hpush_t hx
      obtain ⟨y2, e2, hx⟩ := hpush_t hx
      have hg := hC _ _ _ _ hx
      rw [← e2, ← e1, ← hOf_len x] at hg
      refine Sem_range hJ (blt_t a1) (f := rgOf l ds) e (blt_t a2) (hg.mono fun v h' hk => ?_)
      obtain ⟨x', rfl, hk⟩ := hk
      obtain ⟨o, ho, hk⟩ := hg_t hk
      split at hk
      · rename_i st pend fn' r size params' assign' body' dfr
        obtain ⟨k1, k2⟩ := and_t hk
        obtain ⟨y, ey, k2⟩ := hset_t k2
        refine ⟨st, pend, fn', r, size, params', assign', body', dfr, ho, fun e => ?_, ?_⟩
        · subst e
          cases k1
        · rw [ey]
          exact xjump_t k2
      · cases hk
    · cases hx
  | .goto _, l, ds, x, Q, hx => by cases hx
  | .refuse _, l, ds, x, Q, hx => by cases hx
theorem xtake_t : ∀ (ds : List Nat) {x : XH} {K : XH → Bool}, xtake ds x K = true → takeW ds (hOf x) (HP K)
  | [], x, K, hx => ⟨x, rfl, hx⟩
  | d :: ds, x, K, hx => by
    unfold xtake at hx
    obtain ⟨o, ho, hx⟩ := hg_t hx
    split at hx
    · obtain ⟨y, e, hx⟩ := hset_t hx
      refine ⟨ho, ?_⟩
      rw [e]
      exact xtake_t ds hx
    · cases hx
theorem takeW_mono : ∀ (ds : List Nat) {h : List AObj} {K K' : List AObj → Prop}, takeW ds h K → (∀ h, K h → K' h) → takeW ds h K'
  | [], h, K, K', hx, hk => hk _ hx
  | d :: ds, h, K, K', hx, hk => ⟨hx.1, takeW_mono ds hx.2 hk⟩
theorem resW_mono : ∀ (rs : List ResultVar) {r : Nat → Value} {h : List AObj} {K K' : List Value → Prop}, resW P rs r h K → (∀ vs, K vs → K' vs) → resW P rs r h K'
  | [], r, h, K, K', hx, hk => hk _ hx
  | .tmp t :: rs, r, h, K, K', hx, hk => ⟨hx.1, resW_mono rs hx.2 fun vs => hk _⟩
  | .cell a t :: rs, r, h, K, K', hx, hk => by
    unfold resW at hx ⊢
    split at hx
    · obtain ⟨v, k1, k2⟩ := pin_aLoad _ hx
      exact k2 (fun v => resW P rs r h fun vs => K' (v :: vs)) (resW_mono rs k1 fun vs => hk _)
    · exact hx.elim
theorem xres_t : ∀ (rs : List ResultVar) {r : Nat → Value} {x : XH} {K : List Value → Bool}, xres P rs r x K = true → resW P rs r (hOf x) fun vs => K vs = true
  | [], r, x, K, hx => hx
  | .tmp t :: rs, r, x, K, hx => by
    unfold xres at hx
    rw [fV_eq] at hx
    obtain ⟨a, b⟩ := and_t hx
    refine ⟨fun e => ?_, xres_t rs b⟩
    rw [e] at a
    cases a
  | .cell a t :: rs, r, x, K, hx => by
    unfold xres at hx
    unfold resW
    split at hx
    · rename_i e
      simp only [e]
      obtain ⟨v, k1, k2⟩ := pin_aLoad _ (xLoad_t hx)
      exact k2 (fun v => resW P rs r (hOf x) fun vs => K (v :: vs) = true) (xres_t rs k1)
    · cases hx
theorem xret_t {rs : List ResultVar} {K : KB} {e : Exit} {f : RG} {h : List AObj} (hq : QP (xret P rs K) e f h) : RetQ P rs n0 (KP K) e f h := by
  obtain ⟨l, ds, x, rfl, rfl, hq⟩ := hq
  have main : xtake ds x (fun h => xres P rs (gt l) h fun vs => K (pack vs) h) = true → takeW (rgOf l ds).ds (hOf x) fun h => resW P rs (rgOf l ds).r h fun vs => KP K (pack vs) h ∨ ∃ σ h' v, GC n0 σ h h' ∧ pack vs = sub σ v ∧ VOk h'.length v ∧ KP K v h' := by
    intro hq
    refine takeW_mono ds (xtake_t ds hq) fun h hk => ?_
    obtain ⟨y, rfl, hk⟩ := hk
    exact resW_mono rs (xres_t rs hk) fun vs hv => .inl ⟨y, rfl, hv⟩
  unfold xret at hq
  unfold RetQ
  split at hq
  · exact main hq
  · exact main hq
  · cases hq
theorem xputs_t : ∀ (ts : List Nat) (vs : List Value) {l : T Value} {K : T Value → Bool}, xputs l ts vs K = true → ∃ l', gt l' = putAll (gt l) ts vs ∧ K l' = true
  | [], vs, l, K, hx => by
    cases vs <;> exact ⟨l, rfl, hx⟩
  | t :: ts, [], l, K, hx => ⟨l, rfl, hx⟩
  | t :: ts, v :: vs, l, K, hx => by
    unfold xputs at hx
    obtain ⟨l1, h1, h2⟩ := tset_t _ hx
    obtain ⟨l', e1, e2⟩ := xputs_t ts vs h1
    refine ⟨l', ?_, e2⟩
    show gt l' = putAll (fun i => bif i == t then v else gt l i) ts vs
    rw [gt_set h2]
    exact e1
theorem xround_t {l n0 : Nat} {K : KB} {e : Exit} {f : RG} {h : List AObj} (hq : QP (xround l K) e f h) : roundQ l n0 (KP K) e f h := by
  obtain ⟨l', ds, x, rfl, rfl, hq⟩ := hq
  obtain ⟨o, ho, hq⟩ := hg_t hq
  unfold xroundC at hq
  split at hq
  · rename_i st pend fn r size params assign body dfr
    refine ⟨st, pend, fn, r, size, params, assign, body, dfr, ho, ?_⟩
    split at hq
    · exact .inl (hset_t hq)
    · exact .inl (hset_t hq)
    · exact .inl (hset_t hq)
    · cases hq
  · cases hq
theorem putAll_range : ∀ (args : List Value) (k : Nat) (r : Nat → Value) (t : Nat), putAll r (List.range' k args.length) args t = if k ≤ t ∧ t < k + args.length then args.getD (t - k) unk else r t
  | [], k, r, t => by
    rw [if_neg (by simp)]
    rfl
  | v :: args, k, r, t => by
    show putAll (fun i => bif i == k then v else r i) (List.range' (k + 1) args.length) args t = _
    rw [putAll_range args (k + 1)]
    simp only [List.length_cons]
    by_cases h1 : k + 1 ≤ t ∧ t < k + 1 + args.length
    · rw [if_pos h1, if_pos (by omega)]
      have : t - k = (t - (k + 1)) + 1 := by omega
      rw [this, List.getD_cons_succ]
    · rw [if_neg h1]
      by_cases e : t = k
      · subst e
        rw [if_pos (by omega)]
        simp
      · have : (t == k) = false := by simpa using e
        rw [this, if_neg (by omega)]
        rfl
theorem regT_t {r : Nat → Value} : ∀ (n : Nat) {k : T Value → Bool}, regT r n k = true → ∃ l, k l = true ∧ ∀ t, gt l t = if t < n then r t else unk
  | 0, k, hx => ⟨.nil, hx, fun t => by simp [gt, tget_nil]⟩
  | n + 1, k, hx => by
    unfold regT at hx
    obtain ⟨l, h1, h2⟩ := regT_t n hx
    rw [fV_eq] at h1
    obtain ⟨l', h3, h4⟩ := tset_t _ h1
    refine ⟨l', h3, fun t => ?_⟩
    show tget unk l' t = _
    rw [h4]
    by_cases e : t = n
    · subst e; simp
    · rw [if_neg e]
      show gt l t = _
      rw [h2]
      by_cases e2 : t < n
      · rw [if_pos e2, if_pos (by omega)]
      · rw [if_neg e2, if_neg (by omega)]
theorem Sem.less {h : List AObj} {c : Code} {f f' : RG} {Q : QT} (hr : ∀ t, f'.r t = unk ∨ f'.r t = f.r t) (hd : f'.ds = f.ds) (hs : Sem J N n0 fn c f' h Q) : Sem J N n0 fn c f h Q := by
  intro b a k cs L ρ FC w ft h1 h2 h3 h4 h5 h6 hc
  refine hs b a k cs L ρ FC w ft h1 h2 h3 ⟨fun t => ?_, h4.size, by rw [hd]; exact h4.defers, by rw [hd]; exact h4.ok⟩ h5 h6 hc
  rcases hr t with e | e
  · exact .inl e
  · rw [e]
    exact h4.regs t
theorem putAll_less : ∀ (ps : List Nat) (vs : List Value) {r r' : Nat → Value}, (∀ t, r' t = unk ∨ r' t = r t) → ∀ t, putAll r' ps vs t = unk ∨ putAll r' ps vs t = putAll r ps vs t
  | [], vs, r, r', h, t => by cases vs <;> exact h t
  | p :: ps, [], r, r', h, t => h t
  | p :: ps, v :: vs, r, r', h, t => by
    refine putAll_less ps vs (fun x => ?_) t
    by_cases e : x = p
    · have : (x == p) = true := by simpa using e
      simp [this]
    · have : (x == p) = false := by simpa using e
      simpa [this] using h x
def SemL (J : JT) (N n0 : Nat) (fn : FuncId) (c : Code) (f : RG) (h : List AObj) (Q : QT) : Prop :=
  ∀ (b : FB) (a : Act) (k : List Item) (cs : List Frame) (L : Option Code → Act → World → Foot → Prop) (ρ : Env) (FC : Frm) (w : World) (ft : Foot), b.tag = fn → b.kind ≠ .early → LeaveOk J b cs L →
    ActRel h.length ρ N f a → HRel ρ h FC w ft → n0 ≤ h.length → Cont J N n0 b k cs L ρ FC Q → J (G (b.at a (.code c :: .inLoop c :: k)) cs) w ft
theorem SemL_step {h : List AObj} (hJ : Closed P main J) {c : Code} {f : RG} {Q : QT} (hx : Sem J N n0 fn c f h (thenK (fun f h => SemL J N n0 fn c f h Q) Q)) : SemL J N n0 fn c f h Q := by
  intro b a k cs L ρ FC w ft h1 h2 h3 h4 h5 h6 hc
  refine hx b a (.inLoop c :: k) cs L ρ FC w ft h1 h2 h3 h4 h5 h6 fun e f' h' ρ' w' ft' a' q g1 g2 g3 g4 => ?_
  cases e with
  | normal =>
    refine hJ.ctrl rfl rfl (g' := G (b.at a' (.code c :: .inLoop c :: k)) cs) (fun w => by simp [G, stepG, stepG.exec, FB.at]) ?_
    exact q b a' k cs L ρ' FC w' ft' h1 h2 h3 g1 g2 g4 fun e f3 h3' ρ3 w3 ft3 a3 q r1 r2 r3 r4 => hc e f3 h3' ρ3 w3 ft3 a3 q r1 r2 (Env.upto_trans g3 r3) r4
  | exit id => exact AfterJ.push (fun _ => rfl) (by simp) (hc _ _ _ _ _ _ _ q g1 g2 g3 g4)
  | ret => exact AfterJ.push (fun _ => rfl) (by simp) (hc _ _ _ _ _ _ _ q g1 g2 g3 g4)
  | goto l => exact hc _ _ _ _ _ _ _ q g1 g2 g3 g4
  | panic l => exact hc _ _ _ _ _ _ _ q g1 g2 g3 g4
  | outgrown => exact hc _ _ _ _ _ _ _ q g1 g2 g3 g4
theorem Sem_of_SemL {h : List AObj} (hJ : Closed P main J) {c : Code} {f : RG} {Q : QT} (hx : SemL J N n0 fn c f h Q) : Sem J N n0 fn (.loop c) f h Q := by
  intro b a k cs L ρ FC w ft h1 h2 h3 h4 h5 h6 hc
  refine hJ.ctrl rfl rfl (g' := G (b.at a (.code c :: .inLoop c :: k)) cs) (fun w => by simp [G, stepG, stepG.exec, FB.at]) ?_
  exact hx b a k cs L ρ FC w ft h1 h2 h3 h4 h5 h6 hc
def XS (P : Program) (n : Nat) : Prop := ∀ (main : Bool) (J : JT), Closed P main J → CSound P J (xcall P n) ∧ ∀ N n0 fn b l ds x Q, xloop P n N fn b l ds x Q = true → SemL J N n0 fn b (rgOf l ds) (hOf x) (QP Q)
theorem x_sound (hm : P.follows .mixedOrders = true) : ∀ n : Nat, XS P n
  | 0 => fun main J hJ => ⟨fun g args x K hx => (by unfold xcall at hx; cases hx), fun N n0 fn b l ds x Q hx => (by unfold xloop at hx; cases hx)⟩
  | n + 1 => by
    intro main J hJ
    obtain ⟨hC, hL⟩ := x_sound hm n main J hJ
    have hC0 := (x_sound hm n true JF (closedF P true)).1
    have hL' : ∀ N n0 fn, LSound J N n0 fn (xloop P n N fn) := fun N n0 fn b l ds x Q hx => Sem_of_SemL hJ (hL N n0 fn b l ds x Q hx)
    refine ⟨fun g args x K hx => ?_, fun N n0 fn b l ds x Q hx => ?_⟩
    · unfold xcall at hx
      split at hx
      · rename_i fn hf
        unfold xenter at hx
        split at hx
        · rename_i c hb
          obtain ⟨a, hx⟩ := and_t hx
          obtain ⟨a1, a2⟩ := and_t a
          have a1 := ble_t a1
          obtain ⟨l, e, hx⟩ := xputs_t _ _ hx
          refine good_of_sem hJ hf hb (by simpa using a2) a1 fun ok => ?_
          have := xC_t hJ hm hC hC0 (hL' fn.ntmps (hOf x).length g) c l [] x _ hx
          have hr : rgOf l [] = ⟨regs args, []⟩ := by
            unfold rgOf regs
            congr 1
            rw [e, List.range_eq_range']
            funext t
            rw [putAll_range]
            by_cases ht : t < args.length
            · rw [if_pos (by omega)]
              simp
            · rw [if_neg (by omega), List.getD_eq_getElem?_getD, List.getElem?_eq_none (by omega)]
              rfl
          rw [hr] at this
          exact this.mono fun e f h q => xret_t q
        · cases hx
      · obtain ⟨a, hx⟩ := and_t hx
        obtain ⟨o, ho, hx⟩ := hg_t hx
        unfold xinto at hx
        split at hx
        · rename_i pend fn r size params assign body dfr
          obtain ⟨a1, hx⟩ := and_t hx
          obtain ⟨a1, a2⟩ := and_t a1
          obtain ⟨l0, hx, e0⟩ := regT_t _ hx
          obtain ⟨l', e1, hx⟩ := xputs_t params.toList args hx
          have a1 : params.size = args.length := by simpa using a1
          have hyid : g = yid P (g - P.funcs.size) := (Nat.add_sub_cancel' (ble_t a)).symm
          rw [hyid]
          refine good_round hJ ho a1 (fun t ht => blt_t (List.all_eq_true.1 a2 t ht)) fun ok => ?_
          refine Sem.less (f' := rgOf l' []) (fun t => ?_) rfl ((xC_t hJ hm hC hC0 (hL' size (hOf x).length (fn + 1000000)) assign l' [] x _ hx).mono fun e f h1 q => ?_)
          · show gt l' t = unk ∨ gt l' t = putAll r params.toList args t
            rw [e1]
            refine putAll_less _ _ (fun x => ?_) t
            rw [e0]
            split
            · exact .inr rfl
            · exact .inl rfl
          · obtain ⟨l2, ds2, x2, rfl, rfl, hq⟩ := q
            simp only at hq
            split at hq
            · obtain ⟨o2, ho2, hq⟩ := hg_t hq
              split at hq
              · rename_i pend' fn' r' size' params' assign' body' dfr'
                obtain ⟨y, ey, hq⟩ := hset_t hq
                refine ⟨rfl, pend', fn', r', size', params', assign', body', dfr', ho2, ?_⟩
                rw [ey]
                exact (xC_t hJ hm hC hC0 (hL' size (hOf x).length (fn + 1000000)) body l2 [] y _ hq).mono fun e f h2 q => xround_t q
              · cases hq
            · cases hq
        · cases hx
    · unfold xloop at hx
      refine SemL_step hJ ((xC_t hJ hm hC hC0 (hL' N n0 fn) b l ds x _ hx).mono fun e f h q => ?_)
      obtain ⟨l', ds', x', rfl, rfl, hq⟩ := q
      cases e with
      | normal => exact hL N n0 fn b l' ds' x' Q hq
      | _ => exact ⟨l', ds', x', rfl, rfl, hq⟩
end
section
variable {P : Program} {main : Bool} {J : JT} {g : FuncId} {args : List Value} {h : List AObj} {K K' : Value → List AObj → Prop}
theorem good_frame (hg : Good P J g args [] K) (hlt : g < P.funcs.size) (ha : ∀ v ∈ args, VOk 0 v) (hk : ∀ v h', K v h' → VOk 0 v ∧ K' v h) : Good P J g args h K' := by
  obtain ⟨ho, hg⟩ := hg
  have hcall : callable P g = true := by
    rcases ho with ⟨_, e⟩ | ⟨e, _⟩
    · exact e
    · exact absurd hlt (Nat.not_lt.2 e)
  refine ⟨.inl ⟨hlt, hcall⟩, fun ρ FC w ft cs c cargs fr H hargs hl hent hc => ?_⟩
  have hfr : fr = Frame.enter P g ⟨cargs⟩ .normal := by
    rcases hent with ⟨_, e⟩ | ⟨e, _⟩
    · exact e
    · exact absurd hlt (Nat.not_lt.2 e)
  have ob : ∃ ob : Nat → Option Obj, (∀ b, ft.rd b → ob b = w.heap[b]?) ∧ (∀ b, ¬ ft.rd b → ob b = none) := by
    classical
    exact ⟨fun b => if ft.rd b then w.heap[b]? else none, fun b hb => if_pos hb, fun b hb => if_neg hb⟩
  obtain ⟨ob, ob1, ob2⟩ := ob
  have H0 : HRel ρ [] ⟨ob, ft.wr⟩ w ft := by
    refine ⟨fun b o hb => by simp at hb, fun b b' o o' hb => by simp at hb, fun b o hb => by simp at hb, fun b o hb => by simp at hb, H.lt, H.sub, fun b o hb => ?_, fun b hb => hb⟩
    by_cases hr : ft.rd b
    · refine ⟨?_, hr, fun a oa ha => by simp at ha⟩
      rw [← ob1 b hr]
      exact hb
    · have : ob b = some o := hb
      rw [ob2 b hr] at this
      cases this
  refine hg ρ ⟨ob, ft.wr⟩ w ft cs c cargs fr H0 (fun i => ?_) hl (.inl ⟨hlt, hfr⟩) fun v h' ρ' w' ft' cv hK H' hu hl' hv => ?_
  · rcases hargs i with e | ⟨_, e⟩
    · exact .inl e
    · by_cases hi : i < args.length
      · have : args.getD i unk ∈ args := by
          rw [List.getD_eq_getElem?_getD, List.getElem?_eq_getElem hi]
          exact List.getElem_mem hi
        exact .inr ⟨ha _ this, e⟩
      · left
        rw [List.getD_eq_getElem?_getD, List.getElem?_eq_none (by omega)]
        rfl
  · obtain ⟨hv0, hK'⟩ := hk v h' hK
    have kp : ∀ b, ft.rd b → w'.heap[b]? = w.heap[b]? ∧ ft'.rd b := by
      intro b hb
      have hlt' := H.lt b hb
      have : (⟨ob, ft.wr⟩ : Frm).ob b = some w.heap[b] := by
        show ob b = _
        rw [ob1 b hb, Array.getElem?_eq_getElem hlt']
      obtain ⟨a1, a2, _⟩ := H'.kept b _ this
      exact ⟨by rw [a1, Array.getElem?_eq_getElem hlt'], a2⟩
    refine hc v h ρ w' ft' cv hK' ⟨fun b o hb => ?_, H.inj, fun b o hb hl => (kp _ (H.rd b o hb hl)).2, fun b o hb hw => H'.keptW _ (H.wr b o hb hw), H'.lt, H'.sub, fun b o hb => ?_, fun b hb => H'.keptW _ (H.keptW b hb)⟩ (Env.upto_refl _ _) (Nat.le_refl _) ?_
    · cases hlv : o.live with
      | false => cases o <;> first | trivial | cases hlv
      | true =>
        rw [(kp _ (H.rd b o hb hlv)).1]
        exact H.obj b o hb
    · obtain ⟨a1, a2, a3⟩ := H.kept b o hb
      exact ⟨by rw [(kp b a2).1]; exact a1, (kp b a2).2, a3⟩
    · rcases hv with e | ⟨_, e⟩
      · exact .inl e
      · exact .inr ⟨VOk.mono (Nat.zero_le _) v hv0, by rw [e, ren0 v hv0, ren0 v hv0]⟩
end
end Go.Proofs.Ytdgpacdknpahnaa
namespace Go.Proofs.Ytdgpacdknpahnaa
open Go.Conc Go.Proofs.Try
set_option maxRecDepth 100000
def isT (v : Value) : Bool :=
  match v with
  | .bool true => true
  | _ => false
theorem run18 : xcall prog 200 18 [] ⟨0, .nil⟩ (fun v _ => isT v) = true := by kernel_rfl
end Go.Proofs.Ytdgpacdknpahnaa
namespace Go.Proofs.Ytdgpacdknpahnaa
open Go.Conc Go.Proofs.Try
section
variable {main : Bool} {J : JT} {h : List AObj} {K : Value → List AObj → Prop}
theorem good18 (hJ : Closed prog main J) (hK : K (.bool true) h) : Good prog J 18 [] h K := by
  have hg := (x_sound mixed 200 main J hJ).1 18 [] ⟨0, .nil⟩ _ run18
  refine good_frame (K := KP fun v _ => isT v) hg (blt_t (by kernel_rfl : Nat.blt 18 prog.funcs.size = true)) (by simp) fun v h' hk => ?_
  obtain ⟨x, rfl, hk⟩ := hk
  simp only at hk
  unfold isT at hk
  split at hk
  · exact ⟨by simp [VOk], hK⟩
  · cases hk
end
section
variable {main : Bool} {J : JT} {h : List AObj} {K : Value → List AObj → Prop}
def HF (h : List AObj) (nv : Value) (k : Nat) (s : Int) (rest : List AObj) : List AObj := h ++ (.cells [nv, vint k, .int .u64 s] true 0 :: rest)
theorem hf_len {h : List AObj} {nv : Value} {k : Nat} {s : Int} {rest : List AObj} : (HF h nv k s rest).length = h.length + 1 + rest.length := by
  simp [HF]; omega
theorem hf_app {h : List AObj} {nv : Value} {k : Nat} {s : Int} {rest g : List AObj} : HF h nv k s rest ++ g = HF h nv k s (rest ++ g) := by
  simp [HF]
theorem hf_hand {h : List AObj} {nv : Value} {ns : List Int} {k : Nat} {s : Int} {rest : List AObj} (sn : Sli h nv 1 ns.length (ns.map vint)) (hln : ns.length < 4611686018427387904) (hk : k < 1000000) (h0 : 0 ≤ s) (h1 : s < 18446744073709551616) :
    HandAt (HF h nv k s rest) h.length nv ns k s :=
  ⟨by simp [HF], sli_app sn, hln, by omega, h0, h1⟩
theorem hf_dealt {h h' : List AObj} {nv : Value} {k n : Nat} {s : Int} {rest : List AObj} (hd : Dealt (HF h nv k s rest) h.length nv k n h') : ∃ k' s', k' ≤ k + n ∧ 0 ≤ s' ∧ s' < 18446744073709551616 ∧ h' = HF h nv k' s' rest := by
  obtain ⟨k', s', a, b, c, rfl⟩ := hd
  refine ⟨k', s', a, b, c, ?_⟩
  simp [HF]
theorem sli_one {h : List AObj} {v : Value} {s n : Nat} {cs : List Value} (hs : Sli h v s n cs) : v.cells = #[v] ∧ one v = true ∧ kn1 v = true := by
  obtain ⟨_, _, rfl, _⟩ := hs
  exact ⟨rfl, rfl, rfl⟩
end
end Go.Proofs.Ytdgpacdknpahnaa
namespace Go.Proofs.Ytdgpacdknpahnaa
open Go.Conc Go.Proofs.Try
set_option maxRecDepth 100000
section
variable {main : Bool} {J : JT} {h A g : List AObj} {K : Value → List AObj → Prop} {KV : Value → Prop} {HL : List AObj → Prop} {H : Value → List AObj → Prop}
theorem a_min {a b : Int} : aMin (vint a) [vint b] KV = KV (vint (min a b)) := by
  show KV (vint (if b < a then b else a)) = _
  congr 2
  split <;> omega
theorem a_max {a b : Int} : aMax (vint a) [vint b] KV = KV (vint (max a b)) := by
  show KV (vint (if b > a then b else a)) = _
  congr 2
  split <;> omega
theorem u_neg {a : Int} (h : -9223372036854775808 < a ∧ a < 9223372036854775808) : aUn .neg (vint a) KV = KV (vint (-a)) := by
  show KV (.int .i64 (IntKind.i64.wrap (-a))) = _
  rw [wrap64 (by omega) (by omega)]
theorem back_get {i : Nat} : (A ++ g)[A.length + i]? = g[i]? := by
  rw [List.getElem?_append_right (by omega)]
  congr 1
  omega
theorem back_set {i : Nat} {o : AObj} : (A ++ g).set (A.length + i) o = A ++ g.set i o := by
  rw [List.set_append_right _ _ (by omega)]
  congr 2
  omega
def OwnE (n : Nat) (g : List AObj) (s : Nat) (cs : List Value) (len : Nat) (v : Value) (o : Option Nat) : Prop :=
  cs.length = len * s ∧ kn cs = true ∧ ((len = 0 ∧ v = .slice none 0 0 ∧ o = none) ∨ ∃ i c sz, o = some i ∧ v = .slice (some ⟨n + i, 0, none⟩) len c ∧ g[i]? = some (.cells cs true sz) ∧ ((c = fz ∧ sz = s) ∨ c = len))
theorem ownE_nil {n s : Nat} : OwnE n g s [] 0 (.slice none 0 0) none := ⟨by simp, rfl, .inl ⟨rfl, rfl, rfl⟩⟩
theorem ownE_keep {n s len : Nat} {cs : List Value} {v : Value} {o : Option Nat} {g' : List AObj} (ho : OwnE n g s cs len v o) (hk : ∀ i x, o = some i → g[i]? = some x → g'[i]? = some x) : OwnE n g' s cs len v o := by
  obtain ⟨h1, h2, h3 | ⟨i, c, sz, rfl, h4, h5, h6⟩⟩ := ho
  · exact ⟨h1, h2, .inl h3⟩
  · exact ⟨h1, h2, .inr ⟨i, c, sz, rfl, h4, hk i _ rfl h5, h6⟩⟩
theorem get_app {i : Nat} {x : AObj} {g' : List AObj} (hx : g[i]? = some x) : (g ++ g')[i]? = some x := by
  rw [List.getElem?_append_left (List.getElem?_eq_some_iff.1 hx).1]
  exact hx
theorem get_set {i j : Nat} {x y : AObj} (hx : g[i]? = some x) (hij : i ≠ j) : (g.set j y)[i]? = some x := by
  rw [List.getElem?_set, if_neg (fun e => hij e.symm)]
  exact hx
theorem ownE_app {n s len : Nat} {cs : List Value} {v : Value} {o : Option Nat} {g' : List AObj} (ho : OwnE n g s cs len v o) : OwnE n (g ++ g') s cs len v o :=
  ownE_keep ho fun _ _ _ hx => get_app hx
theorem ownE_set {n s len i : Nat} {cs : List Value} {v : Value} {o : Option Nat} {y : AObj} (ho : OwnE n g s cs len v o) (hi : o ≠ some i) : OwnE n (g.set i y) s cs len v o :=
  ownE_keep ho fun j _ hj hx => get_set hx fun e => hi (by rw [hj, e])
theorem ownE_at {n s len : Nat} {cs : List Value} {v : Value} {i : Nat} (ho : OwnE n g s cs len v (some i)) : ∃ sz, g[i]? = some (.cells cs true sz) := by
  obtain ⟨_, _, ⟨_, _, h⟩ | ⟨j, c, sz, h, _, h5, _⟩⟩ := ho
  · cases h
  · cases h
    exact ⟨sz, h5⟩
theorem ownE_lt {n s len : Nat} {cs : List Value} {v : Value} {o : Option Nat} (ho : OwnE n g s cs len v o) {i : Nat} (hi : o = some i) : i < g.length := by
  subst hi
  obtain ⟨sz, h⟩ := ownE_at ho
  exact (List.getElem?_eq_some_iff.1 h).1
theorem ownE_sli {s len : Nat} {cs : List Value} {v : Value} {o : Option Nat} (ho : OwnE A.length g s cs len v o) : Sli (A ++ g) v s len cs := by
  obtain ⟨h1, h2, ⟨rfl, rfl, _⟩ | ⟨i, c, sz, rfl, rfl, h5, _⟩⟩ := ho
  · have : cs = [] := List.length_eq_zero_iff.1 (by omega)
    subst this
    exact sli_nil
  · refine ⟨_, _, rfl, ⟨h1, h2⟩, .inr ⟨_, _, rfl, .inr ⟨cs, true, sz, ?_, by rw [List.drop_zero, List.take_of_length_le (by omega)]⟩⟩⟩
    rw [back_get]
    exact h5
theorem ownE_val {n s len : Nat} {cs : List Value} {v : Value} {o : Option Nat} (ho : OwnE n g s cs len v o) : v.cells = #[v] ∧ one v = true ∧ kn1 v = true := by
  obtain ⟨_, _, ⟨_, rfl, _⟩ | ⟨_, _, _, _, rfl, _⟩⟩ := ho <;> exact ⟨rfl, rfl, rfl⟩
theorem ownE_more {s len : Nat} {cs e : List Value} {v y : Value} {o : Option Nat} (ho : OwnE A.length g s cs len v o) (hs : 0 < s) (hl : len < 1000) (hy : Sli (A ++ g) y s 1 e)
    (hk : ∀ v' g', OwnE A.length g' s (cs ++ e) (len + 1) v' (some g.length) → (∀ i x, o ≠ some i → g[i]? = some x → g'[i]? = some x) → H v' (A ++ g')) : aApp s v y (A ++ g) H := by
  have hr : room = 1073741824 := rfl
  have hel : e.length = s := by
    have := sli_vlen hy
    omega
  have hek : kn e = true := by
    obtain ⟨_, _, _, ⟨_, h⟩, _⟩ := hy
    exact h
  have new : ∀ g1 : List AObj, g1.length = g.length → (∀ i x, o ≠ some i → g[i]? = some x → g1[i]? = some x) → cs.length = len * s → kn cs = true → H (.slice (some ⟨(A ++ g).length, 0, none⟩) (len + 1) fz) (A ++ (g1 ++ [.cells (cs ++ e) true s])) := by
    intro g1 hg1 hkeep h1 h2
    refine hk _ _ ⟨?_, ?_, .inr ⟨g.length, fz, s, rfl, by simp, by simp [← hg1], .inl ⟨rfl, rfl⟩⟩⟩ fun j x hj hx => get_app (hkeep j x hj hx)
    · rw [List.length_append, hel, h1, Nat.succ_mul]
    · unfold kn at *
      rw [List.all_append, h2, hek]
      rfl
  obtain ⟨h1, h2, ⟨rfl, rfl, rfl⟩ | ⟨i, c, sz, rfl, rfl, h5, h6⟩⟩ := ho
  · have hcs : cs = [] := List.length_eq_zero_iff.1 (by omega)
    subst hcs
    refine app_nil hs hy (by omega) (fun e => absurd e (by omega)) fun _ => ?_
    rw [List.append_assoc]
    exact new g rfl (fun _ _ _ hx => hx) h1 h2
  · have hlt := (List.getElem?_eq_some_iff.1 h5).1
    have ht : cs.take (len * s) = cs := List.take_of_length_le (by omega)
    rcases h6 with ⟨rfl, rfl⟩ | rfl
    · refine app_own (cs := cs) (by rw [back_get]; exact h5) (by omega) (by rw [ht]; exact h2) hs hy (by omega) ?_
      rw [back_set, List.append_assoc, ht]
      exact new _ (by simp) (fun j x hj hx => get_set hx fun e => hj (by rw [e])) h1 h2
    · refine app_copy (cs := cs) (by rw [back_get]; exact h5) (by omega) (by rw [List.drop_zero, ht]; exact h2) (by omega) hs hy (by omega) ?_
      rw [List.append_assoc, List.drop_zero, ht]
      exact new g rfl (fun _ _ _ hx => hx) h1 h2
theorem hfa {nv : Value} {k : Nat} {s : Int} {rest : List AObj} (hs : 0 ≤ s ∧ s < 18446744073709551616) (hk : k < 1000000) {ns : List Int} (sn : Sli h nv 1 ns.length (ns.map vint)) (hln : ns.length < 4611686018427387904) : HandAt (HF h nv k s rest ++ g) h.length nv ns k s := by
  rw [hf_app]
  exact hf_hand sn hln hk hs.1 hs.2
theorem hfd {nv : Value} {k n : Nat} {s : Int} {rest h' : List AObj} (hd : Dealt (HF h nv k s rest ++ g) h.length nv k n h') : ∃ k' s', k' ≤ k + n ∧ (0 ≤ s' ∧ s' < 18446744073709551616) ∧ h' = HF h nv k' s' rest ++ g := by
  rw [hf_app] at hd
  obtain ⟨k', s', a, b, c, rfl⟩ := hf_dealt hd
  exact ⟨k', s', a, ⟨b, c⟩, by rw [hf_app]⟩
structure Hnd (h : List AObj) (nv : Value) (ns : List Int) : Prop where
  list : Sli h nv 1 ns.length (ns.map vint)
  sane : ns.length < 4611686018427387904
variable {nv : Value} {ns : List Int} {rest : List AObj} {k : Nat} {s : Int}
theorem nl : (HF h nv k s rest ++ g).length = h.length + 1 + rest.length + g.length := by rw [List.length_append, hf_len]
theorem ng {i : Nat} : (HF h nv k s rest ++ g)[h.length + 1 + rest.length + i]? = g[i]? := by rw [← hf_len (h := h) (nv := nv) (k := k) (s := s), back_get]
theorem nset {i : Nat} {o : AObj} : (HF h nv k s rest ++ g).set (h.length + 1 + rest.length + i) o = HF h nv k s rest ++ g.set i o := by rw [← hf_len (h := h) (nv := nv) (k := k) (s := s), back_set]
theorem nsli {s' len : Nat} {cs : List Value} {v : Value} {o : Option Nat} (ho : OwnE (h.length + 1 + rest.length) g s' cs len v o) : Sli (HF h nv k s rest ++ g) v s' len cs := by
  rw [← hf_len (h := h) (nv := nv) (k := k) (s := s)] at ho
  exact ownE_sli ho
theorem nmore {s' len : Nat} {cs e : List Value} {v y : Value} {o : Option Nat} (ho : OwnE (h.length + 1 + rest.length) g s' cs len v o) (hs : 0 < s') (hl : len < 1000) (hy : Sli (HF h nv k s rest ++ g) y s' 1 e)
    (hk : ∀ v' g', OwnE (h.length + 1 + rest.length) g' s' (cs ++ e) (len + 1) v' (some g.length) → (∀ i x, o ≠ some i → g[i]? = some x → g'[i]? = some x) → H v' (HF h nv k s rest ++ g')) : aApp s' v y (HF h nv k s rest ++ g) H := by
  rw [← hf_len (h := h) (nv := nv) (k := k) (s := s)] at ho hk
  exact ownE_more ho hs hl hy hk
theorem nlast {s' c len : Nat} {cs : List Value} (h1 : cs.length = len * s') (h2 : kn cs = true) : Sli (HF h nv k s rest ++ (g ++ [.cells cs true 0])) (.slice (some ⟨h.length + 1 + rest.length + g.length, 0, none⟩) len c) s' len cs := by
  refine ⟨_, _, rfl, ⟨h1, h2⟩, .inr ⟨_, _, rfl, .inr ⟨cs, true, 0, ?_, by rw [List.drop_zero, List.take_of_length_le (by omega)]⟩⟩⟩
  rw [ng]
  simp
section
variable {KV : Value → Prop} {a b : Int} {t : TypeId} {h : List AObj}
theorem offI {b o d : Nat} (hk : KV (ptr b (o + d))) : aOff (ptr b o) d KV := hk
theorem fillI {c : List Value} {KL : List Value → Prop} (hk : KL c) : aFill c [] KL := hk
theorem nilI {b o : Nat} (hk : KV (ptr b o)) : aNil (ptr b o) KV := hk
theorem addI (h : -9223372036854775808 ≤ a + b ∧ a + b < 9223372036854775808) (hk : KV (vint (a + b))) : aBin prog .add t (vint a) (vint b) KV := by rw [b_add h]; exact hk
theorem subI (h : -9223372036854775808 ≤ a - b ∧ a - b < 9223372036854775808) (hk : KV (vint (a - b))) : aBin prog .sub t (vint a) (vint b) KV := by rw [b_sub h]; exact hk
theorem mulI (h : -9223372036854775808 ≤ a * b ∧ a * b < 9223372036854775808) (hk : KV (vint (a * b))) : aBin prog .mul t (vint a) (vint b) KV := by rw [b_mul h]; exact hk
theorem negI (h : -9223372036854775808 < a ∧ a < 9223372036854775808) (hk : KV (vint (-a))) : aUn .neg (vint a) KV := by rw [u_neg h]; exact hk
theorem minI (hk : KV (vint (min a b))) : aMin (vint a) [vint b] KV := by rw [a_min]; exact hk
theorem maxI (hk : KV (vint (max a b))) : aMax (vint a) [vint b] KV := by rw [a_max]; exact hk
theorem lssI (hk : KV (.bool (decide (a < b)))) : aBin prog .lss t (vint a) (vint b) KV := by rw [b_lss]; exact hk
theorem gtrI (hk : KV (.bool (decide (a > b)))) : aBin prog .gtr t (vint a) (vint b) KV := by rw [b_gtr]; exact hk
theorem geqI (hk : KV (.bool (decide (a ≥ b)))) : aBin prog .geq t (vint a) (vint b) KV := by rw [b_geq]; exact hk
theorem leqI (hk : KV (.bool (decide (a ≤ b)))) : aBin prog .leq t (vint a) (vint b) KV := by rw [b_leq]; exact hk
theorem eqlI (hk : KV (.bool (decide (a = b)))) : aBin prog .eql t (vint a) (vint b) KV := by rw [b_eql]; exact hk
theorem neqI (hk : KV (.bool (decide (a ≠ b)))) : aBin prog .neq t (vint a) (vint b) KV := by rw [b_neq]; exact hk
theorem notI {x : Bool} (hk : KV (.bool (!x))) : aUn .not (.bool x) KV := hk
theorem cndI {p : Prop} [Decidable p] {A B : Prop} (h1 : p → A) (h2 : ¬ p → B) : cnd (.bool (decide p)) A B := cnd_dec.2 ⟨h1, h2⟩
theorem cndN {p : Prop} [Decidable p] {A B : Prop} (h1 : ¬ p → A) (h2 : p → B) : cnd (.bool (!decide p)) A B := cnd_ndec.2 ⟨h1, h2⟩
theorem lenI {v : Value} {s n : Nat} {cells : List Value} (hs : Sli h v s n cells) (hk : KV (vint n)) : aLenS v KV := by rw [sli_len hs]; exact hk
theorem ldI {b o s : Nat} {c : List Value} {wr : Bool} {sz : Nat} {v : Value} (hb : h[b]? = some (.cells c wr sz)) (hv : c[o]? = some v) (hn : kn1 v = true) (hk : KV v) : aLoad false s (ptr b o) h KV := by rw [load_cell hb hv hn]; exact hk
theorem idxI {s b o n c : Nat} {j : Int} (h1 : 0 ≤ j ∧ j < n) (hk : KV (ptr b (o + j.toNat * s))) : aIdx s (.slice (some ⟨b, o, none⟩) n c) (vint j) KV := by rw [idx_ok]; exact ⟨h1, hk⟩
theorem ext0 {a b : Value} (hk : KV a) : aExt (.tuple ⟨[a, b]⟩) 0 KV := hk
theorem ext1 {a b : Value} (hk : KV b) : aExt (.tuple ⟨[a, b]⟩) 1 KV := hk
theorem ext30 {a b c : Value} (hk : KV a) : aExt (.tuple ⟨[a, b, c]⟩) 0 KV := hk
theorem ext31 {a b c : Value} (hk : KV b) : aExt (.tuple ⟨[a, b, c]⟩) 1 KV := hk
theorem ext32 {a b c : Value} (hk : KV c) : aExt (.tuple ⟨[a, b, c]⟩) 2 KV := hk
end
theorem nAl {l : List Value} (hk : K (ptr (h.length + 1 + rest.length + g.length) 0) (HF h nv k s rest ++ (g ++ [.cells l true 0]))) : aAlloc l (HF h nv k s rest ++ g) K := by
  unfold aAlloc
  rw [nl, List.append_assoc]
  exact hk
theorem nNew {n : Nat} {l : List Value} (hk : K (.slice (some ⟨h.length + 1 + rest.length + g.length, 0, none⟩) n n) (HF h nv k s rest ++ (g ++ [.cells l true 0]))) : aNewS n l (HF h nv k s rest ++ g) K := by
  unfold aNewS
  rw [nl, List.append_assoc]
  exact hk
theorem nLd {i o : Nat} {c : List Value} {wr : Bool} {sz : Nat} {v : Value} (hb : g[i]? = some (.cells c wr sz)) (hv : c[o]? = some v) (hn : kn1 v = true) (hk : KV v) : aLoad false 1 (ptr (h.length + 1 + rest.length + i) o) (HF h nv k s rest ++ g) KV :=
  ldI (by rw [ng]; exact hb) hv hn hk
theorem nLdA {i o n : Nat} {cs c : List Value} {wr : Bool} {sz : Nat} (hb : g[i]? = some (.cells cs wr sz)) (hl : o + n ≤ cs.length) (hc : (cs.drop o).take n = c) (hn : kn c = true) (hk : KV (.agg ⟨c⟩)) : aLoad true n (ptr (h.length + 1 + rest.length + i) o) (HF h nv k s rest ++ g) KV :=
  load_part (by rw [ng]; exact hb) hl hc hn hk
theorem nSt {i o : Nat} {c : List Value} {sz : Nat} {v : Value} (hb : g[i]? = some (.cells c true sz)) (ho : o < c.length) (h1 : v.cells = #[v]) (h2 : one v = true) (hk : HL (HF h nv k s rest ++ g.set i (.cells (c.set o v) true sz))) : aStore 1 (ptr (h.length + 1 + rest.length + i) o) v (HF h nv k s rest ++ g) HL := by
  refine store_cell (by rw [ng]; exact hb) ho h1 h2 ?_
  rw [nset]
  exact hk
theorem nStA {i n : Nat} {cs c : List Value} {sz : Nat} (hb : g[i]? = some (.cells cs true sz)) (hl : c.length = n) (hs : cs.length = n) (h1 : c.all one = true) (hk : HL (HF h nv k s rest ++ g.set i (.cells c true sz))) : aStore n (ptr (h.length + 1 + rest.length + i) 0) (.agg ⟨c⟩) (HF h nv k s rest ++ g) HL := by
  refine store_agg (by rw [ng]; exact hb) hl hs h1 ?_
  rw [nset]
  exact hk
theorem nSame {g' : List AObj} {k' : Nat} {s' : Int} {is : List Nat} (hi : ∀ i ∈ is, g'[i]? = g[i]?) : SameB (some (is.map fun i => h.length + 1 + rest.length + i)) (HF h nv k s rest ++ g) (HF h nv k' s' rest ++ g') := by
  intro b hb
  obtain ⟨i, hm, rfl⟩ := List.mem_map.1 hb
  rw [ng, ng, hi i hm]
theorem nRd {i o : Nat} {is : List Nat} (hi : i ∈ is) : RdOk (some (is.map fun i => h.length + 1 + rest.length + i)) (ptrBlk (ptr (h.length + 1 + rest.length + i) o)) := List.mem_map.2 ⟨i, hi, rfl⟩
theorem last_get {x : AObj} : (g ++ [x])[g.length]? = some x := by simp
theorem last_set {x y : AObj} : (g ++ [x]).set g.length y = g ++ [y] := by simp
theorem up (hJ : Closed prog main J) (hn : Hnd h nv ns) (hs : 0 ≤ s ∧ s < 18446744073709551616) (hk : k < 1000000) {m : Int} (hm : m < 1000000)
    (hK : ∀ y k' s', 0 ≤ y → (y ≤ m ∨ y = 0) → k' ≤ k + 1 → (0 ≤ s' ∧ s' < 18446744073709551616) → K (vint y) (HF h nv k' s' rest ++ g)) : Good prog J 22 [ptr h.length 0, vint m] (HF h nv k s rest ++ g) K := by
  refine good22 hJ (hfa hs hk hn.list hn.sane) (by omega) fun y h1 a b hd => ?_
  obtain ⟨k', s', c, d, rfl⟩ := hfd hd
  exact hK y k' s' a b c d
theorem amo (hJ : Closed prog main J) (hn : Hnd h nv ns) (hs : 0 ≤ s ∧ s < 18446744073709551616) (hk : k < 1000000) {lo hi : Int} (h1 : -1000000 ≤ lo ∧ lo ≤ 1000000) (h2 : -1000000 ≤ hi ∧ hi ≤ 1000000)
    (hK : ∀ y k' s', lo ≤ y → (y ≤ hi ∨ y = lo) → k' ≤ k + 1 → (0 ≤ s' ∧ s' < 18446744073709551616) → K (vint y) (HF h nv k' s' rest ++ g)) : Good prog J 20 [ptr h.length 0, vint lo, vint hi] (HF h nv k s rest ++ g) K := by
  refine good20 hJ (hfa hs hk hn.list hn.sane) (by omega) (by omega) fun y h1 a b hd => ?_
  obtain ⟨k', s', c, d, rfl⟩ := hfd hd
  exact hK y k' s' a b c d
theorem ofl (hJ : Closed prog main J) (hn : Hnd h nv ns) (hs : 0 ≤ s ∧ s < 18446744073709551616) (hk : k < 1000000) {a : Int} {others : List Int} {n c : Nat} (hl : others.length = n) (hn2 : n < 1000)
    (hK : ∀ y k' s', (y = a ∨ y ∈ others) → k' ≤ k + 1 → (0 ≤ s' ∧ s' < 18446744073709551616) → K (vint y) (HF h nv k' s' rest ++ (g ++ [.cells (others.map vint) true 0]))) :
    Good prog J 21 [ptr h.length 0, vint a, (.slice (some ⟨h.length + 1 + rest.length + g.length, 0, none⟩) n c)] (HF h nv k s rest ++ (g ++ [.cells (others.map vint) true 0])) K := by
  subst hl
  refine good21 hJ (hfa hs hk hn.list hn.sane) (others := others) (fun h' hd => ?_) (by omega) fun y h1 a hd => ?_
  · obtain ⟨k', s', c, d, rfl⟩ := hfd hd
    refine sli_new (wr := true) (sz := 0) ?_ (by simp) (kn_ints _)
    rw [ng]
    simp
  · obtain ⟨k', s', c, d, rfl⟩ := hfd hd
    exact hK y k' s' a c d
end
structure Chain (t : Tal) (nums losses : List Int) : Prop where
  numl : nums.length = t.changes.length + 1
  losl : losses.length = t.changes.length
  first : 30 ≤ t.first.lo ∧ t.first.lo ≤ 60 ∧ t.first.lo ≤ t.first.hi ∧ t.first.hi ≤ t.first.lo + 6
  most : 0 ≤ t.most ∧ t.most ≤ 4
  ch : ∀ r ∈ t.changes, -3 ≤ r.lo ∧ r.lo ≤ 2 ∧ r.lo ≤ r.hi ∧ r.hi ≤ r.lo + 2
  zero : t.first.lo ≤ nums.getD 0 0 ∧ nums.getD 0 0 ≤ t.first.hi
  step : ∀ i (hi : i < t.changes.length), 0 ≤ losses.getD i 0 ∧ losses.getD i 0 ≤ t.most ∧ t.changes[i].lo ≤ nums.getD (i + 1) 0 - nums.getD i 0 + losses.getD i 0 ∧ nums.getD (i + 1) 0 - nums.getD i 0 + losses.getD i 0 ≤ t.changes[i].hi
theorem Chain.bd {t : Tal} {nums losses : List Int} (c : Chain t nums losses) : ∀ i : Nat, i ≤ t.changes.length → 30 - 7 * (i : Int) ≤ nums.getD i 0 ∧ nums.getD i 0 ≤ 66 + 4 * (i : Int)
  | 0, _ => by
    have := c.first
    have := c.zero
    omega
  | i + 1, hi => by
    have ih := c.bd i (by omega)
    have s := c.step i (by omega)
    have r := c.ch t.changes[i] (List.getElem_mem _)
    have := c.most
    omega
theorem getD_app1 {l : List Int} {x : Int} {i : Nat} (hi : i < l.length) : (l ++ [x]).getD i 0 = l.getD i 0 := by
  simp only [List.getD_eq_getElem?_getD]
  rw [List.getElem?_append_left hi]
theorem getD_app2 {l : List Int} {x : Int} : (l ++ [x]).getD l.length 0 = x := by
  simp [List.getD_eq_getElem?_getD]
theorem Chain.more {t : Tal} {nums losses : List Int} (c : Chain t nums losses) {r : Rng} {now' l : Int} (hr : -3 ≤ r.lo ∧ r.lo ≤ 2 ∧ r.lo ≤ r.hi ∧ r.hi ≤ r.lo + 2) (hl : 0 ≤ l ∧ l ≤ t.most)
    (hn : r.lo ≤ now' - nums.getD t.changes.length 0 + l ∧ now' - nums.getD t.changes.length 0 + l ≤ r.hi) : Chain { t with changes := t.changes ++ [r] } (nums ++ [now']) (losses ++ [l]) where
  numl := by simp [c.numl]
  losl := by simp [c.losl]
  first := c.first
  most := c.most
  ch := fun x hx => by
    rcases List.mem_append.1 hx with hx | hx
    · exact c.ch x hx
    · simp at hx
      rw [hx]
      exact hr
  zero := by
    have := c.numl
    have := c.zero
    rw [getD_app1 (by omega)]
    exact this
  step := fun i hi => by
    have n1 := c.numl
    have n2 := c.losl
    dsimp only at hi ⊢
    simp at hi
    rcases Nat.lt_or_ge i t.changes.length with x | x
    · rw [getD_app1 (by omega), getD_app1 (by omega), getD_app1 (by omega), List.getElem_append_left x]
      exact c.step i x
    · have : i = t.changes.length := by omega
      subst this
      have e1 : (nums ++ [now']).getD (t.changes.length + 1) 0 = now' := by rw [← n1, getD_app2]
      have e2 : (losses ++ [l]).getD t.changes.length 0 = l := by rw [← n2, getD_app2]
      have e3 : (t.changes ++ [r])[t.changes.length] = r := by simp
      rw [getD_app1 (i := t.changes.length) (l := nums) (by omega), e1, e2, e3]
      exact ⟨hl.1, hl.2, hn.1, hn.2⟩
structure CoOk (gates : Int) (nums : List Int) (c : Cnt) : Prop where
  gate : 0 ≤ c.gate ∧ c.gate < gates
  man : 1 ≤ c.man ∧ c.man ≤ 4
  err : 0 ≤ c.err ∧ c.err ≤ 20
  num : -(c.err * nums.getD c.gate.toNat 0 / 100) ≤ c.num - nums.getD c.gate.toNat 0 ∧ c.num - nums.getD c.gate.toNat 0 ≤ c.err * nums.getD c.gate.toNat 0 / 100
structure TruthOk (G C : Int) (t : Tal) (nums losses : List Int) : Prop where
  gates : 1 ≤ t.gates ∧ t.gates ≤ G
  chl : (t.changes.length : Int) = t.gates - 1
  chain : Chain t nums losses
  few : (t.counts.length : Int) ≤ C
  co : ∀ c ∈ t.counts, CoOk t.gates nums c
section
variable {main : Bool} {J : JT} {h : List AObj} {K : Value → List AObj → Prop} {n0 : Nat}
theorem fill_agg {c l : List Value} {off s : Nat} {ps : List (Nat × Nat × Value)} {K : List Value → Prop} (h1 : l.length = s) (h2 : l.all one = true) (ho : off + s ≤ c.length) (hk : aFill (wrAt c off l) ps K) : aFill c ((off, s, .agg ⟨l⟩) :: ps) K := by
  refine ⟨by simpa [Value.cells] using h1, by simpa [Value.cells] using h2, ho, ?_⟩
  simpa [Value.cells] using hk
theorem retQ_same {rs : List ResultVar} {f : RG} (ds : f.ds = []) (hr : resW prog rs f.r h fun vs => K (pack vs) h) : RetQ prog rs n0 K .ret f h := by
  unfold RetQ
  rw [ds]
  exact resW_imp rs hr fun vs hk => .inl hk
theorem good69 (hJ : Closed prog main J) {nv : Value} {ns : List Int} {rest g : List AObj} {k : Nat} {s : Int} (hn : Hnd h nv ns) (hs : 0 ≤ s ∧ s < 18446744073709551616) (hk : k < 1000000) {a b : Int} (hb : 0 < b ∧ b < 1000)
    (hK : ∀ y k' s', k' ≤ k + 1 → (0 ≤ s' ∧ s' < 18446744073709551616) → K (.bool y) (HF h nv k' s' rest ++ g)) : Good prog J 69 [ptr h.length 0, vint a, vint b] (HF h nv k s rest ++ g) K := by
  refine g69 hJ fun ok => ?_
  rw [e69, b_sub (by omega)]
  refine up hJ hn hs hk (by omega) fun y k' s' _ _ h3 h4 => ?_
  rw [b_lss]
  exact retL_same (by simp [unk]) (hK _ _ _ h3 h4)
theorem cs_val {t : Tal} {cv nv : Value} : (talCells t cv nv).length = 6 := rfl
structure BT (n : Nat) (g : List AObj) (L : List Rng) (Cs : List Cnt) (nums losses : List Int) (cv cov nuv lov : Value) (o1 o2 o3 o4 : Option Nat) : Prop where
  ch : OwnE n g 2 (L.flatMap Rng.cells) L.length cv o1
  co : OwnE n g 4 (Cs.flatMap Cnt.cells) Cs.length cov o2
  nu : OwnE n g 1 (nums.map vint) nums.length nuv o3
  lo : OwnE n g 1 (losses.map vint) losses.length lov o4
  len : 2 < g.length
  b1 : ∀ i, o1 = some i → 2 < i
  b2 : ∀ i, o2 = some i → 2 < i
  b3 : ∀ i, o3 = some i → 2 < i
  b4 : ∀ i, o4 = some i → 2 < i
  d12 : ∀ i, o1 = some i → o2 ≠ some i
  d13 : ∀ i, o1 = some i → o3 ≠ some i
  d14 : ∀ i, o1 = some i → o4 ≠ some i
  d23 : ∀ i, o2 = some i → o3 ≠ some i
  d24 : ∀ i, o2 = some i → o4 ≠ some i
  d34 : ∀ i, o3 = some i → o4 ≠ some i
section
variable {n : Nat} {g : List AObj} {L : List Rng} {Cs : List Cnt} {nums losses : List Int} {cv cov nuv lov : Value} {o1 o2 o3 o4 : Option Nat} {nv : Value} {k : Nat} {s : Int} {rest : List AObj}
theorem BT.app {g' : List AObj} (B : BT n g L Cs nums losses cv cov nuv lov o1 o2 o3 o4) : BT n (g ++ g') L Cs nums losses cv cov nuv lov o1 o2 o3 o4 :=
  ⟨ownE_app B.ch, ownE_app B.co, ownE_app B.nu, ownE_app B.lo, by have := B.len; simp; omega, B.b1, B.b2, B.b3, B.b4, B.d12, B.d13, B.d14, B.d23, B.d24, B.d34⟩
theorem BT.set {i : Nat} {y : AObj} (B : BT n g L Cs nums losses cv cov nuv lov o1 o2 o3 o4) (h1 : o1 ≠ some i) (h2 : o2 ≠ some i) (h3 : o3 ≠ some i) (h4 : o4 ≠ some i) : BT n (g.set i y) L Cs nums losses cv cov nuv lov o1 o2 o3 o4 :=
  ⟨ownE_set B.ch h1, ownE_set B.co h2, ownE_set B.nu h3, ownE_set B.lo h4, by have := B.len; simpa using this, B.b1, B.b2, B.b3, B.b4, B.d12, B.d13, B.d14, B.d23, B.d24, B.d34⟩
theorem BT.set2 {i : Nat} {y : AObj} (B : BT n g L Cs nums losses cv cov nuv lov o1 o2 o3 o4) (hi : i ≤ 2) : BT n (g.set i y) L Cs nums losses cv cov nuv lov o1 o2 o3 o4 :=
  B.set (fun e => by have := B.b1 _ e; omega) (fun e => by have := B.b2 _ e; omega) (fun e => by have := B.b3 _ e; omega) (fun e => by have := B.b4 _ e; omega)
theorem BT.small {i : Nat} (B : BT n g L Cs nums losses cv cov nuv lov o1 o2 o3 o4) (hi : i ≤ 2) : o1 ≠ some i ∧ o2 ≠ some i ∧ o3 ≠ some i ∧ o4 ≠ some i :=
  ⟨fun e => by have := B.b1 _ e; omega, fun e => by have := B.b2 _ e; omega, fun e => by have := B.b3 _ e; omega, fun e => by have := B.b4 _ e; omega⟩
theorem BT.ch_more {x : Rng} {y : Value} {H : Value → List AObj → Prop} (B : BT (h.length + 1 + rest.length) g L Cs nums losses cv cov nuv lov o1 o2 o3 o4) (hl : L.length < 1000) (hy : Sli (HF h nv k s rest ++ g) y 2 1 x.cells)
    (hk : ∀ v' g', BT (h.length + 1 + rest.length) g' (L ++ [x]) Cs nums losses v' cov nuv lov (some g.length) o2 o3 o4 → (∀ i x, i ≤ 2 → g[i]? = some x → g'[i]? = some x) → H v' (HF h nv k s rest ++ g')) : aApp 2 cv y (HF h nv k s rest ++ g) H :=
  nmore B.ch (by omega) hl hy fun v' g' ho hkeep => hk v' g' ⟨by simpa using ho, ownE_keep B.co fun i x hi hx => hkeep i x (fun e => B.d12 i e hi) hx, ownE_keep B.nu fun i x hi hx => hkeep i x (fun e => B.d13 i e hi) hx, ownE_keep B.lo fun i x hi hx => hkeep i x (fun e => B.d14 i e hi) hx, by have := ownE_lt ho rfl; have := B.len; omega, fun i e => by cases e; exact B.len, B.b2, B.b3, B.b4, fun i e e2 => by cases e; have := ownE_lt B.co e2; omega, fun i e e2 => by cases e; have := ownE_lt B.nu e2; omega, fun i e e2 => by cases e; have := ownE_lt B.lo e2; omega, B.d23, B.d24, B.d34⟩ fun i x hi hx => hkeep i x (B.small hi).1 hx
theorem BT.co_more {x : Cnt} {y : Value} {H : Value → List AObj → Prop} (B : BT (h.length + 1 + rest.length) g L Cs nums losses cv cov nuv lov o1 o2 o3 o4) (hl : Cs.length < 1000) (hy : Sli (HF h nv k s rest ++ g) y 4 1 x.cells)
    (hk : ∀ v' g', BT (h.length + 1 + rest.length) g' L (Cs ++ [x]) nums losses cv v' nuv lov o1 (some g.length) o3 o4 → (∀ i x, i ≤ 2 → g[i]? = some x → g'[i]? = some x) → H v' (HF h nv k s rest ++ g')) : aApp 4 cov y (HF h nv k s rest ++ g) H :=
  nmore B.co (by omega) hl hy fun v' g' ho hkeep => hk v' g' ⟨ownE_keep B.ch fun i x hi hx => hkeep i x (B.d12 i hi) hx, by simpa using ho, ownE_keep B.nu fun i x hi hx => hkeep i x (fun e => B.d23 i e hi) hx, ownE_keep B.lo fun i x hi hx => hkeep i x (fun e => B.d24 i e hi) hx, by have := ownE_lt ho rfl; have := B.len; omega, B.b1, fun i e => by cases e; exact B.len, B.b3, B.b4, fun i e e2 => by cases e2; have := ownE_lt B.ch e; omega, B.d13, B.d14, fun i e e2 => by cases e; have := ownE_lt B.nu e2; omega, fun i e e2 => by cases e; have := ownE_lt B.lo e2; omega, B.d34⟩ fun i x hi hx => hkeep i x (B.small hi).2.1 hx
theorem BT.nu_more {x : Int} {y : Value} {H : Value → List AObj → Prop} (B : BT (h.length + 1 + rest.length) g L Cs nums losses cv cov nuv lov o1 o2 o3 o4) (hl : nums.length < 1000) (hy : Sli (HF h nv k s rest ++ g) y 1 1 [vint x])
    (hk : ∀ v' g', BT (h.length + 1 + rest.length) g' L Cs (nums ++ [x]) losses cv cov v' lov o1 o2 (some g.length) o4 → (∀ i x, i ≤ 2 → g[i]? = some x → g'[i]? = some x) → H v' (HF h nv k s rest ++ g')) : aApp 1 nuv y (HF h nv k s rest ++ g) H :=
  nmore B.nu (by omega) hl hy fun v' g' ho hkeep => hk v' g' ⟨ownE_keep B.ch fun i x hi hx => hkeep i x (B.d13 i hi) hx, ownE_keep B.co fun i x hi hx => hkeep i x (B.d23 i hi) hx, by simpa using ho, ownE_keep B.lo fun i x hi hx => hkeep i x (fun e => B.d34 i e hi) hx, by have := ownE_lt ho rfl; have := B.len; omega, B.b1, B.b2, fun i e => by cases e; exact B.len, B.b4, B.d12, fun i e e2 => by cases e2; have := ownE_lt B.ch e; omega, B.d14, fun i e e2 => by cases e2; have := ownE_lt B.co e; omega, B.d24, fun i e e2 => by cases e; have := ownE_lt B.lo e2; omega⟩ fun i x hi hx => hkeep i x (B.small hi).2.2.1 hx
theorem BT.lo_more {x : Int} {y : Value} {H : Value → List AObj → Prop} (B : BT (h.length + 1 + rest.length) g L Cs nums losses cv cov nuv lov o1 o2 o3 o4) (hl : losses.length < 1000) (hy : Sli (HF h nv k s rest ++ g) y 1 1 [vint x])
    (hk : ∀ v' g', BT (h.length + 1 + rest.length) g' L Cs nums (losses ++ [x]) cv cov nuv v' o1 o2 o3 (some g.length) → (∀ i x, i ≤ 2 → g[i]? = some x → g'[i]? = some x) → H v' (HF h nv k s rest ++ g')) : aApp 1 lov y (HF h nv k s rest ++ g) H :=
  nmore B.lo (by omega) hl hy fun v' g' ho hkeep => hk v' g' ⟨ownE_keep B.ch fun i x hi hx => hkeep i x (B.d14 i hi) hx, ownE_keep B.co fun i x hi hx => hkeep i x (B.d24 i hi) hx, ownE_keep B.nu fun i x hi hx => hkeep i x (B.d34 i hi) hx, by simpa using ho, by have := ownE_lt ho rfl; have := B.len; omega, B.b1, B.b2, B.b3, fun i e => by cases e; exact B.len, B.d12, B.d13, fun i e e2 => by cases e2; have := ownE_lt B.ch e; omega, B.d23, fun i e e2 => by cases e2; have := ownE_lt B.co e; omega, fun i e e2 => by cases e2; have := ownE_lt B.nu e; omega⟩ fun i x hi hx => hkeep i x (B.small hi).2.2.2 hx
end
structure S1 (h : List AObj) (rest g : List AObj) (C gt lo w mo : Int) (L : List Rng) (nums losses : List Int) (cv nuv lov : Value) (o1 o3 o4 : Option Nat) (j : Nat) (f : RG) : Prop where
  bt : BT (h.length + 1 + rest.length) g L [] nums losses cv (.slice none 0 0) nuv lov o1 none o3 o4
  z0 : g[0]? = some (.cells [vint 0, vint 0, vint 0, .slice none 0 0, vint 0, .slice none 0 0] true 0)
  t2 : g[2]? = some (.cells (talCells ⟨gt, ⟨lo, lo + w⟩, L, mo, []⟩ cv (.slice none 0 0)) true 0)
  chn : Chain ⟨gt, ⟨lo, lo + w⟩, L, mo, []⟩ nums losses
  lj : L.length = j
  jg : (j : Int) + 1 ≤ gt
  g5 : gt ≤ 5
  ds : f.ds = []
  r0 : f.r 0 = ptr h.length 0
  r2 : f.r 2 = vint C
  r6 : f.r 6 = ptr (h.length + 1 + rest.length + 0) 0
  r9 : f.r 9 = ptr (h.length + 1 + rest.length + 2) 0
  r10 : f.r 10 = vint (nums.getD j 0)
  r11 : f.r 11 = nuv
  r12 : f.r 12 = lov
  r13 : f.r 13 = vint ((j : Int) + 1)
theorem rnd1 (hJ : Closed prog main J) {nv : Value} {ns : List Int} {rest g : List AObj} {k : Nat} {s : Int} (hn : Hnd h nv ns) (hs : 0 ≤ s ∧ s < 18446744073709551616) (hk : k < 200000) {C gt lo w mo : Int} {L : List Rng} {nums losses : List Int} {cv nuv lov : Value} {o1 o3 o4 : Option Nat} {j : Nat} {f : RG}
    (S : S1 h rest g C gt lo w mo L nums losses cv nuv lov o1 o3 o4 j f) {nx0 : RG → List AObj → Prop}
    (hx : (j : Int) + 1 < gt → ∀ k5 t5 g3 L' nums' losses' v1 v2 v3 o1' o3' o4' f', k5 ≤ k + 4 → (0 ≤ t5 ∧ t5 < 18446744073709551616) → S1 h rest g3 C gt lo w mo L' nums' losses' v1 v2 v3 o1' o3' o4' (j + 1) f' → nx0 f' (HF h nv k5 t5 rest ++ g3))
    (he : (j : Int) + 1 = gt → ∀ k5 t5 m f', k5 ≤ k + 1 → (0 ≤ t5 ∧ t5 < 18446744073709551616) → 0 ≤ m → (m ≤ C ∨ m = 0) → m ≤ 7 → f'.ds = [] → (∀ i, i < 15 → f'.r i = f.r i) → f'.r 16 = vint m → Sem J 152 n0 61 (subC [1, 1, 1, 1, 1, 1, 1, 1, 0, 1, 0] (codeOf f61)) f' (HF h nv k5 t5 rest ++ g) (contQ prog J 152 n0 61 [1, 1, 1, 1, 1, 1, 1, 1, 0, 1, 0] (codeOf f61) [] (RetQ prog [.cell 6 42, .tmp 7, .tmp 8] n0 K))) (hC : 0 ≤ C ∧ C ≤ 7) :
    W prog J 152 n0 61 (subC [1, 1, 1, 1, 1, 1, 1, 0, 1, 0, 0] (codeOf f61)) f (HF h nv k s rest ++ g) (thenK nx0 (contQ prog J 152 n0 61 [1, 1, 1, 1, 1, 1, 1, 0, 1, 0] (codeOf f61) [] (RetQ prog [.cell 6 42, .tmp 7, .tmp 8] n0 K))) := by
  obtain ⟨B, z0, t2, chn, hj, hjg, g5, hds, r0, r2, r6, r9, r10, r11, r12, r13⟩ := S
  have numl := chn.numl
  have losl := chn.losl
  have bdj := chn.bd j (by dsimp only; omega)
  have hmo := chn.most
  dsimp only at numl losl hmo
  rw [s61_1]
  simp only [r0, r2, r9, r10, r11, r12, r13]
  refine offI (nLd t2 rfl rfl (lssI (cndI (fun hlt => ?_) fun hge => ?_)))
  · replace hlt : (j : Int) + 1 < gt := hlt
    refine amo hJ hn hs (by omega) (by omega) (by omega) fun rl k2 t2' p1 p2 hk2 ht2 => ?_
    refine fill1 rfl rfl (by decide) (fillI (nAl (nStA last_get rfl rfl rfl ?_)))
    rw [last_set]
    refine ⟨[g.length].map fun i => h.length + 1 + rest.length + i, ?_⟩
    refine offI (nLd last_get rfl rfl ⟨nRd (by simp), ?_⟩)
    refine up hJ hn ht2 (by omega) (by omega) fun d k3 t3 p3 p4 hk3 ht3 => ?_
    refine ⟨nSame (by simp), addI (by omega) (offI (nSt last_get (by simp) rfl rfl ?_))⟩
    rw [last_set]
    refine offI (nLd (v := vint mo) (get_app t2) rfl rfl ?_)
    refine up hJ hn ht3 (by omega) (by omega) fun l k4 t4 p5 p6 hk4 ht4 => ?_
    refine offI (nLd (v := vint rl) last_get rfl rfl (offI (nLd (v := vint (rl + d)) last_get rfl rfl ?_)))
    refine amo hJ hn ht4 (by omega) (by omega) (by omega) fun c k5 t5 p7 p8 hk5 ht5 => ?_
    refine addI (by omega) (subI (by omega) (offI (nLd (get_app t2) rfl (ownE_val B.ch).2.2 ?_)))
    refine nLdA (c := [vint rl, vint (rl + d)]) last_get (by simp) rfl rfl ?_
    refine ⟨by decide, fill_agg rfl rfl (by simp [zrep]) (fillI (nNew ?_))⟩
    refine ⟨by decide, BT.ch_more (x := ⟨rl, rl + d⟩) B.app.app (by omega) (nlast rfl rfl) fun v1 g1 B1 kp1 => ?_⟩
    refine ⟨by decide, fill1 rfl rfl (by decide) (fillI (nNew ?_))⟩
    refine ⟨by decide, BT.nu_more (x := nums.getD j 0 + c - l) B1.app (by omega) (nlast rfl rfl) fun v2 g2 B2 kp2 => ?_⟩
    refine ⟨by decide, fill1 rfl rfl (by decide) (fillI (nNew ?_))⟩
    refine ⟨by decide, BT.lo_more (x := l) B2.app (by omega) (nlast rfl rfl) fun v3 g3 B3 kp3 => ?_⟩
    have kp : ∀ i x, i ≤ 2 → g[i]? = some x → g3[i]? = some x := fun i x hi hx => kp3 i _ hi (get_app (kp2 i _ hi (get_app (kp1 i _ hi (get_app (get_app hx))))))
    have hgl : 2 < g3.length := B3.len
    refine offI (nSt (kp 2 _ (by omega) t2) (by simp [talCells]) (ownE_val B3.ch).1 (ownE_val B3.ch).2.1 (addI (by omega) ?_))
    refine hx hlt _ _ _ (L ++ [⟨rl, rl + d⟩]) (nums ++ [nums.getD j 0 + c - l]) (losses ++ [l]) v1 v2 v3 _ _ _ _ (by omega) ht5 ⟨B3.set2 (by omega), get_set (kp 0 _ (by omega) z0) (by omega), ?_, ?_, by simp [hj], by omega, g5, hds, r0, r2, r6, r9, ?_, rfl, rfl, ?_⟩
    · rw [List.getElem?_set_self hgl]
      rfl
    · subst hj
      exact chn.more (r := ⟨rl, rl + d⟩) (by dsimp only; omega) (by dsimp only; omega) (by dsimp only; omega)
    · show vint _ = vint _
      congr 1
      rw [← hj, ← numl, getD_app2]
    · show vint _ = vint _
      congr 1
  · refine minI ?_
    refine up hJ hn hs (by omega) (by omega) fun m k2 s2 p1 p2 hk2 hs2 => ?_
    refine he (by replace hge : ¬ ((j : Int) + 1 < gt) := hge; omega) _ _ m _ hk2 hs2 p1 (by omega) (by omega) hds (fun i hi => ?_) rfl
    match i, hi with
    | 0, _ | 1, _ | 2, _ | 3, _ | 4, _ | 5, _ | 6, _ | 7, _ | 8, _ | 9, _ | 10, _ | 11, _ | 12, _ | 13, _ | 14, _ => rfl
theorem tal_kn {t : Tal} {cv nv : Value} (h1 : kn1 cv = true) (h2 : kn1 nv = true) : kn (talCells t cv nv) = true := by
  unfold kn talCells
  simp only [List.all_cons, List.all_nil, h1, h2]
  rfl
theorem tal_ones {t : Tal} {cv nv : Value} (h1 : one cv = true) (h2 : one nv = true) : (talCells t cv nv).all one = true := by
  unfold talCells
  simp only [List.all_cons, List.all_nil, h1, h2]
  rfl
structure S2 (h : List AObj) (rest g : List AObj) (C gt lo w mo : Int) (L : List Rng) (Cs : List Cnt) (nums losses : List Int) (cv cov lov : Value) (i3 c3 : Nat) (o1 o2 o4 : Option Nat) (i : Nat) (f : RG) : Prop where
  bt : BT (h.length + 1 + rest.length) g L Cs nums losses cv cov (.slice (some ⟨h.length + 1 + rest.length + i3, 0, none⟩) nums.length c3) lov o1 o2 (some i3) o4
  z0 : g[0]? = some (.cells [vint 0, vint 0, vint 0, .slice none 0 0, vint 0, .slice none 0 0] true 0)
  t2 : g[2]? = some (.cells (talCells ⟨gt, ⟨lo, lo + w⟩, L, mo, Cs⟩ cv cov) true 0)
  co : ∀ c ∈ Cs, CoOk gt nums c
  few : (Cs.length : Int) + i ≤ C
  ds : f.ds = []
  r0 : f.r 0 = ptr h.length 0
  r6 : f.r 6 = ptr (h.length + 1 + rest.length + 0) 0
  r9 : f.r 9 = ptr (h.length + 1 + rest.length + 2) 0
  r11 : f.r 11 = .slice (some ⟨h.length + 1 + rest.length + i3, 0, none⟩) nums.length c3
  r12 : f.r 12 = lov
  r16 : f.r 16 = vint (i : Int)
theorem rnd2 (hJ : Closed prog main J) {nv : Value} {ns : List Int} {rest g : List AObj} {k : Nat} {s : Int} (hn : Hnd h nv ns) (hs : 0 ≤ s ∧ s < 18446744073709551616) (hk : k < 200000) {C gt lo w mo : Int} {L : List Rng} {Cs : List Cnt} {nums losses : List Int} {cv cov lov : Value} {i3 c3 : Nat} {o1 o2 o4 : Option Nat} {i : Nat} {f : RG}
    (S : S2 h rest g C gt lo w mo L Cs nums losses cv cov lov i3 c3 o1 o2 o4 i f) (hg : 1 ≤ gt ∧ gt ≤ 5) (hC : C ≤ 7) (hnl : (nums.length : Int) = gt) (hnb : ∀ j : Nat, (j : Int) < gt → 0 ≤ nums.getD j 0 ∧ nums.getD j 0 ≤ 100) {nx0 : RG → List AObj → Prop}
    (hx : 0 < i → ∀ k5 t5 g3 Cs' v1 o2' f', k5 ≤ k + 6 → (0 ≤ t5 ∧ t5 < 18446744073709551616) → S2 h rest g3 C gt lo w mo L Cs' nums losses cv v1 lov i3 c3 o1 o2' o4 (i - 1) f' → nx0 f' (HF h nv k5 t5 rest ++ g3))
    (he : i = 0 → ∀ g', BT (h.length + 1 + rest.length) g' L Cs nums losses cv cov (.slice (some ⟨h.length + 1 + rest.length + i3, 0, none⟩) nums.length c3) lov o1 o2 (some i3) o4 → K (.tuple ⟨[.agg ⟨talCells ⟨gt, ⟨lo, lo + w⟩, L, mo, Cs⟩ cv cov⟩, .slice (some ⟨h.length + 1 + rest.length + i3, 0, none⟩) nums.length c3, lov]⟩) (HF h nv k s rest ++ g')) :
    W prog J 152 n0 61 (subC [1, 1, 1, 1, 1, 1, 1, 1, 0, 1, 0, 0] (codeOf f61)) f (HF h nv k s rest ++ g) (thenK nx0 (contQ prog J 152 n0 61 [1, 1, 1, 1, 1, 1, 1, 1, 0, 1, 0] (codeOf f61) [] (RetQ prog [.cell 6 42, .tmp 7, .tmp 8] n0 K))) := by
  obtain ⟨B, z0, t2, cok, few, hds, r0, r6, r9, r11, r12, r16⟩ := S
  rw [s61_2]
  simp only [r0, r6, r9, r11, r12, r16]
  refine gtrI (cndI (fun hlt => ?_) fun hge => ?_)
  · refine offI (nLd (v := vint gt) t2 rfl rfl (subI (by omega) ?_))
    refine up hJ hn hs (by omega) (by omega) fun ga k1 s1 a1 b1 hk1 hs1 => ?_
    refine amo hJ hn hs1 (by omega) (by omega) (by omega) fun ma k2 s2 a2 b2 hk2 hs2 => ?_
    refine up hJ hn hs2 (by omega) (by omega) fun x k3 s3 a3 b3 hk3 hs3 => ?_
    refine up hJ hn hs3 (by omega) (by omega) fun y k4 s4 a4 b4 hk4 hs4 => ?_
    refine ⟨by decide, fill1 rfl rfl (by decide) (fill1 rfl rfl (by simp [zrep]) (fill1 rfl rfl (by simp [zrep]) (fill1 rfl rfl (by simp [zrep]) (fillI (nNew ?_)))))⟩
    refine ofl hJ hn hs4 (by omega) (others := [0, 3, x, y]) (n := 4) rfl (by omega) fun e k5 s5 me hk5 hs5 => ?_
    have he20 : 0 ≤ e ∧ e ≤ 20 := by
      rcases me with rfl | me
      · omega
      · simp at me
        omega
    refine fill1 rfl rfl (by decide) (fill1 rfl rfl (by simp) (fill1 rfl rfl (by simp) (fillI (nAl ?_))))
    refine nStA (c := [vint ga, vint ma, vint 0, vint e]) last_get rfl rfl rfl ?_
    rw [last_set]
    obtain ⟨sz3, b3'⟩ := ownE_at B.nu
    have hga : 0 ≤ ga ∧ ga < gt := by omega
    have hnu : (nums.map vint)[0 + ga.toNat * 1]? = some (vint (nums.getD ga.toNat 0)) := by
      rw [Nat.mul_one, Nat.zero_add]
      exact map_get (by omega)
    have hnb' := hnb ga.toNat (by omega)
    have mb := mul_bd he20.1 he20.2 hnb'.1 hnb'.2
    have g3 : (g ++ [AObj.cells ([0, 3, x, y].map vint) true 0] ++ [AObj.cells [vint ga, vint ma, vint 0, vint e] true 0])[i3]? = some (.cells (nums.map vint) true sz3) := get_app (get_app b3')
    refine offI (nLd (v := vint e) last_get rfl rfl (offI (nLd (v := vint ga) last_get rfl rfl (idxI ⟨by omega, by omega⟩ (nLd g3 hnu rfl ?_)))))
    generalize hE : nums.getD ga.toNat 0 = E at *
    have d0 : 0 ≤ e * E / 100 := Int.ediv_nonneg (by omega) (by omega)
    have d1 : e * E / 100 ≤ 20 := by
      have : e * E / 100 ≤ 2000 / 100 := Int.ediv_le_ediv (by omega) (by omega)
      omega
    refine mulI (by omega) (b_quo (by omega) (by omega) (by omega) ?_)
    refine ⟨[(g ++ [AObj.cells ([0, 3, x, y].map vint) true 0]).length, i3].map fun i => h.length + 1 + rest.length + i, ?_⟩
    refine offI (nLd (v := vint ga) last_get rfl rfl ⟨nRd (by simp), idxI ⟨by omega, by omega⟩ (nLd g3 hnu rfl ⟨nRd (by simp), negI (by omega) ?_⟩)⟩)
    refine amo hJ hn hs5 (by omega) (by omega) (by omega) fun z k6 s6 a6 b6 hk6 hs6 => ?_
    refine ⟨nSame (by simp), addI (by omega) (offI (nSt last_get (by simp) rfl rfl ?_))⟩
    rw [last_set]
    refine offI (nLd (get_app (get_app t2)) rfl (ownE_val B.co).2.2 ?_)
    refine nLdA (c := [vint ga, vint ma, vint (E + z), vint e]) last_get (by simp) rfl rfl ?_
    refine ⟨by decide, fill_agg rfl rfl (by simp [zrep]) (fillI (nNew ?_))⟩
    refine ⟨by decide, BT.co_more (x := ⟨ga, ma, E + z, e⟩) B.app.app.app (by omega) (nlast rfl rfl) fun v1 g1 B1 kp1 => ?_⟩
    have kp : ∀ i x, i ≤ 2 → g[i]? = some x → g1[i]? = some x := fun i x hi hx => kp1 i _ hi (get_app (get_app (get_app hx)))
    have hgl : 2 < g1.length := B1.len
    refine offI (nSt (kp 2 _ (by omega) t2) (by simp [talCells]) (ownE_val B1.co).1 (ownE_val B1.co).2.1 (subI (by omega) ?_))
    refine hx (by omega) _ _ _ (Cs ++ [⟨ga, ma, E + z, e⟩]) v1 _ _ (by omega) hs6 ⟨B1.set2 (by omega), get_set (kp 0 _ (by omega) z0) (by omega), ?_, ?_, by simp; omega, hds, r0, r6, r9, r11, r12, ?_⟩
    · rw [List.getElem?_set_self hgl]
      rfl
    · intro c hc
      rcases List.mem_append.1 hc with hc | hc
      · exact cok c hc
      · simp at hc
        subst hc
        exact ⟨hga, by dsimp only; omega, he20, by dsimp only; rw [hE]; omega⟩
    · show vint _ = vint _
      congr 1
      omega
  · have hgl : 2 < g.length := B.len
    have hkn : kn (talCells ⟨gt, ⟨lo, lo + w⟩, L, mo, Cs⟩ cv cov) = true := tal_kn (ownE_val B.ch).2.2 (ownE_val B.co).2.2
    refine nLdA (c := talCells ⟨gt, ⟨lo, lo + w⟩, L, mo, Cs⟩ cv cov) t2 (by simp [talCells]) rfl hkn ?_
    refine nStA z0 rfl rfl (tal_ones (ownE_val B.ch).2.1 (ownE_val B.co).2.1) ?_
    refine retQ_same hds ?_
    refine resW_cell (gg := true) (s := 6) (by kernel_rfl) ?_
    show aLoad true 6 (f.r 6) _ _
    rw [r6]
    refine nLdA (c := talCells ⟨gt, ⟨lo, lo + w⟩, L, mo, Cs⟩ cv cov) (List.getElem?_set_self (by omega)) (by simp [talCells]) rfl hkn ?_
    refine resW_tmp (by show Value.slice _ _ _ ≠ unk; simp [unk]) (resW_tmp ?_ (resW_nil ?_))
    · show lov ≠ unk
      intro e
      have := (ownE_val B.lo).2.2
      rw [e] at this
      exact absurd this (by decide)
    · exact he (by omega) _ (B.set2 (by omega))
theorem good61 (hJ : Closed prog main J) {nv : Value} {ns : List Int} {rest : List AObj} {k : Nat} {s : Int} (hn : Hnd h nv ns) (hs : 0 ≤ s ∧ s < 18446744073709551616) (hk : k < 100000) {G C : Int} (hG : 1 ≤ G ∧ G ≤ 5) (hC : 0 ≤ C ∧ C ≤ 7)
    (hK : ∀ (t : Tal) (nums losses : List Int) cv co nuv lov o1 o2 o3 o4 g k' s', TruthOk G C t nums losses → OwnE (h.length + 1 + rest.length) g 2 (t.changes.flatMap Rng.cells) t.changes.length cv o1 → OwnE (h.length + 1 + rest.length) g 4 (t.counts.flatMap Cnt.cells) t.counts.length co o2 →
      OwnE (h.length + 1 + rest.length) g 1 (nums.map vint) nums.length nuv o3 → OwnE (h.length + 1 + rest.length) g 1 (losses.map vint) losses.length lov o4 → (∀ i, o1 = some i → o2 ≠ some i) → k' ≤ k + 100 → (0 ≤ s' ∧ s' < 18446744073709551616) → K (.tuple ⟨[.agg ⟨talCells t cv co⟩, nuv, lov]⟩) (HF h nv k' s' rest ++ g)) :
    Good prog J 61 [ptr h.length 0, vint G, vint C] (HF h nv k s rest) K := by
  refine g61 hJ fun ok => ?_
  rw [e61]
  have h0 : HF h nv k s rest = HF h nv k s rest ++ [] := by simp
  rw [h0]
  refine nAl (minI ?_)
  rw [show min G 5 = G from by omega]
  refine amo hJ hn hs (by omega) (by omega) (by omega) fun gt k1 s1 g1 g2 hk1 hs1 => ?_
  refine up hJ hn hs1 (by omega) (by omega) fun x k2 s2 x1 x2 hk2 hs2 => ?_
  refine ⟨by decide, fill1 rfl rfl (by decide) (fill1 rfl rfl (by simp [zrep]) (fill1 rfl rfl (by simp [zrep]) (fillI (nNew ?_))))⟩
  refine ofl hJ hn hs2 (by omega) (others := [1, 2, x]) (n := 3) rfl (by omega) fun mo k3 s3 m1 hk3 hs3 => ?_
  have mo4 : 0 ≤ mo ∧ mo ≤ 4 := by
    rcases m1 with rfl | m1
    · omega
    · simp at m1
      omega
  refine fill1 rfl rfl (by decide) (fill1 rfl rfl (by simp) (fillI (nAl ?_)))
  refine nStA last_get rfl rfl rfl ?_
  rw [last_set]
  refine amo hJ hn hs3 (by omega) (by omega) (by omega) fun lo k4 s4 l1 l2 hk4 hs4 => ?_
  refine offI (offI (nSt last_get (by simp) rfl rfl ?_))
  rw [last_set]
  refine ⟨[2].map fun i => h.length + 1 + rest.length + i, ?_⟩
  refine offI (offI (nLd last_get rfl rfl ⟨nRd (by simp), ?_⟩))
  refine up hJ hn hs4 (by omega) (by omega) fun a k5 s5 a1 a2 hk5 hs5 => ?_
  refine ⟨nSame (by simp), ?_⟩
  refine up hJ hn hs5 (by omega) (by omega) fun b k6 s6 b1 b2 hk6 hs6 => ?_
  refine ⟨nSame (by simp), ?_⟩
  refine ⟨by decide, fill1 rfl rfl (by decide) (fill1 rfl rfl (by simp [zrep]) (fillI (nNew ⟨nSame (by simp), ?_⟩)))⟩
  refine ofl hJ hn hs6 (by omega) (others := [a, b]) (n := 2) rfl (by omega) fun w k7 s7 w1 hk7 hs7 => ?_
  have w6 : 0 ≤ w ∧ w ≤ 6 := by
    rcases w1 with rfl | w1
    · omega
    · simp at w1
      omega
  refine ⟨nSame (by simp), addI (by omega) (offI (offI (nSt (i := 2) rfl (by simp) rfl rfl ?_)))⟩
  refine offI (offI (nLd (i := 2) rfl rfl rfl (offI (offI (nLd (i := 2) rfl rfl rfl ?_)))))
  refine amo hJ hn hs7 (by omega) (by omega) (by omega) fun now k8 s8 n1 n2 hk8 hs8 => ?_
  refine ⟨by decide, fill1 rfl rfl (by decide) (fillI (nNew ?_))⟩
  -- the ranges
  have kk : k8 ≤ k + 8 := by omega
  clear hk1 hk2 hk3 hk4 hk5 hk6 hk7 hk8 hs1 hs2 hs3 hs4 hs5 hs6 hs7
  refine l61_1 hJ (fun j : Nat => 5 - j) (fun j f h' => ∃ k1 s1 g L nums losses cv nuv lov o1 o3 o4, h' = HF h nv k1 s1 rest ++ g ∧ (0 ≤ s1 ∧ s1 < 18446744073709551616) ∧ k1 ≤ k + 20 + 4 * j ∧ S1 h rest g C gt lo w mo L nums losses cv nuv lov o1 o3 o4 j f) ?_ (s := 0)
    (.inl ⟨k8, s8, _, [], [now], [], _, _, _, none, some 4, none, rfl, hs8, by omega, ⟨ownE_nil, ownE_nil, ⟨rfl, rfl, .inr ⟨4, 1, 0, rfl, rfl, rfl, .inr rfl⟩⟩, ownE_nil, by simp, by simp, by simp, by simp, by simp, by simp, by simp, by simp, by simp, by simp, by simp⟩, rfl, rfl,
      ⟨rfl, rfl, by dsimp only; omega, mo4, by simp, by simp only [List.getD_cons_zero]; omega, fun i hi => absurd hi (by simp)⟩, rfl, by omega, by omega, rfl, rfl, rfl, rfl, rfl, rfl, rfl, rfl, rfl⟩)
  rintro j f _ ⟨k1, t1, g, L, nums, losses, cv, nuv, lov, o1, o3, o4, rfl, ht1, hkj, S⟩ ok' hn'
  have hj4 : j ≤ 4 := by
    have := S.jg
    have := S.g5
    omega
  refine rnd1 hJ hn ht1 (by omega) S (fun hlt k5 t5 g3 L' nums' losses' v1 v2 v3 o1' o3' o4' f' q1 q2 q3 => ⟨j + 1, by dsimp only; omega, .inl ⟨_, _, _, _, _, _, _, _, _, _, _, _, rfl, q2, by omega, q3⟩⟩) ?_ hC
  intro hjg k2 t2 m f' hk2 ht2 m1 m2 m3 hds hr r16
  have hl := S.lj
  have chn := S.chn
  have numl := chn.numl
  dsimp only at numl
  obtain ⟨i3, c3, sz3, rfl, hnuv, b3, c3'⟩ : ∃ i3 c3 sz3, o3 = some i3 ∧ nuv = .slice (some ⟨h.length + 1 + rest.length + i3, 0, none⟩) nums.length c3 ∧ g[i3]? = some (.cells (nums.map vint) true sz3) ∧ ((c3 = fz ∧ sz3 = 1) ∨ c3 = nums.length) := by
    rcases S.bt.nu.2.2 with ⟨x, _⟩ | x
    · omega
    · exact x
  subst hnuv
  refine l61_2 hJ (fun i : Nat => i) (fun i f h' => ∃ k1 s1 g Cs cov o2, h' = HF h nv k1 s1 rest ++ g ∧ (0 ≤ s1 ∧ s1 < 18446744073709551616) ∧ k1 + 7 * i ≤ k + 99 ∧ S2 h rest g C gt lo w mo L Cs nums losses cv cov lov i3 c3 o1 o2 o4 i f) ?_ (s := m.toNat)
    (.inl ⟨_, _, _, [], _, none, rfl, ht2, by omega, S.bt, S.z0, S.t2, by simp, by simp; omega, hds, by rw [hr 0 (by omega), S.r0], by rw [hr 6 (by omega), S.r6], by rw [hr 9 (by omega), S.r9], by rw [hr 11 (by omega), S.r11], by rw [hr 12 (by omega), S.r12], by rw [r16]; congr 1; omega⟩)
  clear b3 c3'
  rintro i f _ ⟨k3, t3, g, Cs, cov, o2, rfl, ht3, hk3, S'⟩ ok' hn'
  have hjg' := S.g5
  refine rnd2 hJ hn ht3 (by omega) S' (by omega) (by omega) (by omega) (fun q hq => ?_) (fun hlt k5 t5 g3 Cs' v1 o2' f' q1 q2 q3 => ⟨i - 1, by dsimp only; omega, .inl ⟨_, _, _, _, _, _, rfl, q2, by omega, q3⟩⟩) ?_
  · have := chn.bd q (by dsimp only; omega)
    omega
  · intro hi0 g' B'
    have few := S'.few
    refine hK ⟨gt, ⟨lo, lo + w⟩, L, mo, Cs⟩ nums losses cv cov _ lov o1 o2 _ o4 g' _ _ ⟨by dsimp only; omega, by dsimp only; omega, ?_, by dsimp only; omega, S'.co⟩ B'.ch B'.co B'.nu B'.lo B'.d12 (by omega) ht3
    exact ⟨chn.numl, chn.losl, chn.first, chn.most, chn.ch, chn.zero, chn.step⟩
end
structure TalOk (G C : Int) (t : Tal) : Prop where
  gates : 1 ≤ t.gates ∧ t.gates ≤ G
  chl : (t.changes.length : Int) = t.gates - 1
  first : 30 ≤ t.first.lo ∧ t.first.lo ≤ 60 ∧ t.first.lo ≤ t.first.hi ∧ t.first.hi ≤ t.first.lo + 6
  most : 0 ≤ t.most ∧ t.most ≤ 4
  ch : ∀ r ∈ t.changes, -3 ≤ r.lo ∧ r.lo ≤ 2 ∧ r.lo ≤ r.hi ∧ r.hi ≤ r.lo + 2
  few : (t.counts.length : Int) ≤ C
  co : ∀ c ∈ t.counts, (0 ≤ c.gate ∧ c.gate < t.gates) ∧ (1 ≤ c.man ∧ c.man ≤ 4) ∧ (0 ≤ c.err ∧ c.err ≤ 20) ∧ (0 ≤ c.num ∧ c.num ≤ 200)
theorem firstE_zero {l : List Int} (h : ∀ e ∈ l, e = 0) : firstE l = 0 := by
  induction l with
  | nil => rfl
  | cons a l ih =>
    unfold firstE
    rw [if_neg (by simpa using h a (by simp))]
    exact ih fun e he => h e (by simp [he])
theorem TalOk.err {G C : Int} {t : Tal} (h : TalOk G C t) (hG : G ≤ 5) (hC : C ≤ 7) : talErr t = 0 := by
  have h1 := h.gates
  have h2 := h.chl
  have h3 := h.first
  have h4 := h.most
  have h5 := h.few
  have hr : rngErr 0 300 t.first = 0 := by
    unfold rngErr
    rw [if_neg (by omega), if_neg (by omega)]
  have hc : firstE (t.changes.map (rngErr (-60) 60)) = 0 := firstE_zero fun e he => by
    obtain ⟨r, hr, rfl⟩ := List.mem_map.1 he
    have := h.ch r hr
    unfold rngErr
    rw [if_neg (by omega), if_neg (by omega)]
  unfold talErr
  rw [if_neg (by omega), if_neg (by omega), if_neg (by omega), if_neg (by omega), if_neg (by omega), if_neg (by omega), if_neg (by omega)]
  refine firstE_zero fun e he => ?_
  obtain ⟨c, hc, rfl⟩ := List.mem_map.1 he
  obtain ⟨a, b, c, d⟩ := h.co c hc
  unfold cntErr
  rw [if_neg (by omega), if_neg (by omega)]
theorem cnt_set (x : Int) : ∀ (Cs : List Cnt) (i : Nat) (hi : i < Cs.length), (Cs.flatMap Cnt.cells).set (i * 4 + 2) (vint x) = (Cs.set i { Cs[i] with num := x }).flatMap Cnt.cells
  | [], _, hi => absurd hi (by simp)
  | c :: Cs, 0, _ => rfl
  | c :: Cs, i + 1, hi => by
    have ih := cnt_set x Cs i (by simpa using hi)
    simp only [List.flatMap_cons, List.set_cons_succ, List.getElem_cons_succ]
    rw [← ih, List.set_append_right _ _ (by rw [cnt_len]; omega), cnt_len]
    congr 2
    omega
theorem TruthOk.num {G C : Int} {t : Tal} {nums losses : List Int} (h : TruthOk G C t nums losses) (hG : G ≤ 5) (c : Cnt) (hc : c ∈ t.counts) : 0 ≤ c.num ∧ c.num ≤ 150 := by
  obtain ⟨a, b, d, e⟩ := h.co c hc
  have h1 := h.gates
  have h2 := h.chl
  have := h.chain.bd c.gate.toNat (by omega)
  have mb := mul_bd d.1 d.2 (b := nums.getD c.gate.toNat 0) (B := 100) (by omega) (by omega)
  generalize hE : nums.getD c.gate.toNat 0 = E at *
  have d0 : 0 ≤ c.err * E / 100 := Int.ediv_nonneg (by omega) (by omega)
  have d1 : c.err * E / 100 ≤ 20 := by
    have : c.err * E / 100 ≤ 2000 / 100 := Int.ediv_le_ediv (by omega) (by omega)
    omega
  have m2 := mul_bd (a := 20 - c.err) (A := 20) (by omega) (by omega) (b := E) (B := 100) (by omega) (by omega)
  have e2 : c.err * E / 100 ≤ E / 5 := by
    have h3 : c.err * E ≤ 20 * E := by
      have : (20 - c.err) * E = 20 * E - c.err * E := Int.sub_mul _ _ _
      omega
    have : c.err * E / 100 ≤ 20 * E / 100 := Int.ediv_le_ediv (by omega) h3
    omega
  omega
theorem TruthOk.tal {G C : Int} {t : Tal} {nums losses : List Int} (h : TruthOk G C t nums losses) (hG : G ≤ 5) : TalOk G C t where
  gates := h.gates
  chl := h.chl
  first := h.chain.first
  most := h.chain.most
  ch := h.chain.ch
  few := h.few
  co := fun c hc => by
    obtain ⟨a, b, d, e⟩ := h.co c hc
    have := h.num hG c hc
    exact ⟨a, b, d, by omega, by omega⟩
section
variable {main : Bool} {J : JT} {h : List AObj} {K : Value → List AObj → Prop} {n0 : Nat}
theorem ownE_shift {n : Nat} {g : List AObj} {z : AObj} {s : Nat} {cs : List Value} {len : Nat} {v : Value} {o : Option Nat} (ho : OwnE (n + 1) g s cs len v o) : OwnE n (z :: g) s cs len v (o.map (· + 1)) := by
  obtain ⟨h1, h2, ⟨a, b, rfl⟩ | ⟨i, c, sz, rfl, rfl, h5, h6⟩⟩ := ho
  · exact ⟨h1, h2, .inl ⟨a, b, rfl⟩⟩
  · exact ⟨h1, h2, .inr ⟨i + 1, c, sz, rfl, by rw [Nat.add_assoc n 1 i, Nat.add_comm 1 i], h5, h6⟩⟩
structure TO (h : List AObj) (rest g : List AObj) (t : Tal) (cv co : Value) (o1 o2 : Option Nat) : Prop where
  ch : OwnE (h.length + 1 + rest.length) g 2 (t.changes.flatMap Rng.cells) t.changes.length cv o1
  co : OwnE (h.length + 1 + rest.length) g 4 (t.counts.flatMap Cnt.cells) t.counts.length co o2
theorem TO.at {nv : Value} {k : Nat} {s : Int} {rest g : List AObj} {t : Tal} {cv co : Value} {o1 o2 : Option Nat} (T : TO h rest g t cv co o1 o2) : TalAt (HF h nv k s rest ++ g) (.agg ⟨talCells t cv co⟩) t cv co :=
  ⟨rfl, nsli T.ch, nsli T.co⟩
theorem good28 (hJ : Closed prog main J) {nv : Value} {ns : List Int} {rest : List AObj} {k : Nat} {s : Int} (hn : Hnd h nv ns) (hs : 0 ≤ s ∧ s < 18446744073709551616) (hk : k < 50000) {G C : Int} (hG : 1 ≤ G ∧ G ≤ 5) (hC : 0 ≤ C ∧ C ≤ 7)
    (hK : ∀ (t : Tal) cv co o1 o2 g k' s', TalOk G C t → TO h rest g t cv co o1 o2 → k' ≤ k + 120 → (0 ≤ s' ∧ s' < 18446744073709551616) → K (.agg ⟨talCells t cv co⟩) (HF h nv k' s' rest ++ g)) :
    Good prog J 28 [ptr h.length 0, vint G, vint C] (HF h nv k s rest) K := by
  refine g28 hJ fun ok => ?_
  rw [e28]
  have h0 : HF h nv k s rest = HF h nv k s rest ++ [] := by simp
  rw [h0]
  refine nAl ?_
  rw [List.nil_append, hf_app]
  refine good61 hJ hn hs (by omega) hG hC fun t nums losses cv co nuv lov o1 o2 o3 o4 g k1 s1 T O1 O2 _ _ hd hk1 hs1 => ext30 (ext31 (ext32 ?_))
  have hT := T.tal hG.2
  have hre : HF h nv k1 s1 (rest ++ [.cells [vint 0, vint 0, vint 0, .slice none 0 0, vint 0, .slice none 0 0] true 0]) ++ g = HF h nv k1 s1 rest ++ (.cells [vint 0, vint 0, vint 0, .slice none 0 0, vint 0, .slice none 0 0] true 0 :: g) := by
    rw [← hf_app, List.append_assoc]
    rfl
  have hln : h.length + 1 + (rest ++ [AObj.cells [vint 0, vint 0, vint 0, Value.slice none 0 0, vint 0, Value.slice none 0 0] true 0]).length = h.length + 1 + rest.length + 1 := by rw [List.length_append]; rfl
  rw [hln] at O1 O2
  have O1' := ownE_shift (z := .cells [vint 0, vint 0, vint 0, .slice none 0 0, vint 0, .slice none 0 0] true 0) O1
  have O2' := ownE_shift (z := .cells [vint 0, vint 0, vint 0, .slice none 0 0, vint 0, .slice none 0 0] true 0) O2
  rw [hre]
  have hc1 : ∀ i, o1.map (· + 1) = some i → 0 < i := fun i e => by
    cases o1 <;> simp at e
    omega
  have hc2 : ∀ i, o2.map (· + 1) = some i → 0 < i := fun i e => by
    cases o2 <;> simp at e
    omega
  have hd' : ∀ i, o1.map (· + 1) = some i → o2.map (· + 1) ≠ some i := fun i e e2 => by
    cases o1 <;> cases o2 <;> simp at e e2
    exact hd _ rfl (by congr 1; omega)
  generalize hg1 : (AObj.cells [vint 0, vint 0, vint 0, Value.slice none 0 0, vint 0, Value.slice none 0 0] true 0 :: g) = g1 at *
  have z0 : g1[0]? = some (.cells [vint 0, vint 0, vint 0, .slice none 0 0, vint 0, .slice none 0 0] true 0) := by rw [← hg1]; rfl
  generalize o1.map (· + 1) = p1 at *
  generalize o2.map (· + 1) = p2 at *
  refine nAl (nStA last_get rfl rfl (tal_ones (ownE_val O1').2.1 (ownE_val O2').2.1) ?_)
  rw [last_set]
  have hl1 : 0 < g1.length := by
    rw [← hg1]
    simp
  have lt1 : ∀ i, p1 = some i → i < g1.length := fun i e => ownE_lt O1' e
  have lt2 : ∀ i, p2 = some i → i < g1.length := fun i e => ownE_lt O2' e
  refine l28_1 hJ (fun i : Nat => 7 - i) (fun i f h' => ∃ k2 s2 g Cs, h' = HF h nv k2 s2 rest ++ g ∧ (0 ≤ s2 ∧ s2 < 18446744073709551616) ∧ k2 ≤ k + 100 + 2 * i ∧ i ≤ t.counts.length ∧ Cs.length = t.counts.length ∧ TalOk G C { t with counts := Cs } ∧ (∀ j (hj : j < Cs.length), i ≤ j → Cs[j].num ≤ 150) ∧
      OwnE (h.length + 1 + rest.length) g 2 (t.changes.flatMap Rng.cells) t.changes.length cv p1 ∧ OwnE (h.length + 1 + rest.length) g 4 (Cs.flatMap Cnt.cells) Cs.length co p2 ∧
      g[0]? = some (.cells [vint 0, vint 0, vint 0, .slice none 0 0, vint 0, .slice none 0 0] true 0) ∧ g[g1.length]? = some (.cells (talCells t cv co) true 0) ∧
      f.ds = [] ∧ f.r 0 = ptr h.length 0 ∧ f.r 6 = ptr (h.length + 1 + rest.length + 0) 0 ∧ f.r 7 = ptr (h.length + 1 + rest.length + g1.length) 0 ∧ f.r 10 = vint (i : Nat)) ?_ (s := 0)
    (.inl ⟨_, _, _, t.counts, rfl, hs1, by omega, by omega, rfl, hT, (fun j hj _ => (T.num hG.2 _ (List.getElem_mem _)).2), ownE_app O1', ownE_app O2', get_app z0, last_get, rfl, rfl, rfl, rfl, rfl⟩)
  clear hT z0 O1 O2 O1' O2' hre hln T hg1
  rintro i f _ ⟨k2, s2, g, Cs, rfl, hs2, hk2, hi, hcl, hT, h150, O1, O2, z0, tb, hds, r0, r6, r7, r10⟩ ok' hn'
  have hfew := hT.few
  dsimp only at hfew
  rw [s28_1]
  simp only [r0, r6, r7, r10]
  have hnext : ∀ {k3 s3 g' Cs' f'}, k3 ≤ k + 100 + 2 * (i + 1) → (0 ≤ s3 ∧ s3 < 18446744073709551616) → i < t.counts.length → Cs'.length = t.counts.length → TalOk G C { t with counts := Cs' } → (∀ j (hj : j < Cs'.length), i + 1 ≤ j → Cs'[j].num ≤ 150) → OwnE (h.length + 1 + rest.length) g' 2 (t.changes.flatMap Rng.cells) t.changes.length cv p1 →
      OwnE (h.length + 1 + rest.length) g' 4 (Cs'.flatMap Cnt.cells) Cs'.length co p2 → g'[0]? = some (.cells [vint 0, vint 0, vint 0, .slice none 0 0, vint 0, .slice none 0 0] true 0) → g'[g1.length]? = some (.cells (talCells t cv co) true 0) →
      f'.ds = [] → f'.r 0 = ptr h.length 0 → f'.r 6 = ptr (h.length + 1 + rest.length + 0) 0 → f'.r 7 = ptr (h.length + 1 + rest.length + g1.length) 0 → f'.r 10 = vint ((i : Int) + 1) → Nx (HF h nv k s rest ++ []).length (fun i : Nat => 7 - i) (fun i f h' => ∃ k2 s2 g Cs, h' = HF h nv k2 s2 rest ++ g ∧ (0 ≤ s2 ∧ s2 < 18446744073709551616) ∧ k2 ≤ k + 100 + 2 * i ∧ i ≤ t.counts.length ∧ Cs.length = t.counts.length ∧ TalOk G C { t with counts := Cs } ∧ (∀ j (hj : j < Cs.length), i ≤ j → Cs[j].num ≤ 150) ∧
      OwnE (h.length + 1 + rest.length) g 2 (t.changes.flatMap Rng.cells) t.changes.length cv p1 ∧ OwnE (h.length + 1 + rest.length) g 4 (Cs.flatMap Cnt.cells) Cs.length co p2 ∧
      g[0]? = some (.cells [vint 0, vint 0, vint 0, .slice none 0 0, vint 0, .slice none 0 0] true 0) ∧ g[g1.length]? = some (.cells (talCells t cv co) true 0) ∧
      f.ds = [] ∧ f.r 0 = ptr h.length 0 ∧ f.r 6 = ptr (h.length + 1 + rest.length + 0) 0 ∧ f.r 7 = ptr (h.length + 1 + rest.length + g1.length) 0 ∧ f.r 10 = vint (i : Nat)) i f' (HF h nv k3 s3 rest ++ g') :=
    fun q1 q2 q3 q4 q5 q15 q6 q7 q8 q9 q10 q11 q12 q13 q14 => ⟨i + 1, by dsimp only; omega, .inl ⟨_, _, _, _, rfl, q2, by omega, by omega, q4, q5, q15, q6, q7, q8, q9, q10, q11, q12, q13, q14⟩⟩
  refine offI (nLd (v := co) tb rfl (ownE_val O2).2.2 (lenI (nsli (h := h) (nv := nv) (k := k2) (s := s2) O2) (lssI (cndI (fun hlt => ?_) fun hge => ?_))))
  · have hil : i < Cs.length := by omega
    obtain ⟨ic, c, sz, rfl, rfl, gc, gcc⟩ : ∃ ic c sz, p2 = some ic ∧ co = .slice (some ⟨h.length + 1 + rest.length + ic, 0, none⟩) Cs.length c ∧ g[ic]? = some (.cells (Cs.flatMap Cnt.cells) true sz) ∧ ((c = fz ∧ sz = 4) ∨ c = Cs.length) := by
      rcases O2.2.2 with ⟨x, _⟩ | x
      · omega
      · exact x
    refine good69 hJ hn hs2 (by omega) (by omega) fun y k3 s3 hk3 hs3 => cnd_bool.2 ⟨fun _ => ?_, fun _ => addI (by omega) (hnext (by omega) hs3 (by omega) hcl hT (fun j hj x => h150 j hj (by omega)) O1 O2 z0 tb hds r0 r6 r7 rfl)⟩
    have hco := hT.co Cs[i] (List.getElem_mem _)
    dsimp only at hco
    have hcell : (Cs.flatMap Cnt.cells)[0 + i * 4 + 2]? = some (vint Cs[i].num) := by
      rw [Nat.zero_add]
      exact part_get (flat_take cnt_len Cs i hil) rfl
    have hin : (0 : Int) ≤ (i : Nat) ∧ ((i : Nat) : Int) < (Cs.length : Nat) := by omega
    have hic1 := hc2 ic rfl
    have hic2 := lt2 ic rfl
    refine ⟨[g1.length, ic].map fun i => h.length + 1 + rest.length + i, ?_⟩
    refine offI (nLd tb rfl rfl ⟨nRd (by simp), offI (nLd tb rfl rfl ⟨nRd (by simp), ?_⟩)⟩)
    refine idxI hin (offI (nLd gc hcell rfl ⟨nRd (by simp), ?_⟩))
    refine amo hJ hn hs3 (by omega) (by omega) (by omega) fun x k4 s4 x1 x2 hk4 hs4 => ?_
    refine ⟨nSame (by simp), addI (by omega) (maxI (idxI hin (offI (nSt gc ?_ rfl rfl (addI (by omega) ?_)))))⟩
    · have := ownE_sli (A := List.replicate (h.length + 1 + rest.length) AObj.dead) (by rw [List.length_replicate]; exact O2)
      have := sli_vlen this
      rw [this]
      omega
    have hcs : (Cs.flatMap Cnt.cells).set (0 + (Int.toNat (i : Int)) * 4 + 2) (vint (max 0 (Cs[i].num + x))) = (Cs.set i { Cs[i] with num := max 0 (Cs[i].num + x) }).flatMap Cnt.cells := by
      rw [Nat.zero_add, Int.toNat_natCast]
      exact cnt_set _ Cs i hil
    rw [hcs]
    refine hnext (Cs' := Cs.set i { Cs[i] with num := max 0 (Cs[i].num + x) }) (by omega) hs4 (by omega) (by simpa using hcl) ?_ (fun j hj x => ?_) (ownE_set O1 fun e => hd' ic e rfl) ?_ (get_set z0 (by omega)) (get_set tb (by omega)) hds r0 r6 r7 rfl
    · refine ⟨hT.gates, hT.chl, hT.first, hT.most, hT.ch, by simpa using hT.few, fun c hc => ?_⟩
      rcases List.mem_or_eq_of_mem_set hc with hc | hc
      · exact hT.co c hc
      · subst hc
        have := h150 i hil (by omega)
        exact ⟨hco.1, hco.2.1, hco.2.2.1, by dsimp only; omega, by dsimp only; omega⟩
    · rw [List.getElem_set_ne (by omega)]
      exact h150 j (by simpa using hj) (by omega)
    · refine ⟨?_, ?_, .inr ⟨ic, c, sz, rfl, by rw [List.length_set], ?_, by rw [List.length_set]; assumption⟩⟩
      · have := O2.1
        rw [← cnt_set _ Cs i hil]
        simpa using this
      · rw [← cnt_set _ Cs i hil]
        have := O2.2.1
        unfold kn at *
        rw [List.all_eq_true] at this ⊢
        intro y hy
        rcases List.mem_or_eq_of_mem_set hy with hy | hy
        · exact this y hy
        · subst hy
          rfl
      · rw [List.getElem?_set_self (List.getElem?_eq_some_iff.1 gc).1]
  · have hgl : g1.length < g.length := (List.getElem?_eq_some_iff.1 tb).1
    have hkn : kn (talCells t cv co) = true := tal_kn (ownE_val O1).2.2 (ownE_val O2).2.2
    refine nLdA (c := talCells t cv co) tb (by simp [talCells]) rfl hkn ?_
    refine nStA z0 rfl rfl (tal_ones (ownE_val O1).2.1 (ownE_val O2).2.1) ?_
    refine retQ_same hds ?_
    refine resW_cell (gg := true) (s := 6) (by kernel_rfl) ?_
    show aLoad true 6 (f.r 6) _ _
    rw [r6]
    refine nLdA (c := talCells t cv co) (List.getElem?_set_self (by omega)) (by simp [talCells]) rfl hkn ?_
    refine resW_nil ?_
    have hi7 := hfew
    exact hK { t with counts := Cs } cv co p1 p2 _ _ _ hT ⟨ownE_set O1 fun e => by have := hc1 _ e; omega, ownE_set O2 fun e => by have := hc2 _ e; omega⟩ (by omega) hs2
end
def Rng.meet (a b : Rng) : Rng := ⟨max a.lo b.lo, min a.hi b.hi⟩
def Rng.plus (a b : Rng) : Rng := ⟨a.lo + b.lo, a.hi + b.hi⟩
def Rng.turn (a : Rng) : Rng := ⟨-a.hi, -a.lo⟩
def rd (c : Cnt) : Rng := ⟨rdLo c, rdHi c⟩
def Rng.sm (a : Rng) (B : Int) : Prop := (-B ≤ a.lo ∧ a.lo ≤ B) ∧ (-B ≤ a.hi ∧ a.hi ≤ B)
def keepB (u : Int) (i : Nat) : Bool := decide (IntKind.u64.wrap (BitVec.ofInt 64 (u.fdiv (2 ^ min i 64)) &&& BitVec.ofInt 64 1).toNat = 0)
def limCells (L : Nat → Rng) : List Value := [vint (L 0).lo, vint (L 0).hi, vint (L 1).lo, vint (L 1).hi, vint (L 2).lo, vint (L 2).hi, vint (L 3).lo, vint (L 3).hi, vint (L 4).lo, vint (L 4).hi]
def updL (L : Nat → Rng) (i : Nat) (r : Rng) : Nat → Rng := fun g => if g = i then r else L g
def limN (u : Int) (cs : List Cnt) : Nat → Nat → Rng
  | 0 => fun _ => ⟨0, 600⟩
  | i + 1 => match cs[i]? with
    | some c => bif keepB u i then updL (limN u cs i) c.gate.toNat ((limN u cs i c.gate.toNat).meet (rd c)) else limN u cs i
    | none => limN u cs i
theorem keep_zero (i : Nat) : keepB 0 i = true := by
  unfold keepB
  have : Int.fdiv 0 (2 ^ min i 64) = 0 := Int.zero_fdiv _
  rw [this]
  rfl
theorem lim_congr {L L' : Nat → Rng} (h : ∀ g, g < 5 → L g = L' g) : limCells L = limCells L' := by
  unfold limCells
  rw [h 0 (by omega), h 1 (by omega), h 2 (by omega), h 3 (by omega), h 4 (by omega)]
theorem lim_set (L : Nat → Rng) (r : Rng) : ∀ i : Nat, i < 5 → ((limCells L).set (0 + i * 2) (vint r.lo)).set (0 + i * 2 + 1) (vint r.hi) = limCells (updL L i r)
  | 0, _ => rfl
  | 1, _ => rfl
  | 2, _ => rfl
  | 3, _ => rfl
  | 4, _ => rfl
  | _ + 5, h => absurd h (by omega)
theorem lim_get (L : Nat → Rng) : ∀ i : Nat, i < 5 → ((limCells L).drop (0 + i * 2)).take 2 = (L i).cells
  | 0, _ => rfl
  | 1, _ => rfl
  | 2, _ => rfl
  | 3, _ => rfl
  | 4, _ => rfl
  | _ + 5, h => absurd h (by omega)
section
variable {main : Bool} {J : JT} {h A g : List AObj} {K : Value → List AObj → Prop} {KV : Value → Prop} {HL : List AObj → Prop} {n0 : Nat}
theorem bAl {l : List Value} (hk : K (ptr (A.length + g.length) 0) (A ++ (g ++ [.cells l true 0]))) : aAlloc l (A ++ g) K := by
  unfold aAlloc
  rw [List.length_append, List.append_assoc]
  exact hk
theorem bBox {l : List Value} (h1 : l.all one = true) (hk : K (ptr (A.length + g.length) 0) (A ++ (g ++ [.cells l true 0]))) : aBox (.agg ⟨l⟩) (A ++ g) K := by
  refine box_agg h1 ?_
  rw [List.length_append, List.append_assoc]
  exact hk
theorem bLd {i o : Nat} {c : List Value} {wr : Bool} {sz : Nat} {v : Value} (hb : g[i]? = some (.cells c wr sz)) (hv : c[o]? = some v) (hn : kn1 v = true) (hk : KV v) : aLoad false 1 (ptr (A.length + i) o) (A ++ g) KV :=
  ldI (by rw [back_get]; exact hb) hv hn hk
theorem bLdA {i o n : Nat} {cs c : List Value} {wr : Bool} {sz : Nat} (hb : g[i]? = some (.cells cs wr sz)) (hl : o + n ≤ cs.length) (hc : (cs.drop o).take n = c) (hn : kn c = true) (hk : KV (.agg ⟨c⟩)) : aLoad true n (ptr (A.length + i) o) (A ++ g) KV :=
  load_part (by rw [back_get]; exact hb) hl hc hn hk
theorem bStA {i n : Nat} {cs c : List Value} {sz : Nat} (hb : g[i]? = some (.cells cs true sz)) (hl : c.length = n) (hs : cs.length = n) (h1 : c.all one = true) (hk : HL (A ++ g.set i (.cells c true sz))) : aStore n (ptr (A.length + i) 0) (.agg ⟨c⟩) (A ++ g) HL := by
  refine store_agg (by rw [back_get]; exact hb) hl hs h1 ?_
  rw [back_set]
  exact hk
theorem bSt2 {i o : Nat} {c : List Value} {sz : Nat} {x y : Value} (hb : g[i]? = some (.cells c true sz)) (ho : o + 2 ≤ c.length) (h1 : one x = true) (h2 : one y = true) (hk : HL (A ++ g.set i (.cells ((c.set o x).set (o + 1) y) true sz))) : aStore 2 (ptr (A.length + i) o) (.agg ⟨[x, y]⟩) (A ++ g) HL := by
  unfold aStore ptr
  simp only
  rw [back_get, hb]
  simp only [Value.cells, List.toList_toArray]
  refine ⟨rfl, by simp [h1, h2], ho, ?_⟩
  rw [back_set]
  exact hk
theorem bRd {i o : Nat} {is : List Nat} (hi : i ∈ is) : RdOk (some (is.map fun i => A.length + i)) (ptrBlk (ptr (A.length + i) o)) := List.mem_map.2 ⟨i, hi, rfl⟩
theorem app_nil' : h = h ++ [] := by simp
theorem ret_agg {rs : List ResultVar} {f : RG} {i n t : Nat} {c : List Value} {wr : Bool} {sz x : Nat} (ds : f.ds = []) (ok : heapOk h) (hn : n0 ≤ h.length) (hrs : rs = [.cell x t]) (ht : tk prog t = some (true, n)) (hr : f.r x = ptr (h.length + i) 0) (hb : g[i]? = some (.cells c wr sz)) (hl : c.length = n) (hkn : kn c = true)
    (hv : VOk h.length (.agg ⟨c⟩)) (hk : K (.agg ⟨c⟩) h) : RetQ prog rs n0 K .ret f (h ++ g) := by
  subst hrs
  refine retQ_drop ds ok hn (resW_cell (gg := true) (s := n) ht ?_)
  rw [hr]
  refine bLdA (c := c) hb (by omega) (by rw [List.drop_zero, List.take_of_length_le (by omega)]) hkn (resW_nil ⟨hv, hk⟩)
theorem good99 (hJ : Closed prog main J) {r q : Rng} (hK : K (r.meet q).val h) : Good prog J 99 [r.val, q.val] h K := by
  refine g99 hJ fun ok => ?_
  rw [e99]
  unfold Rng.val Rng.cells
  rw [app_nil' (h := h)]
  refine bBox rfl (bBox rfl (bAl (offI (bLd (i := 0) rfl rfl rfl (offI (bLd (i := 1) rfl rfl rfl (maxI ?_)))))))
  refine offI (bLd (i := 0) rfl rfl rfl (offI (bLd (i := 1) rfl rfl rfl (minI ?_))))
  refine fill1 rfl rfl (by decide) (fill1 rfl rfl (by simp) (fillI (bStA (i := 2) rfl rfl rfl rfl ?_)))
  rw [List.append_nil]
  exact ret_agg (i := 2) rfl (by simpa using ok) (Nat.le_refl _) rfl (by kernel_rfl) rfl rfl rfl rfl (by simp [VOk, AOk, LOk]) hK
theorem good100 (hJ : Closed prog main J) {r q : Rng} (hr : r.sm 1000000) (hq : q.sm 1000000) (hK : K (r.plus q).val h) : Good prog J 100 [r.val, q.val] h K := by
  refine g100 hJ fun ok => ?_
  rw [e100]
  unfold Rng.val Rng.cells
  obtain ⟨h1, h2⟩ := hr
  obtain ⟨h3, h4⟩ := hq
  rw [app_nil' (h := h)]
  refine bBox rfl (bBox rfl (bAl (offI (bLd (i := 0) rfl rfl rfl (offI (bLd (i := 1) rfl rfl rfl (addI (by omega) ?_)))))))
  refine offI (bLd (i := 0) rfl rfl rfl (offI (bLd (i := 1) rfl rfl rfl (addI (by omega) ?_))))
  refine fill1 rfl rfl (by decide) (fill1 rfl rfl (by simp) (fillI (bStA (i := 2) rfl rfl rfl rfl ?_)))
  rw [List.append_nil]
  exact ret_agg (i := 2) rfl (by simpa using ok) (Nat.le_refl _) rfl (by kernel_rfl) rfl rfl rfl rfl (by simp [VOk, AOk, LOk]) hK
theorem good104 (hJ : Closed prog main J) {r : Rng} (hK : K (.bool (decide (r.lo > r.hi))) h) : Good prog J 104 [r.val] h K := by
  refine g104 hJ fun ok => ?_
  rw [e104]
  unfold Rng.val Rng.cells
  refine box_agg rfl ?_
  have hb : (h ++ [AObj.cells [vint r.lo, vint r.hi] true 0])[h.length]? = some (.cells [vint r.lo, vint r.hi] true 0) := by simp
  refine offI (ldI hb rfl rfl (offI (ldI hb rfl rfl (gtrI ?_))))
  exact retL_drop ok (Nat.le_refl _) (by simp [unk]) (by simp [pack, VOk]) hK
structure WorkAt (h : List AObj) (b : Nat) (t : Tal) (cv nv : Value) (u : Int) (m : Value) : Prop where
  at_ : h[b]? = some (.cells (talCells t cv nv ++ [.int .u64 u, m]) true 0)
  ch : SliE h cv 2 Rng.cells t.changes
  co : SliE h nv 4 Cnt.cells t.counts
theorem WorkAt.app {b : Nat} {t : Tal} {cv nv : Value} {u : Int} {m : Value} (w : WorkAt h b t cv nv u m) : WorkAt (h ++ g) b t cv nv u m := ⟨get_app w.at_, sliE_app w.ch, sliE_app w.co⟩
theorem WorkAt.kc {b : Nat} {t : Tal} {cv nv : Value} {u : Int} {m : Value} (w : WorkAt h b t cv nv u m) : kn1 cv = true ∧ kn1 nv = true := ⟨(sli_one w.ch).2.2, (sli_one w.co).2.2⟩
def stretchR (t : Tal) (g : Nat) : Rng := ((t.changes[g]?).getD ⟨0, 0⟩).plus ⟨-t.most, 0⟩
theorem good101 (hJ : Closed prog main J) {b i : Nat} {t : Tal} {cv nv : Value} {u : Int} {m : Value} (w : WorkAt h b t cv nv u m) (hi : i < t.changes.length) (hr : t.changes[i].sm 1000) (hm : 0 ≤ t.most ∧ t.most ≤ 1000) (hK : K (stretchR t i).val h) : Good prog J 101 [ptr b 0, vint i] h K := by
  refine g101 hJ fun ok => ?_
  rw [e101]
  obtain ⟨b2, o, cs, wr, sz, hidx, hb, hle, hpart, hkn⟩ := sliE_elem rng_len (by omega) (w.app (g := [.cells [vint 0, vint 0] true 0])).ch hi
  have wa := (w.app (g := [.cells [vint 0, vint 0] true 0])).at_
  unfold aAlloc
  refine ⟨[b, b2], nilI (offI (offI (ldI wa rfl w.kc.1 ⟨by simp [RdOk, ptrBlk, ptr], ?_⟩)))⟩
  refine hidx _ (load_part hb hle hpart hkn ⟨by simp [RdOk, ptrBlk, ptr], ?_⟩)
  refine nilI (offI (offI (ldI (v := vint t.most) wa rfl rfl ⟨by simp [RdOk, ptrBlk, ptr], negI (by omega) ?_⟩)))
  refine fill1 rfl rfl (by decide) (fill1 rfl rfl (by simp) (fillI ?_))
  obtain ⟨q1, q2⟩ := hr
  refine good100 hJ (r := t.changes[i]) (q := ⟨-t.most, 0⟩) ⟨by omega, by omega⟩ ⟨by dsimp only; omega, by dsimp only; omega⟩ ?_
  refine ⟨fun _ _ => rfl, ?_⟩
  refine store_agg (cs := [vint 0, vint 0]) (sz := 0) (by simp) rfl rfl rfl ?_
  rw [show ∀ (l : List AObj) (x y : AObj), (l ++ [x]).set l.length y = l ++ [y] from fun l x y => by simp]
  have e : stretchR t i = t.changes[i].plus ⟨-t.most, 0⟩ := by
    unfold stretchR
    rw [List.getElem?_eq_getElem hi]
    rfl
  rw [e] at hK
  exact ret_agg (i := 0) (g := [_]) rfl ok (Nat.le_refl _) rfl (by kernel_rfl) rfl rfl rfl rfl (by simp [VOk, AOk, LOk, Rng.plus, Rng.cells]) hK
theorem u_shrI {u : Int} {i : Nat} {t : TypeId} (hk : KV (.int .u64 (u.fdiv (2 ^ min i 64)))) : aBin prog .shr t (.int .u64 u) (.int .u64 i) KV := ⟨by omega, hk⟩
theorem u_andI {a b : Int} {t : TypeId} (hk : KV (.int .u64 (IntKind.u64.wrap (BitVec.ofInt 64 a &&& BitVec.ofInt 64 b).toNat))) : aBin prog .and t (.int .u64 a) (.int .u64 b) KV := ⟨rfl, hk⟩
theorem wrapU_id {n : Int} (h1 : 0 ≤ n) (h2 : n < 18446744073709551616) : IntKind.u64.wrap n = n := by
  simp only [IntKind.wrap, IntKind.bits, IntKind.signed]
  simp
  omega
theorem idxAI {s len b o : Nat} {j : Int} (h1 : 0 ≤ j ∧ j < len) (hk : KV (ptr b (o + j.toNat * s))) : aIdxA len s (ptr b o) (vint j) KV := ⟨h1, hk⟩
theorem convI {n : Int} (h1 : 0 ≤ n) (h2 : n < 18446744073709551616) (hk : KV (.int .u64 n)) : aConvI .u64 (vint n) KV := by
  show KV (.int .u64 (IntKind.u64.wrap n))
  rw [wrapU_id h1 h2]
  exact hk
theorem eqlU {a b : Int} {t : TypeId} (hk : KV (.bool (decide (a = b)))) : aBin prog .eql t (.int .u64 a) (.int .u64 b) KV := by rw [b_eql]; exact hk
theorem lim_len (L : Nat → Rng) : (limCells L).length = 10 := rfl
theorem lim_kn (L : Nat → Rng) : kn (limCells L) = true := rfl
theorem lim_ok (L : Nat → Rng) (n : Nat) : VOk n (.agg ⟨limCells L⟩) := by simp [VOk, AOk, LOk, limCells]
def CoSm (cs : List Cnt) : Prop := cs.length ≤ 100 ∧ ∀ c ∈ cs, (0 ≤ c.gate ∧ c.gate < 5) ∧ (0 ≤ c.num ∧ c.num ≤ 300) ∧ (0 ≤ c.err ∧ c.err ≤ 20)
theorem limN_step {u : Int} {cs : List Cnt} {i : Nat} (hi : i < cs.length) : limN u cs (i + 1) = bif keepB u i then updL (limN u cs i) cs[i].gate.toNat ((limN u cs i cs[i].gate.toNat).meet (rd cs[i])) else limN u cs i := by
  show (match cs[i]? with
    | some c => bif keepB u i then updL (limN u cs i) c.gate.toNat ((limN u cs i c.gate.toNat).meet (rd c)) else limN u cs i
    | none => limN u cs i) = _
  rw [List.getElem?_eq_getElem hi]
theorem good97 (hJ : Closed prog main J) {b : Nat} {t : Tal} {cv nv : Value} {u : Int} {m : Value} (w : WorkAt h b t cv nv u m) (hc : CoSm t.counts) (hK : K (.agg ⟨limCells (limN u t.counts t.counts.length)⟩) h) : Good prog J 97 [ptr b 0] h K := by
  refine g97 hJ fun ok => ?_
  rw [e97]
  have e0 : W prog J 46 h.length 97 (codeOf f97) = W prog J 46 h.length 97 (codeOf f97) := rfl
  unfold aAlloc
  refine l97_1 hJ (fun i : Nat => 5 - i) (fun i f h' => ∃ L, h' = h ++ [.cells [vint 0, vint 0, vint 0, vint 0, vint 0, vint 0, vint 0, vint 0, vint 0, vint 0] true 0, .cells (limCells L) true 0] ∧ i ≤ 5 ∧ (∀ g, g < i → L g = ⟨0, 600⟩) ∧
      f.ds = [] ∧ f.r 0 = ptr b 0 ∧ f.r 2 = ptr (h.length + 0) 0 ∧ f.r 3 = ptr (h.length + 1) 0 ∧ f.r 7 = vint (i : Nat)) ?_ (s := 0)
    (.inl ⟨fun _ => ⟨0, 0⟩, by simp [limCells], by omega, by simp, rfl, rfl, rfl, by show ptr (h ++ [_]).length 0 = _; simp, rfl⟩)
  rintro i f _ ⟨L, rfl, hi, hL, hds, r0, r2, r3, r7⟩ ok' hn'
  rw [s97_1]
  simp only [r0, r2, r3, r7]
  refine lssI (cndI (fun hlt => ?_) fun hge => ?_)
  · refine fill1 rfl rfl (by decide) (fill1 rfl rfl (by simp) (fillI (idxAI ⟨by omega, by omega⟩ ?_)))
    refine bSt2 (i := 1) rfl (by rw [lim_len]; omega) rfl rfl (addI (by omega) ?_)
    refine ⟨i + 1, by dsimp only; omega, .inl ⟨updL L i ⟨0, 600⟩, ?_, by omega, fun g hg => ?_, hds, r0, r2, r3, rfl⟩⟩
    · rw [Int.toNat_natCast, lim_set L ⟨0, 600⟩ i (by omega)]
      rfl
    · unfold updL
      split
      · rfl
      · exact hL g (by omega)
  · have hL0 : limCells L = limCells (limN u t.counts 0) := lim_congr fun g hg => hL g (by omega)
    rw [hL0]
    clear hL0 hL
    have wa := w.app (g := [.cells [vint 0, vint 0, vint 0, vint 0, vint 0, vint 0, vint 0, vint 0, vint 0, vint 0] true 0, .cells (limCells (limN u t.counts 0)) true 0])
    refine nilI (offI (offI (ldI wa.at_ rfl w.kc.2 (lenI wa.co ?_))))
    refine l97_2 hJ (fun i : Nat => 100 - i) (fun i f h' => ∃ g, h' = h ++ g ∧ i ≤ t.counts.length ∧ g[0]? = some (.cells [vint 0, vint 0, vint 0, vint 0, vint 0, vint 0, vint 0, vint 0, vint 0, vint 0] true 0) ∧ g[1]? = some (.cells (limCells (limN u t.counts i)) true 0) ∧
      f.ds = [] ∧ f.r 0 = ptr b 0 ∧ f.r 2 = ptr (h.length + 0) 0 ∧ f.r 3 = ptr (h.length + 1) 0 ∧ f.r 18 = nv ∧ f.r 19 = vint t.counts.length ∧ f.r 20 = vint (i : Nat)) ?_ (s := 0)
      (.inl ⟨_, rfl, by omega, rfl, rfl, hds, r0, r2, r3, rfl, rfl, rfl⟩)
    clear wa ok'
    rintro i f _ ⟨g, rfl, hi, z0, z1, hds, r0, r2, r3, r18, r19, r20⟩ ok' hn'
    have hl1 : 1 < g.length := (List.getElem?_eq_some_iff.1 z1).1
    have hc100 := hc.1
    rw [s97_2]
    simp only [r0, r2, r3, r18, r19, r20]
    refine lssI (cndI (fun hlt => ?_) fun hge => ?_)
    · have hil : i < t.counts.length := by omega
      obtain ⟨c1, c2, c3⟩ := hc.2 t.counts[i] (List.getElem_mem _)
      have hstep := limN_step (u := u) hil
      obtain ⟨b2, o, cs, wr, sz, hidx, hb, hle, hpart, hkn⟩ := sliE_elem cnt_len (by omega) (sliE_app (g := g) w.co) hil
      generalize t.counts[i] = c at *
      refine hidx _ (load_part hb hle hpart hkn (bAl (bStA last_get rfl rfl rfl ?_)))
      rw [last_set]
      refine nilI (offI (ldI (v := .int .u64 u) (w.app (g := g ++ [.cells c.cells true 0])).at_ rfl rfl ?_))
      refine convI (by omega) (by omega) (u_shrI (u_andI (eqlU (cnd_bool.2 ⟨fun hkp => ?_, fun hkp => ?_⟩))))
      · have hkp' : keepB u i = true := hkp
        have hga : c.gate.toNat < 5 := by omega
        refine ⟨[g.length, 1].map fun i => h.length + i, ?_⟩
        refine offI (bLd (v := vint c.gate) last_get rfl rfl ⟨bRd (by simp), offI (bLd (v := vint c.gate) last_get rfl rfl ⟨bRd (by simp), idxAI (by omega) ?_⟩)⟩)
        refine bLdA (c := (limN u t.counts i c.gate.toNat).cells) (get_app z1) (by rw [lim_len]; omega) (lim_get _ _ hga) rfl ⟨bRd (by simp), ?_⟩
        refine bLdA (c := c.cells) last_get (by rw [cnt_len]; omega) rfl rfl ⟨bRd (by simp), ?_⟩
        refine good78 hJ (c := c) c2 c3 ⟨fun _ _ => rfl, ?_⟩
        refine good99 hJ (r := limN u t.counts i c.gate.toNat) (q := rd c) ⟨fun _ _ => rfl, idxAI (by omega) ?_⟩
        refine bSt2 (get_app z1) (by rw [lim_len]; omega) rfl rfl (addI (by omega) ?_)
        refine ⟨i + 1, by dsimp only; omega, .inl ⟨_, rfl, by omega, get_set (get_app z0) (by omega), ?_, hds, r0, r2, r3, r18, r19, rfl⟩⟩
        rw [List.getElem?_set_self (by simp; omega), hstep, hkp']
        have := lim_set (limN u t.counts i) ((limN u t.counts i c.gate.toNat).meet (rd c)) _ hga
        rw [← cond_true (updL _ _ _)] at this
        exact congrArg (fun l => some (AObj.cells l true 0)) this
      · have hkp' : keepB u i = false := hkp
        refine addI (by omega) ⟨i + 1, by dsimp only; omega, .inl ⟨_, rfl, by omega, get_app z0, ?_, hds, r0, r2, r3, r18, r19, rfl⟩⟩
        rw [hstep, hkp']
        exact get_app z1
    · refine bLdA (c := limCells (limN u t.counts i)) z1 (by rw [lim_len]; omega) rfl (lim_kn _) ?_
      have : i = t.counts.length := by omega
      subst this
      refine bStA z0 rfl rfl rfl ?_
      exact ret_agg (i := 0) hds ok (Nat.le_refl _) rfl (by kernel_rfl) r2 (List.getElem?_set_self (by omega)) rfl rfl (lim_ok _ _) hK
end
end Go.Proofs.Ytdgpacdknpahnaa
namespace Go.Proofs.Ytdgpacdknpahnaa
open Go.Conc Go.Proofs.Try
set_option maxRecDepth 100000
set_option maxHeartbeats 4000000
set_option linter.unusedVariables false
section
variable {main : Bool} {J : JT} {n0 : Nat} {h : List AObj} {K : Value → List AObj → Prop}
theorem at8 : prog.funcs[8]? = some f8 := by kernel_rfl
theorem body8 : f8.body = some (codeOf f8) := by kernel_rfl
theorem e8 {a0 : Value} : W prog J 100 h.length 8 (codeOf f8) (RG.mk (regs [a0]) []) h (RetQ prog [.tmp 2] h.length K) =
(Good prog J 19 [a0] h fun v1 h2 =>
Good prog J 22 [v1, (vint 4)] h2 fun v3 h4 =>
Good prog J 20 [v1, (vint 1), (vint 9)] h4 fun v5 h6 =>
Good prog J 22 [v1, (vint 9)] h6 fun v7 h8 =>
Good prog J 22 [v1, (vint 300)] h8 fun v9 h10 =>
(((2 * 1 : Nat) ≤ 16777216 ∧ (2 : Nat) ≤ 16777216 ∧ List.length [(vint 0)] = 1) ∧ aFill (zrep [(vint 0)] 2) [(0, 1, v7), (1, 1, v9)] fun c11 =>
aNewS 2 c11 h10 fun v12 h13 =>
Good prog J 21 [v1, (vint 0), v12] h13 fun v14 h15 =>
Good prog J 22 [v1, (vint 20)] h15 fun v16 h17 =>
(((1 * 1 : Nat) ≤ 16777216 ∧ (1 : Nat) ≤ 16777216 ∧ List.length [(vint 0)] = 1) ∧ aFill (zrep [(vint 0)] 1) [(0, 1, v16)] fun c18 =>
aNewS 1 c18 h17 fun v19 h20 =>
Good prog J 21 [v1, (vint 0), v19] h20 fun v21 h22 =>
aFill [(vint 0), (vint 0), (vint 0), (vint 0)] [(0, 1, v3), (1, 1, v5), (2, 1, v14), (3, 1, v21)] fun c23 =>
aAlloc [(vint 0), (vint 0), (vint 0), (vint 0)] h22 fun v24 h25 =>
aStore 4 v24 (Value.agg ⟨c23⟩) h25 fun h26 =>
aLoad true 4 v24 h26 fun v27 =>
Good prog J 40 [v27] h26 fun v28 h29 =>
aExt v28 0 fun v30 =>
aExt v28 1 fun v31 =>
aAlloc [(vint 0), (vint 0)] h29 fun v32 h33 =>
aStore 2 v32 v30 h33 fun h34 =>
aBin prog .neq 32 v31 (vint 0) fun v35 =>
cnd v35
(cnd (Value.bool true)
(cnd (Value.bool true)
(cnd (Value.bool true)
(cnd (Value.bool true)
(retL h.length K [] [(Value.bool false)] h34)
(Sem J 100 h.length 8 (subC [1, 1, 1, 1, 1, 0, 1, 0] (codeOf f8)) (RG.p (RG.p (RG.p (RG.p (RG.p (RG.p (RG.p (RG.p (RG.p (RG.p (RG.p (RG.p (RG.p (RG.p (RG.p (RG.p (RG.p (RG.p (RG.p (RG.p (RG.p (RG.p (RG.p (RG.p (RG.p (RG.p (RG.p (RG.p (RG.p (RG.p (RG.p (RG.p (RG.p (RG.p (RG.p (RG.p (RG.p (RG.p (RG.p (RG.p (RG.p (RG.p (RG.p (RG.p (RG.p (RG.p (RG.p (RG.p (RG.p (RG.p (RG.p (RG.p (RG.p (RG.p (RG.p (RG.p (RG.p (RG.p (RG.p (RG.p (RG.mk (regs [a0]) []) 2 (Value.bool false)) 9 a0) 10 v1) 3 v1) 11 v1) 12 v3) 13 v1) 14 v5) 15 v1) 16 v1) 17 v7) 18 v1) 19 v9) 20 v12) 21 v14) 22 v1) 23 v1) 24 v16) 25 v19) 26 v21) 27 (Value.agg ⟨c23⟩)) 4 v24) 29 v27) 30 v28) 28 v28) 31 v30) 32 v31) 5 v32) 6 v31) 33 v31) 34 v35) 35 v35) 35 (Value.bool true)) 36 undef) 37 undef) 38 undef) 39 undef) 40 undef) 41 (Value.bool true)) 42 (Value.bool true)) 42 (Value.bool true)) 43 undef) 44 undef) 45 undef) 46 undef) 47 undef) 48 (Value.bool true)) 49 (Value.bool true)) 49 (Value.bool true)) 50 undef) 51 undef) 52 undef) 53 (Value.bool true)) 54 (Value.bool true)) 54 (Value.bool true)) 55 undef) 56 undef) 57 undef) 58 (Value.bool true)) 7 (vint 0)) h34 (contQ prog J 100 h.length 8 [1, 1, 1, 1, 1, 0, 1, 0] (codeOf f8) [] (RetQ prog [.tmp 2] h.length K))))
(aOff v32 1 fun v36 =>
aLoad false 1 v36 h34 fun v37 =>
aBin prog .geq 3 v37 (vint 400) fun v38 =>
cnd v38
(retL h.length K [] [(Value.bool false)] h34)
(Sem J 100 h.length 8 (subC [1, 1, 1, 1, 1, 0, 1, 0] (codeOf f8)) (RG.p (RG.p (RG.p (RG.p (RG.p (RG.p (RG.p (RG.p (RG.p (RG.p (RG.p (RG.p (RG.p (RG.p (RG.p (RG.p (RG.p (RG.p (RG.p (RG.p (RG.p (RG.p (RG.p (RG.p (RG.p (RG.p (RG.p (RG.p (RG.p (RG.p (RG.p (RG.p (RG.p (RG.p (RG.p (RG.p (RG.p (RG.p (RG.p (RG.p (RG.p (RG.p (RG.p (RG.p (RG.p (RG.p (RG.p (RG.p (RG.p (RG.p (RG.p (RG.p (RG.p (RG.p (RG.p (RG.p (RG.p (RG.p (RG.p (RG.p (RG.mk (regs [a0]) []) 2 (Value.bool false)) 9 a0) 10 v1) 3 v1) 11 v1) 12 v3) 13 v1) 14 v5) 15 v1) 16 v1) 17 v7) 18 v1) 19 v9) 20 v12) 21 v14) 22 v1) 23 v1) 24 v16) 25 v19) 26 v21) 27 (Value.agg ⟨c23⟩)) 4 v24) 29 v27) 30 v28) 28 v28) 31 v30) 32 v31) 5 v32) 6 v31) 33 v31) 34 v35) 35 v35) 35 (Value.bool true)) 36 undef) 37 undef) 38 undef) 39 undef) 40 undef) 41 (Value.bool true)) 42 (Value.bool true)) 42 (Value.bool true)) 43 undef) 44 undef) 45 undef) 46 undef) 47 undef) 48 (Value.bool true)) 49 (Value.bool true)) 49 (Value.bool true)) 50 undef) 51 undef) 52 undef) 53 (Value.bool true)) 54 (Value.bool true)) 54 (Value.bool false)) 55 v36) 56 v37) 57 v38) 58 v38) 7 (vint 0)) h34 (contQ prog J 100 h.length 8 [1, 1, 1, 1, 1, 0, 1, 0] (codeOf f8) [] (RetQ prog [.tmp 2] h.length K)))))
(aOff v32 0 fun v39 =>
aLoad false 1 v39 h34 fun v40 =>
aBin prog .lss 3 v40 (vint 0) fun v41 =>
cnd v41
(cnd (Value.bool true)
(retL h.length K [] [(Value.bool false)] h34)
(Sem J 100 h.length 8 (subC [1, 1, 1, 1, 1, 0, 1, 0] (codeOf f8)) (RG.p (RG.p (RG.p (RG.p (RG.p (RG.p (RG.p (RG.p (RG.p (RG.p (RG.p (RG.p (RG.p (RG.p (RG.p (RG.p (RG.p (RG.p (RG.p (RG.p (RG.p (RG.p (RG.p (RG.p (RG.p (RG.p (RG.p (RG.p (RG.p (RG.p (RG.p (RG.p (RG.p (RG.p (RG.p (RG.p (RG.p (RG.p (RG.p (RG.p (RG.p (RG.p (RG.p (RG.p (RG.p (RG.p (RG.p (RG.p (RG.p (RG.p (RG.p (RG.p (RG.p (RG.p (RG.p (RG.p (RG.p (RG.p (RG.p (RG.p (RG.mk (regs [a0]) []) 2 (Value.bool false)) 9 a0) 10 v1) 3 v1) 11 v1) 12 v3) 13 v1) 14 v5) 15 v1) 16 v1) 17 v7) 18 v1) 19 v9) 20 v12) 21 v14) 22 v1) 23 v1) 24 v16) 25 v19) 26 v21) 27 (Value.agg ⟨c23⟩)) 4 v24) 29 v27) 30 v28) 28 v28) 31 v30) 32 v31) 5 v32) 6 v31) 33 v31) 34 v35) 35 v35) 35 (Value.bool true)) 36 undef) 37 undef) 38 undef) 39 undef) 40 undef) 41 (Value.bool true)) 42 (Value.bool true)) 42 (Value.bool true)) 43 undef) 44 undef) 45 undef) 46 undef) 47 undef) 48 (Value.bool true)) 49 (Value.bool true)) 49 (Value.bool false)) 50 v39) 51 v40) 52 v41) 53 v41) 54 v41) 54 (Value.bool true)) 55 undef) 56 undef) 57 undef) 58 (Value.bool true)) 7 (vint 0)) h34 (contQ prog J 100 h.length 8 [1, 1, 1, 1, 1, 0, 1, 0] (codeOf f8) [] (RetQ prog [.tmp 2] h.length K))))
(aOff v32 1 fun v42 =>
aLoad false 1 v42 h34 fun v43 =>
aBin prog .geq 3 v43 (vint 400) fun v44 =>
cnd v44
(retL h.length K [] [(Value.bool false)] h34)
(Sem J 100 h.length 8 (subC [1, 1, 1, 1, 1, 0, 1, 0] (codeOf f8)) (RG.p (RG.p (RG.p (RG.p (RG.p (RG.p (RG.p (RG.p (RG.p (RG.p (RG.p (RG.p (RG.p (RG.p (RG.p (RG.p (RG.p (RG.p (RG.p (RG.p (RG.p (RG.p (RG.p (RG.p (RG.p (RG.p (RG.p (RG.p (RG.p (RG.p (RG.p (RG.p (RG.p (RG.p (RG.p (RG.p (RG.p (RG.p (RG.p (RG.p (RG.p (RG.p (RG.p (RG.p (RG.p (RG.p (RG.p (RG.p (RG.p (RG.p (RG.p (RG.p (RG.p (RG.p (RG.p (RG.p (RG.p (RG.p (RG.p (RG.p (RG.mk (regs [a0]) []) 2 (Value.bool false)) 9 a0) 10 v1) 3 v1) 11 v1) 12 v3) 13 v1) 14 v5) 15 v1) 16 v1) 17 v7) 18 v1) 19 v9) 20 v12) 21 v14) 22 v1) 23 v1) 24 v16) 25 v19) 26 v21) 27 (Value.agg ⟨c23⟩)) 4 v24) 29 v27) 30 v28) 28 v28) 31 v30) 32 v31) 5 v32) 6 v31) 33 v31) 34 v35) 35 v35) 35 (Value.bool true)) 36 undef) 37 undef) 38 undef) 39 undef) 40 undef) 41 (Value.bool true)) 42 (Value.bool true)) 42 (Value.bool true)) 43 undef) 44 undef) 45 undef) 46 undef) 47 undef) 48 (Value.bool true)) 49 (Value.bool true)) 49 (Value.bool false)) 50 v39) 51 v40) 52 v41) 53 v41) 54 v41) 54 (Value.bool false)) 55 v42) 56 v43) 57 v44) 58 v44) 7 (vint 0)) h34 (contQ prog J 100 h.length 8 [1, 1, 1, 1, 1, 0, 1, 0] (codeOf f8) [] (RetQ prog [.tmp 2] h.length K))))))
(aOff v32 1 fun v45 =>
aLoad false 1 v45 h34 fun v46 =>
aOff v24 2 fun v47 =>
aLoad false 1 v47 h34 fun v48 =>
aBin prog .lss 3 v46 v48 fun v49 =>
cnd v49
(cnd (Value.bool true)
(cnd (Value.bool true)
(retL h.length K [] [(Value.bool false)] h34)
(Sem J 100 h.length 8 (subC [1, 1, 1, 1, 1, 0, 1, 0] (codeOf f8)) (RG.p (RG.p (RG.p (RG.p (RG.p (RG.p (RG.p (RG.p (RG.p (RG.p (RG.p (RG.p (RG.p (RG.p (RG.p (RG.p (RG.p (RG.p (RG.p (RG.p (RG.p (RG.p (RG.p (RG.p (RG.p (RG.p (RG.p (RG.p (RG.p (RG.p (RG.p (RG.p (RG.p (RG.p (RG.p (RG.p (RG.p (RG.p (RG.p (RG.p (RG.p (RG.p (RG.p (RG.p (RG.p (RG.p (RG.p (RG.p (RG.p (RG.p (RG.p (RG.p (RG.p (RG.p (RG.p (RG.p (RG.p (RG.p (RG.p (RG.p (RG.mk (regs [a0]) []) 2 (Value.bool false)) 9 a0) 10 v1) 3 v1) 11 v1) 12 v3) 13 v1) 14 v5) 15 v1) 16 v1) 17 v7) 18 v1) 19 v9) 20 v12) 21 v14) 22 v1) 23 v1) 24 v16) 25 v19) 26 v21) 27 (Value.agg ⟨c23⟩)) 4 v24) 29 v27) 30 v28) 28 v28) 31 v30) 32 v31) 5 v32) 6 v31) 33 v31) 34 v35) 35 v35) 35 (Value.bool true)) 36 undef) 37 undef) 38 undef) 39 undef) 40 undef) 41 (Value.bool true)) 42 (Value.bool true)) 42 (Value.bool false)) 43 v45) 44 v46) 45 v47) 46 v48) 47 v49) 48 v49) 49 v49) 49 (Value.bool true)) 50 undef) 51 undef) 52 undef) 53 (Value.bool true)) 54 (Value.bool true)) 54 (Value.bool true)) 55 undef) 56 undef) 57 undef) 58 (Value.bool true)) 7 (vint 0)) h34 (contQ prog J 100 h.length 8 [1, 1, 1, 1, 1, 0, 1, 0] (codeOf f8) [] (RetQ prog [.tmp 2] h.length K))))
(aOff v32 1 fun v50 =>
aLoad false 1 v50 h34 fun v51 =>
aBin prog .geq 3 v51 (vint 400) fun v52 =>
cnd v52
(retL h.length K [] [(Value.bool false)] h34)
(Sem J 100 h.length 8 (subC [1, 1, 1, 1, 1, 0, 1, 0] (codeOf f8)) (RG.p (RG.p (RG.p (RG.p (RG.p (RG.p (RG.p (RG.p (RG.p (RG.p (RG.p (RG.p (RG.p (RG.p (RG.p (RG.p (RG.p (RG.p (RG.p (RG.p (RG.p (RG.p (RG.p (RG.p (RG.p (RG.p (RG.p (RG.p (RG.p (RG.p (RG.p (RG.p (RG.p (RG.p (RG.p (RG.p (RG.p (RG.p (RG.p (RG.p (RG.p (RG.p (RG.p (RG.p (RG.p (RG.p (RG.p (RG.p (RG.p (RG.p (RG.p (RG.p (RG.p (RG.p (RG.p (RG.p (RG.p (RG.p (RG.p (RG.p (RG.mk (regs [a0]) []) 2 (Value.bool false)) 9 a0) 10 v1) 3 v1) 11 v1) 12 v3) 13 v1) 14 v5) 15 v1) 16 v1) 17 v7) 18 v1) 19 v9) 20 v12) 21 v14) 22 v1) 23 v1) 24 v16) 25 v19) 26 v21) 27 (Value.agg ⟨c23⟩)) 4 v24) 29 v27) 30 v28) 28 v28) 31 v30) 32 v31) 5 v32) 6 v31) 33 v31) 34 v35) 35 v35) 35 (Value.bool true)) 36 undef) 37 undef) 38 undef) 39 undef) 40 undef) 41 (Value.bool true)) 42 (Value.bool true)) 42 (Value.bool false)) 43 v45) 44 v46) 45 v47) 46 v48) 47 v49) 48 v49) 49 v49) 49 (Value.bool true)) 50 undef) 51 undef) 52 undef) 53 (Value.bool true)) 54 (Value.bool true)) 54 (Value.bool false)) 55 v50) 56 v51) 57 v52) 58 v52) 7 (vint 0)) h34 (contQ prog J 100 h.length 8 [1, 1, 1, 1, 1, 0, 1, 0] (codeOf f8) [] (RetQ prog [.tmp 2] h.length K)))))
(aOff v32 0 fun v53 =>
aLoad false 1 v53 h34 fun v54 =>
aBin prog .lss 3 v54 (vint 0) fun v55 =>
cnd v55
(cnd (Value.bool true)
(retL h.length K [] [(Value.bool false)] h34)
(Sem J 100 h.length 8 (subC [1, 1, 1, 1, 1, 0, 1, 0] (codeOf f8)) (RG.p (RG.p (RG.p (RG.p (RG.p (RG.p (RG.p (RG.p (RG.p (RG.p (RG.p (RG.p (RG.p (RG.p (RG.p (RG.p (RG.p (RG.p (RG.p (RG.p (RG.p (RG.p (RG.p (RG.p (RG.p (RG.p (RG.p (RG.p (RG.p (RG.p (RG.p (RG.p (RG.p (RG.p (RG.p (RG.p (RG.p (RG.p (RG.p (RG.p (RG.p (RG.p (RG.p (RG.p (RG.p (RG.p (RG.p (RG.p (RG.p (RG.p (RG.p (RG.p (RG.p (RG.p (RG.p (RG.p (RG.p (RG.p (RG.p (RG.p (RG.mk (regs [a0]) []) 2 (Value.bool false)) 9 a0) 10 v1) 3 v1) 11 v1) 12 v3) 13 v1) 14 v5) 15 v1) 16 v1) 17 v7) 18 v1) 19 v9) 20 v12) 21 v14) 22 v1) 23 v1) 24 v16) 25 v19) 26 v21) 27 (Value.agg ⟨c23⟩)) 4 v24) 29 v27) 30 v28) 28 v28) 31 v30) 32 v31) 5 v32) 6 v31) 33 v31) 34 v35) 35 v35) 35 (Value.bool true)) 36 undef) 37 undef) 38 undef) 39 undef) 40 undef) 41 (Value.bool true)) 42 (Value.bool true)) 42 (Value.bool false)) 43 v45) 44 v46) 45 v47) 46 v48) 47 v49) 48 v49) 49 v49) 49 (Value.bool false)) 50 v53) 51 v54) 52 v55) 53 v55) 54 v55) 54 (Value.bool true)) 55 undef) 56 undef) 57 undef) 58 (Value.bool true)) 7 (vint 0)) h34 (contQ prog J 100 h.length 8 [1, 1, 1, 1, 1, 0, 1, 0] (codeOf f8) [] (RetQ prog [.tmp 2] h.length K))))
(aOff v32 1 fun v56 =>
aLoad false 1 v56 h34 fun v57 =>
aBin prog .geq 3 v57 (vint 400) fun v58 =>
cnd v58
(retL h.length K [] [(Value.bool false)] h34)
(Sem J 100 h.length 8 (subC [1, 1, 1, 1, 1, 0, 1, 0] (codeOf f8)) (RG.p (RG.p (RG.p (RG.p (RG.p (RG.p (RG.p (RG.p (RG.p (RG.p (RG.p (RG.p (RG.p (RG.p (RG.p (RG.p (RG.p (RG.p (RG.p (RG.p (RG.p (RG.p (RG.p (RG.p (RG.p (RG.p (RG.p (RG.p (RG.p (RG.p (RG.p (RG.p (RG.p (RG.p (RG.p (RG.p (RG.p (RG.p (RG.p (RG.p (RG.p (RG.p (RG.p (RG.p (RG.p (RG.p (RG.p (RG.p (RG.p (RG.p (RG.p (RG.p (RG.p (RG.p (RG.p (RG.p (RG.p (RG.p (RG.p (RG.p (RG.mk (regs [a0]) []) 2 (Value.bool false)) 9 a0) 10 v1) 3 v1) 11 v1) 12 v3) 13 v1) 14 v5) 15 v1) 16 v1) 17 v7) 18 v1) 19 v9) 20 v12) 21 v14) 22 v1) 23 v1) 24 v16) 25 v19) 26 v21) 27 (Value.agg ⟨c23⟩)) 4 v24) 29 v27) 30 v28) 28 v28) 31 v30) 32 v31) 5 v32) 6 v31) 33 v31) 34 v35) 35 v35) 35 (Value.bool true)) 36 undef) 37 undef) 38 undef) 39 undef) 40 undef) 41 (Value.bool true)) 42 (Value.bool true)) 42 (Value.bool false)) 43 v45) 44 v46) 45 v47) 46 v48) 47 v49) 48 v49) 49 v49) 49 (Value.bool false)) 50 v53) 51 v54) 52 v55) 53 v55) 54 v55) 54 (Value.bool false)) 55 v56) 56 v57) 57 v58) 58 v58) 7 (vint 0)) h34 (contQ prog J 100 h.length 8 [1, 1, 1, 1, 1, 0, 1, 0] (codeOf f8) [] (RetQ prog [.tmp 2] h.length K)))))))
(aOff v32 0 fun v59 =>
aLoad false 1 v59 h34 fun v60 =>
aOff v24 2 fun v61 =>
aLoad false 1 v61 h34 fun v62 =>
aBin prog .gtr 3 v60 v62 fun v63 =>
cnd v63
(cnd (Value.bool true)
(cnd (Value.bool true)
(cnd (Value.bool true)
(retL h.length K [] [(Value.bool false)] h34)
(Sem J 100 h.length 8 (subC [1, 1, 1, 1, 1, 0, 1, 0] (codeOf f8)) (RG.p (RG.p (RG.p (RG.p (RG.p (RG.p (RG.p (RG.p (RG.p (RG.p (RG.p (RG.p (RG.p (RG.p (RG.p (RG.p (RG.p (RG.p (RG.p (RG.p (RG.p (RG.p (RG.p (RG.p (RG.p (RG.p (RG.p (RG.p (RG.p (RG.p (RG.p (RG.p (RG.p (RG.p (RG.p (RG.p (RG.p (RG.p (RG.p (RG.p (RG.p (RG.p (RG.p (RG.p (RG.p (RG.p (RG.p (RG.p (RG.p (RG.p (RG.p (RG.p (RG.p (RG.p (RG.p (RG.p (RG.p (RG.p (RG.p (RG.p (RG.mk (regs [a0]) []) 2 (Value.bool false)) 9 a0) 10 v1) 3 v1) 11 v1) 12 v3) 13 v1) 14 v5) 15 v1) 16 v1) 17 v7) 18 v1) 19 v9) 20 v12) 21 v14) 22 v1) 23 v1) 24 v16) 25 v19) 26 v21) 27 (Value.agg ⟨c23⟩)) 4 v24) 29 v27) 30 v28) 28 v28) 31 v30) 32 v31) 5 v32) 6 v31) 33 v31) 34 v35) 35 v35) 35 (Value.bool false)) 36 v59) 37 v60) 38 v61) 39 v62) 40 v63) 41 v63) 42 v63) 42 (Value.bool true)) 43 undef) 44 undef) 45 undef) 46 undef) 47 undef) 48 (Value.bool true)) 49 (Value.bool true)) 49 (Value.bool true)) 50 undef) 51 undef) 52 undef) 53 (Value.bool true)) 54 (Value.bool true)) 54 (Value.bool true)) 55 undef) 56 undef) 57 undef) 58 (Value.bool true)) 7 (vint 0)) h34 (contQ prog J 100 h.length 8 [1, 1, 1, 1, 1, 0, 1, 0] (codeOf f8) [] (RetQ prog [.tmp 2] h.length K))))
(aOff v32 1 fun v64 =>
aLoad false 1 v64 h34 fun v65 =>
aBin prog .geq 3 v65 (vint 400) fun v66 =>
cnd v66
(retL h.length K [] [(Value.bool false)] h34)
(Sem J 100 h.length 8 (subC [1, 1, 1, 1, 1, 0, 1, 0] (codeOf f8)) (RG.p (RG.p (RG.p (RG.p (RG.p (RG.p (RG.p (RG.p (RG.p (RG.p (RG.p (RG.p (RG.p (RG.p (RG.p (RG.p (RG.p (RG.p (RG.p (RG.p (RG.p (RG.p (RG.p (RG.p (RG.p (RG.p (RG.p (RG.p (RG.p (RG.p (RG.p (RG.p (RG.p (RG.p (RG.p (RG.p (RG.p (RG.p (RG.p (RG.p (RG.p (RG.p (RG.p (RG.p (RG.p (RG.p (RG.p (RG.p (RG.p (RG.p (RG.p (RG.p (RG.p (RG.p (RG.p (RG.p (RG.p (RG.p (RG.p (RG.p (RG.mk (regs [a0]) []) 2 (Value.bool false)) 9 a0) 10 v1) 3 v1) 11 v1) 12 v3) 13 v1) 14 v5) 15 v1) 16 v1) 17 v7) 18 v1) 19 v9) 20 v12) 21 v14) 22 v1) 23 v1) 24 v16) 25 v19) 26 v21) 27 (Value.agg ⟨c23⟩)) 4 v24) 29 v27) 30 v28) 28 v28) 31 v30) 32 v31) 5 v32) 6 v31) 33 v31) 34 v35) 35 v35) 35 (Value.bool false)) 36 v59) 37 v60) 38 v61) 39 v62) 40 v63) 41 v63) 42 v63) 42 (Value.bool true)) 43 undef) 44 undef) 45 undef) 46 undef) 47 undef) 48 (Value.bool true)) 49 (Value.bool true)) 49 (Value.bool true)) 50 undef) 51 undef) 52 undef) 53 (Value.bool true)) 54 (Value.bool true)) 54 (Value.bool false)) 55 v64) 56 v65) 57 v66) 58 v66) 7 (vint 0)) h34 (contQ prog J 100 h.length 8 [1, 1, 1, 1, 1, 0, 1, 0] (codeOf f8) [] (RetQ prog [.tmp 2] h.length K)))))
(aOff v32 0 fun v67 =>
aLoad false 1 v67 h34 fun v68 =>
aBin prog .lss 3 v68 (vint 0) fun v69 =>
cnd v69
(cnd (Value.bool true)
(retL h.length K [] [(Value.bool false)] h34)
(Sem J 100 h.length 8 (subC [1, 1, 1, 1, 1, 0, 1, 0] (codeOf f8)) (RG.p (RG.p (RG.p (RG.p (RG.p (RG.p (RG.p (RG.p (RG.p (RG.p (RG.p (RG.p (RG.p (RG.p (RG.p (RG.p (RG.p (RG.p (RG.p (RG.p (RG.p (RG.p (RG.p (RG.p (RG.p (RG.p (RG.p (RG.p (RG.p (RG.p (RG.p (RG.p (RG.p (RG.p (RG.p (RG.p (RG.p (RG.p (RG.p (RG.p (RG.p (RG.p (RG.p (RG.p (RG.p (RG.p (RG.p (RG.p (RG.p (RG.p (RG.p (RG.p (RG.p (RG.p (RG.p (RG.p (RG.p (RG.p (RG.p (RG.p (RG.mk (regs [a0]) []) 2 (Value.bool false)) 9 a0) 10 v1) 3 v1) 11 v1) 12 v3) 13 v1) 14 v5) 15 v1) 16 v1) 17 v7) 18 v1) 19 v9) 20 v12) 21 v14) 22 v1) 23 v1) 24 v16) 25 v19) 26 v21) 27 (Value.agg ⟨c23⟩)) 4 v24) 29 v27) 30 v28) 28 v28) 31 v30) 32 v31) 5 v32) 6 v31) 33 v31) 34 v35) 35 v35) 35 (Value.bool false)) 36 v59) 37 v60) 38 v61) 39 v62) 40 v63) 41 v63) 42 v63) 42 (Value.bool true)) 43 undef) 44 undef) 45 undef) 46 undef) 47 undef) 48 (Value.bool true)) 49 (Value.bool true)) 49 (Value.bool false)) 50 v67) 51 v68) 52 v69) 53 v69) 54 v69) 54 (Value.bool true)) 55 undef) 56 undef) 57 undef) 58 (Value.bool true)) 7 (vint 0)) h34 (contQ prog J 100 h.length 8 [1, 1, 1, 1, 1, 0, 1, 0] (codeOf f8) [] (RetQ prog [.tmp 2] h.length K))))
(aOff v32 1 fun v70 =>
aLoad false 1 v70 h34 fun v71 =>
aBin prog .geq 3 v71 (vint 400) fun v72 =>
cnd v72
(retL h.length K [] [(Value.bool false)] h34)
(Sem J 100 h.length 8 (subC [1, 1, 1, 1, 1, 0, 1, 0] (codeOf f8)) (RG.p (RG.p (RG.p (RG.p (RG.p (RG.p (RG.p (RG.p (RG.p (RG.p (RG.p (RG.p (RG.p (RG.p (RG.p (RG.p (RG.p (RG.p (RG.p (RG.p (RG.p (RG.p (RG.p (RG.p (RG.p (RG.p (RG.p (RG.p (RG.p (RG.p (RG.p (RG.p (RG.p (RG.p (RG.p (RG.p (RG.p (RG.p (RG.p (RG.p (RG.p (RG.p (RG.p (RG.p (RG.p (RG.p (RG.p (RG.p (RG.p (RG.p (RG.p (RG.p (RG.p (RG.p (RG.p (RG.p (RG.p (RG.p (RG.p (RG.p (RG.mk (regs [a0]) []) 2 (Value.bool false)) 9 a0) 10 v1) 3 v1) 11 v1) 12 v3) 13 v1) 14 v5) 15 v1) 16 v1) 17 v7) 18 v1) 19 v9) 20 v12) 21 v14) 22 v1) 23 v1) 24 v16) 25 v19) 26 v21) 27 (Value.agg ⟨c23⟩)) 4 v24) 29 v27) 30 v28) 28 v28) 31 v30) 32 v31) 5 v32) 6 v31) 33 v31) 34 v35) 35 v35) 35 (Value.bool false)) 36 v59) 37 v60) 38 v61) 39 v62) 40 v63) 41 v63) 42 v63) 42 (Value.bool true)) 43 undef) 44 undef) 45 undef) 46 undef) 47 undef) 48 (Value.bool true)) 49 (Value.bool true)) 49 (Value.bool false)) 50 v67) 51 v68) 52 v69) 53 v69) 54 v69) 54 (Value.bool false)) 55 v70) 56 v71) 57 v72) 58 v72) 7 (vint 0)) h34 (contQ prog J 100 h.length 8 [1, 1, 1, 1, 1, 0, 1, 0] (codeOf f8) [] (RetQ prog [.tmp 2] h.length K))))))
(aOff v32 1 fun v73 =>
aLoad false 1 v73 h34 fun v74 =>
aOff v24 2 fun v75 =>
aLoad false 1 v75 h34 fun v76 =>
aBin prog .lss 3 v74 v76 fun v77 =>
cnd v77
(cnd (Value.bool true)
(cnd (Value.bool true)
(retL h.length K [] [(Value.bool false)] h34)
(Sem J 100 h.length 8 (subC [1, 1, 1, 1, 1, 0, 1, 0] (codeOf f8)) (RG.p (RG.p (RG.p (RG.p (RG.p (RG.p (RG.p (RG.p (RG.p (RG.p (RG.p (RG.p (RG.p (RG.p (RG.p (RG.p (RG.p (RG.p (RG.p (RG.p (RG.p (RG.p (RG.p (RG.p (RG.p (RG.p (RG.p (RG.p (RG.p (RG.p (RG.p (RG.p (RG.p (RG.p (RG.p (RG.p (RG.p (RG.p (RG.p (RG.p (RG.p (RG.p (RG.p (RG.p (RG.p (RG.p (RG.p (RG.p (RG.p (RG.p (RG.p (RG.p (RG.p (RG.p (RG.p (RG.p (RG.p (RG.p (RG.p (RG.p (RG.mk (regs [a0]) []) 2 (Value.bool false)) 9 a0) 10 v1) 3 v1) 11 v1) 12 v3) 13 v1) 14 v5) 15 v1) 16 v1) 17 v7) 18 v1) 19 v9) 20 v12) 21 v14) 22 v1) 23 v1) 24 v16) 25 v19) 26 v21) 27 (Value.agg ⟨c23⟩)) 4 v24) 29 v27) 30 v28) 28 v28) 31 v30) 32 v31) 5 v32) 6 v31) 33 v31) 34 v35) 35 v35) 35 (Value.bool false)) 36 v59) 37 v60) 38 v61) 39 v62) 40 v63) 41 v63) 42 v63) 42 (Value.bool false)) 43 v73) 44 v74) 45 v75) 46 v76) 47 v77) 48 v77) 49 v77) 49 (Value.bool true)) 50 undef) 51 undef) 52 undef) 53 (Value.bool true)) 54 (Value.bool true)) 54 (Value.bool true)) 55 undef) 56 undef) 57 undef) 58 (Value.bool true)) 7 (vint 0)) h34 (contQ prog J 100 h.length 8 [1, 1, 1, 1, 1, 0, 1, 0] (codeOf f8) [] (RetQ prog [.tmp 2] h.length K))))
(aOff v32 1 fun v78 =>
aLoad false 1 v78 h34 fun v79 =>
aBin prog .geq 3 v79 (vint 400) fun v80 =>
cnd v80
(retL h.length K [] [(Value.bool false)] h34)
(Sem J 100 h.length 8 (subC [1, 1, 1, 1, 1, 0, 1, 0] (codeOf f8)) (RG.p (RG.p (RG.p (RG.p (RG.p (RG.p (RG.p (RG.p (RG.p (RG.p (RG.p (RG.p (RG.p (RG.p (RG.p (RG.p (RG.p (RG.p (RG.p (RG.p (RG.p (RG.p (RG.p (RG.p (RG.p (RG.p (RG.p (RG.p (RG.p (RG.p (RG.p (RG.p (RG.p (RG.p (RG.p (RG.p (RG.p (RG.p (RG.p (RG.p (RG.p (RG.p (RG.p (RG.p (RG.p (RG.p (RG.p (RG.p (RG.p (RG.p (RG.p (RG.p (RG.p (RG.p (RG.p (RG.p (RG.p (RG.p (RG.p (RG.p (RG.mk (regs [a0]) []) 2 (Value.bool false)) 9 a0) 10 v1) 3 v1) 11 v1) 12 v3) 13 v1) 14 v5) 15 v1) 16 v1) 17 v7) 18 v1) 19 v9) 20 v12) 21 v14) 22 v1) 23 v1) 24 v16) 25 v19) 26 v21) 27 (Value.agg ⟨c23⟩)) 4 v24) 29 v27) 30 v28) 28 v28) 31 v30) 32 v31) 5 v32) 6 v31) 33 v31) 34 v35) 35 v35) 35 (Value.bool false)) 36 v59) 37 v60) 38 v61) 39 v62) 40 v63) 41 v63) 42 v63) 42 (Value.bool false)) 43 v73) 44 v74) 45 v75) 46 v76) 47 v77) 48 v77) 49 v77) 49 (Value.bool true)) 50 undef) 51 undef) 52 undef) 53 (Value.bool true)) 54 (Value.bool true)) 54 (Value.bool false)) 55 v78) 56 v79) 57 v80) 58 v80) 7 (vint 0)) h34 (contQ prog J 100 h.length 8 [1, 1, 1, 1, 1, 0, 1, 0] (codeOf f8) [] (RetQ prog [.tmp 2] h.length K)))))
(aOff v32 0 fun v81 =>
aLoad false 1 v81 h34 fun v82 =>
aBin prog .lss 3 v82 (vint 0) fun v83 =>
cnd v83
(cnd (Value.bool true)
(retL h.length K [] [(Value.bool false)] h34)
(Sem J 100 h.length 8 (subC [1, 1, 1, 1, 1, 0, 1, 0] (codeOf f8)) (RG.p (RG.p (RG.p (RG.p (RG.p (RG.p (RG.p (RG.p (RG.p (RG.p (RG.p (RG.p (RG.p (RG.p (RG.p (RG.p (RG.p (RG.p (RG.p (RG.p (RG.p (RG.p (RG.p (RG.p (RG.p (RG.p (RG.p (RG.p (RG.p (RG.p (RG.p (RG.p (RG.p (RG.p (RG.p (RG.p (RG.p (RG.p (RG.p (RG.p (RG.p (RG.p (RG.p (RG.p (RG.p (RG.p (RG.p (RG.p (RG.p (RG.p (RG.p (RG.p (RG.p (RG.p (RG.p (RG.p (RG.p (RG.p (RG.p (RG.p (RG.mk (regs [a0]) []) 2 (Value.bool false)) 9 a0) 10 v1) 3 v1) 11 v1) 12 v3) 13 v1) 14 v5) 15 v1) 16 v1) 17 v7) 18 v1) 19 v9) 20 v12) 21 v14) 22 v1) 23 v1) 24 v16) 25 v19) 26 v21) 27 (Value.agg ⟨c23⟩)) 4 v24) 29 v27) 30 v28) 28 v28) 31 v30) 32 v31) 5 v32) 6 v31) 33 v31) 34 v35) 35 v35) 35 (Value.bool false)) 36 v59) 37 v60) 38 v61) 39 v62) 40 v63) 41 v63) 42 v63) 42 (Value.bool false)) 43 v73) 44 v74) 45 v75) 46 v76) 47 v77) 48 v77) 49 v77) 49 (Value.bool false)) 50 v81) 51 v82) 52 v83) 53 v83) 54 v83) 54 (Value.bool true)) 55 undef) 56 undef) 57 undef) 58 (Value.bool true)) 7 (vint 0)) h34 (contQ prog J 100 h.length 8 [1, 1, 1, 1, 1, 0, 1, 0] (codeOf f8) [] (RetQ prog [.tmp 2] h.length K))))
(aOff v32 1 fun v84 =>
aLoad false 1 v84 h34 fun v85 =>
aBin prog .geq 3 v85 (vint 400) fun v86 =>
cnd v86
(retL h.length K [] [(Value.bool false)] h34)
(Sem J 100 h.length 8 (subC [1, 1, 1, 1, 1, 0, 1, 0] (codeOf f8)) (RG.p (RG.p (RG.p (RG.p (RG.p (RG.p (RG.p (RG.p (RG.p (RG.p (RG.p (RG.p (RG.p (RG.p (RG.p (RG.p (RG.p (RG.p (RG.p (RG.p (RG.p (RG.p (RG.p (RG.p (RG.p (RG.p (RG.p (RG.p (RG.p (RG.p (RG.p (RG.p (RG.p (RG.p (RG.p (RG.p (RG.p (RG.p (RG.p (RG.p (RG.p (RG.p (RG.p (RG.p (RG.p (RG.p (RG.p (RG.p (RG.p (RG.p (RG.p (RG.p (RG.p (RG.p (RG.p (RG.p (RG.p (RG.p (RG.p (RG.p (RG.mk (regs [a0]) []) 2 (Value.bool false)) 9 a0) 10 v1) 3 v1) 11 v1) 12 v3) 13 v1) 14 v5) 15 v1) 16 v1) 17 v7) 18 v1) 19 v9) 20 v12) 21 v14) 22 v1) 23 v1) 24 v16) 25 v19) 26 v21) 27 (Value.agg ⟨c23⟩)) 4 v24) 29 v27) 30 v28) 28 v28) 31 v30) 32 v31) 5 v32) 6 v31) 33 v31) 34 v35) 35 v35) 35 (Value.bool false)) 36 v59) 37 v60) 38 v61) 39 v62) 40 v63) 41 v63) 42 v63) 42 (Value.bool false)) 43 v73) 44 v74) 45 v75) 46 v76) 47 v77) 48 v77) 49 v77) 49 (Value.bool false)) 50 v81) 51 v82) 52 v83) 53 v83) 54 v83) 54 (Value.bool false)) 55 v84) 56 v85) 57 v86) 58 v86) 7 (vint 0)) h34 (contQ prog J 100 h.length 8 [1, 1, 1, 1, 1, 0, 1, 0] (codeOf f8) [] (RetQ prog [.tmp 2] h.length K)))))))))) := by kernel_rfl
theorem g8 (hJ : Closed prog main J) {a0 : Value} (hs : heapOk h → W prog J 100 h.length 8 (codeOf f8) (RG.mk (regs [a0]) []) h (RetQ prog [.tmp 2] h.length K)) : Good prog J 8 [a0] h K :=
  good_of_W hJ mixed at8 body8 (by kernel_rfl) (Nat.le_of_ble_eq_true rfl) hs
end
end Go.Proofs.Ytdgpacdknpahnaa
namespace Go.Proofs.Ytdgpacdknpahnaa
open Go.Conc Go.Proofs.Try
set_option maxRecDepth 100000
theorem lo_le {c : Cnt} (h2 : 0 ≤ c.err ∧ c.err ≤ 20) {n : Int} : rdLo c ≤ n ↔ 100 * c.num ≤ 100 * n + c.err * n := by
  unfold rdLo
  have e : (n + 1) * (100 + c.err) = 100 * n + c.err * n + 100 + c.err := by
    rw [Int.add_mul, Int.mul_add, Int.mul_comm n 100, Int.mul_comm n c.err]
    omega
  have := Int.ediv_lt_iff_lt_mul (a := 100 * c.num + 99 + c.err) (b := n + 1) (c := 100 + c.err) (by omega)
  rw [e] at this
  omega
theorem le_hi {c : Cnt} (h2 : 0 ≤ c.err ∧ c.err ≤ 20) {n : Int} : n ≤ rdHi c ↔ 100 * n - c.err * n ≤ 100 * c.num := by
  unfold rdHi
  have e : n * (100 - c.err) = 100 * n - c.err * n := by
    rw [Int.mul_sub, Int.mul_comm n 100, Int.mul_comm n c.err]
  rw [Int.le_ediv_iff_mul_le (by omega), e]
theorem rd_facts {c : Cnt} (h1 : 0 ≤ c.num ∧ c.num ≤ 300) (h2 : 0 ≤ c.err ∧ c.err ≤ 20) : rdLo c ≤ c.num ∧ c.num ≤ rdHi c ∧ 0 ≤ rdLo c ∧ rdHi c < 400 := by
  have m := mul_bd h2.1 h2.2 h1.1 h1.2
  refine ⟨(lo_le h2).2 (by omega), (le_hi h2).2 (by omega), Int.ediv_nonneg (by omega) (by omega), ?_⟩
  refine Int.ediv_lt_of_lt_mul (by omega) ?_
  omega
def SameX (X : List Nat) (h H : List AObj) : Prop := h.length ≤ H.length ∧ ∀ i, i < h.length → i ∉ X → H[i]? = h[i]?
theorem SameX.refl {X : List Nat} {h : List AObj} : SameX X h h := ⟨Nat.le_refl _, fun _ _ _ => rfl⟩
theorem SameX.trans {X : List Nat} {h H H' : List AObj} (a : SameX X h H) (b : SameX X H H') : SameX X h H' :=
  ⟨Nat.le_trans a.1 b.1, fun i hi hx => by rw [b.2 i (Nat.lt_of_lt_of_le hi a.1) hx, a.2 i hi hx]⟩
theorem SameX.app {X : List Nat} {h H g : List AObj} (a : SameX X h H) : SameX X h (H ++ g) :=
  ⟨by have := a.1; simp; omega, fun i hi hx => by rw [List.getElem?_append_left (Nat.lt_of_lt_of_le hi a.1), a.2 i hi hx]⟩
theorem SameX.set {X : List Nat} {h H : List AObj} {i : Nat} {o : AObj} (a : SameX X h H) (hi : i ∈ X ∨ h.length ≤ i) : SameX X h (H.set i o) :=
  ⟨by have := a.1; simp; omega, fun j hj hx => by
    rw [List.getElem?_set, if_neg, a.2 j hj hx]
    rintro rfl
    rcases hi with hi | hi
    · exact hx hi
    · omega⟩
theorem SameX.get {X : List Nat} {h H : List AObj} {i : Nat} {o : AObj} (a : SameX X h H) (hx : h[i]? = some o) (hi : i ∉ X) : H[i]? = some o := by
  rw [a.2 i (List.getElem?_eq_some_iff.1 hx).1 hi, hx]
theorem SameX.pre {X : List Nat} {h0 g H : List AObj} (a : SameX X (h0 ++ g) H) (hX : ∀ x ∈ X, h0.length ≤ x) : ∃ g', H = h0 ++ g' := by
  refine ⟨H.drop h0.length, ?_⟩
  have : H.take h0.length = h0 := by
    apply List.ext_getElem?
    intro i
    rw [List.getElem?_take]
    split
    · rename_i hi
      rw [a.2 i (by simp; omega) (fun hx => by have := hX i hx; omega), List.getElem?_append_left hi]
    · rename_i hi
      rw [List.getElem?_eq_none (by omega)]
  conv => lhs; rw [← List.take_append_drop h0.length H, this]
structure WorkIn (h0 H : List AObj) (b : Nat) (t : Tal) (cv nv : Value) (u : Int) (m : Value) : Prop where
  at_ : H[b]? = some (.cells (talCells t cv nv ++ [.int .u64 u, m]) true 0)
  pre : ∃ g, H = h0 ++ g
  ch : SliE h0 cv 2 Rng.cells t.changes
  co : SliE h0 nv 4 Cnt.cells t.counts
theorem WorkIn.work {h0 H : List AObj} {b : Nat} {t : Tal} {cv nv : Value} {u : Int} {m : Value} (w : WorkIn h0 H b t cv nv u m) : WorkAt H b t cv nv u m := by
  obtain ⟨a, ⟨g, rfl⟩, c, d⟩ := w
  exact ⟨a, sliE_app c, sliE_app d⟩
theorem WorkIn.same {h0 h H : List AObj} {b : Nat} {t : Tal} {cv nv : Value} {u : Int} {m : Value} {X : List Nat} (w : WorkIn h0 h b t cv nv u m) (s : SameX X h H) (hX : ∀ x ∈ X, h0.length ≤ x) (hb : b ∉ X) : WorkIn h0 H b t cv nv u m := by
  obtain ⟨a, ⟨g, rfl⟩, c, d⟩ := w
  exact ⟨s.get a hb, s.pre hX, c, d⟩
structure TalFine (t : Tal) : Prop where
  gates : 1 ≤ t.gates ∧ t.gates ≤ 5
  chl : (t.changes.length : Int) = t.gates - 1
  first : 0 ≤ t.first.lo ∧ t.first.lo ≤ t.first.hi ∧ t.first.hi ≤ 300
  ch : ∀ r ∈ t.changes, -60 ≤ r.lo ∧ r.lo ≤ r.hi ∧ r.hi ≤ 60
  most : 0 ≤ t.most ∧ t.most ≤ 60
  few : t.counts.length ≤ 7
  co : ∀ c ∈ t.counts, (0 ≤ c.gate ∧ c.gate < t.gates) ∧ (1 ≤ c.man ∧ c.man ≤ 9) ∧ (0 ≤ c.num ∧ c.num ≤ 300) ∧ (0 ≤ c.err ∧ c.err ≤ 20)
theorem firstE_all {l : List Int} (h : firstE l = 0) : ∀ e ∈ l, e = 0 := by
  induction l with
  | nil => simp
  | cons a l ih =>
    unfold firstE at h
    split at h
    · omega
    · rename_i ha
      intro e he
      rcases List.mem_cons.1 he with rfl | he
      · omega
      · exact ih h e he
theorem rngErr_zero {lo hi : Int} {r : Rng} (h : rngErr lo hi r = 0) : lo ≤ r.lo ∧ r.lo ≤ r.hi ∧ r.hi ≤ hi := by
  unfold rngErr at h
  split at h
  · omega
  · split at h
    · omega
    · omega
theorem cntErr_zero {c : Cnt} {g : Int} (h : cntErr c g = 0) : (0 ≤ c.gate ∧ c.gate < g) ∧ (1 ≤ c.man ∧ c.man ≤ 9) ∧ (0 ≤ c.num ∧ c.num ≤ 300) ∧ (0 ≤ c.err ∧ c.err ≤ 20) := by
  unfold cntErr at h
  split at h
  · omega
  · split at h
    · omega
    · omega
theorem talErr_fine {t : Tal} (h : talErr t = 0) : TalFine t := by
  unfold talErr at h
  split at h
  · omega
  split at h
  · contradiction
  split at h
  · omega
  split at h
  · omega
  split at h
  · contradiction
  split at h
  · omega
  split at h
  · omega
  rename_i h1 h2 h3 h4 h5 h6 h7
  have h2' := rngErr_zero (by omega : rngErr 0 300 t.first = 0)
  refine ⟨by omega, by omega, h2', fun r hr => rngErr_zero (firstE_all (by omega : firstE (t.changes.map (rngErr (-60) 60)) = 0) _ (List.mem_map.2 ⟨r, hr, rfl⟩)), by omega, by omega, fun c hc => ?_⟩
  exact cntErr_zero (firstE_all h _ (List.mem_map.2 ⟨c, hc, rfl⟩))
theorem TalFine.cosm {t : Tal} (h : TalFine t) : CoSm t.counts := ⟨by have := h.few; omega, fun c hc => by
  obtain ⟨a, b, d, e⟩ := h.co c hc
  have := h.gates
  exact ⟨by omega, d, e⟩⟩
def fwd (t : Tal) (L : Nat → Rng) : Nat → Rng
  | 0 => t.first.meet (L 0)
  | g + 1 => ((fwd t L g).plus (stretchR t g)).meet (L (g + 1))
theorem Rng.sm_meet {a b : Rng} {B : Int} (h1 : a.sm B) (h2 : b.sm B) : (a.meet b).sm B := by
  obtain ⟨⟨_, _⟩, _, _⟩ := h1
  obtain ⟨⟨_, _⟩, _, _⟩ := h2
  unfold Rng.meet Rng.sm
  dsimp only
  omega
theorem Rng.sm_plus {a b : Rng} {B C : Int} (h1 : a.sm B) (h2 : b.sm C) : (a.plus b).sm (B + C) := by
  obtain ⟨⟨_, _⟩, _, _⟩ := h1
  obtain ⟨⟨_, _⟩, _, _⟩ := h2
  unfold Rng.plus Rng.sm
  dsimp only
  omega
theorem Rng.sm_le {a : Rng} {B C : Int} (h1 : a.sm B) (h : B ≤ C) : a.sm C := by
  obtain ⟨⟨_, _⟩, _, _⟩ := h1
  unfold Rng.sm
  omega
theorem stretch_sm {t : Tal} (h : TalFine t) (g : Nat) : (stretchR t g).sm 1000 := by
  have h1 := h.most
  unfold stretchR
  cases e : t.changes[g]? with
  | none =>
    unfold Rng.plus Rng.sm
    dsimp only [Option.getD]
    omega
  | some r =>
    have := h.ch r (List.mem_of_getElem? e)
    unfold Rng.plus Rng.sm
    dsimp only [Option.getD]
    omega
theorem fwd_sm {t : Tal} (h : TalFine t) {L : Nat → Rng} (hL : ∀ g, (L g).sm 1000) : ∀ g : Nat, (fwd t L g).sm (1000 + 1000 * g)
  | 0 => by
    have := h.first
    exact Rng.sm_le (B := 1000) (Rng.sm_meet ⟨by omega, by omega⟩ (hL 0)) (by omega)
  | g + 1 => by
    refine Rng.sm_meet ?_ (Rng.sm_le (hL (g + 1)) (by omega))
    exact Rng.sm_le (Rng.sm_plus (fwd_sm h hL g) (stretch_sm h g)) (by omega)
theorem rd_sm {c : Cnt} (h1 : 0 ≤ c.num ∧ c.num ≤ 300) (h2 : 0 ≤ c.err ∧ c.err ≤ 20) : (rd c).sm 1000 := by
  obtain ⟨a, b, d, e⟩ := rd_facts h1 h2
  unfold rd Rng.sm
  dsimp only
  omega
theorem limN_sm {u : Int} {cs : List Cnt} (hc : ∀ c ∈ cs, (0 ≤ c.num ∧ c.num ≤ 300) ∧ (0 ≤ c.err ∧ c.err ≤ 20)) : ∀ i g : Nat, (limN u cs i g).sm 1000
  | 0, g => by
    show Rng.sm ⟨0, 600⟩ 1000
    unfold Rng.sm
    dsimp only
    omega
  | i + 1, g => by
    have ih := limN_sm (u := u) hc i
    show Rng.sm ((match cs[i]? with
      | some c => bif keepB u i then updL (limN u cs i) c.gate.toNat ((limN u cs i c.gate.toNat).meet (rd c)) else limN u cs i
      | none => limN u cs i) g) 1000
    cases e : cs[i]? with
    | none => exact ih g
    | some c =>
      have := hc c (List.mem_of_getElem? e)
      cases keepB u i with
      | false => exact ih g
      | true =>
        show Rng.sm (updL _ _ _ g) 1000
        unfold updL
        split
        · exact Rng.sm_meet (ih _) (rd_sm this.1 this.2)
        · exact ih g
section
variable {main : Bool} {J : JT} {h h0 : List AObj} {K : Value → List AObj → Prop}
theorem tail111 (hJ : Closed prog main J) {p b2 i : Nat} {H : List AObj} {nw : Rng} {L : Nat → Rng} {Y : Value} {sz : Nat} {wr : Bool} (hp : H[p]? = some (.cells nw.cells true 0)) (hb2 : H[b2]? = some (.cells (limCells L) wr sz)) (hi : i < 5)
    {Kc : Value → Value → Value → Value → Value → Value → List AObj → Prop}
    (hk : callV prog (Good prog J) Y [vint i, (nw.meet (L i)).val] (H.set p (.cells (nw.meet (L i)).cells true 0)) (Kc nw.val (ptr b2 (0 + i * 2)) (L i).val (nw.meet (L i)).val (nw.meet (L i)).val)) :
    aLoad true 2 (ptr p 0) H fun v11 => aIdxA 5 2 (ptr b2 0) (vint i) fun v12 => aLoad true 2 v12 H fun v13 => Good prog J 99 [v11, v13] H fun v14 h15 => aStore 2 (ptr p 0) v14 h15 fun h16 => aLoad true 2 (ptr p 0) h16 fun v17 => callV prog (Good prog J) Y [vint i, v17] h16 (Kc v11 v12 v13 v14 v17) := by
  refine load_part hp (by simp [Rng.cells]) rfl rfl (idxAI ⟨by omega, by omega⟩ ?_)
  rw [Int.toNat_natCast]
  refine load_part hb2 (by rw [lim_len]; omega) (lim_get L i hi) rfl ?_
  refine good99 hJ (r := nw) (q := L i) ?_
  refine store_agg hp rfl rfl rfl ?_
  exact load_part (c := (nw.meet (L i)).cells) (List.getElem?_set_self (List.getElem?_eq_some_iff.1 hp).1) (by simp [Rng.cells]) rfl rfl hk
theorem good111 (hJ : Closed prog main J) {Y : Value} {b1 b2 bw : Nat} {X : List Nat} {I Stop : Nat → List AObj → Prop} {t : Tal} {L : Nat → Rng} {cv nv : Value} {u : Int} {m : Value} {wr1 wr2 : Bool} {s1 s2 : Nat}
    (w : WorkIn h0 h bw t cv nv u m) (fine : TalFine t) (hL : ∀ g, (L g).sm 1000) (hX : ∀ x ∈ X, h0.length ≤ x ∧ x < h.length) (hb1 : h[b1]? = some (.cells [ptr bw 0] wr1 s1)) (hb2 : h[b2]? = some (.cells (limCells L) wr2 s2)) (n1 : b1 ∉ X) (n2 : b2 ∉ X) (n3 : bw ∉ X)
    (stable : ∀ g H H', (∀ x ∈ X, H'[x]? = H[x]?) → I g H → I g H') (hI : I 0 h)
    (call : ∀ (g : Nat) H (Q : Value → List AObj → Prop), (g : Int) < t.gates → SameX X h H → I g H → (∀ H', SameX X H H' → I (g + 1) H' → Q (.bool true) H') → (∀ H', SameX X H H' → Stop g H' → Q (.bool false) H') → callV prog (Good prog J) Y [vint g, (fwd t L g).val] H Q)
    (fin : ∀ H, SameX X h H → I t.gates.toNat H → K (pack []) H) (stop : ∀ (g : Nat) H, (g : Int) < t.gates → SameX X h H → Stop g H → K (pack []) H) : Good prog J 111 [Y, ptr b1 0, ptr b2 0] h K := by
  refine g111 hJ fun ok => ?_
  rw [e111]
  have hX0 : ∀ x ∈ X, h0.length ≤ x := fun x hx => (hX x hx).1
  have hp : h.length ∉ X := fun hx => by have := (hX _ hx).2; omega
  have hg := fine.gates
  refine ldI hb1 rfl rfl (nilI (offI (offI (load_part (c := t.first.cells) w.at_ (by simp [talCells]) rfl rfl ?_))))
  unfold aAlloc
  refine store_agg (cs := [vint 0, vint 0]) (sz := 0) (by simp) rfl rfl rfl ?_
  rw [show ∀ (l : List AObj) (x y : AObj), (l ++ [x]).set l.length y = l ++ [y] from fun l x y => by simp]
  refine ldI (get_app hb1) rfl rfl (nilI (offI (offI (ldI (v := vint t.gates) (get_app w.at_) rfl rfl ?_))))
  refine l111_1 hJ (fun i : Nat => 5 - i) (fun i f H => ∃ nw, SameX X h H ∧ H[h.length]? = some (.cells (Rng.cells nw) true 0) ∧ (i = 0 → nw = t.first) ∧ (∀ j, i = j + 1 → nw = fwd t L j) ∧ I i H ∧ (i : Int) ≤ t.gates ∧
      f.ds = [] ∧ f.r 0 = Y ∧ f.r 1 = ptr b1 0 ∧ f.r 2 = ptr b2 0 ∧ f.r 4 = ptr h.length 0 ∧ f.r 15 = vint t.gates ∧ f.r 16 = vint (i : Nat)) ?_ (s := 0)
    (.inl ⟨t.first, SameX.refl.app, by simp, fun _ => rfl, fun j hj => (by omega), stable 0 h _ (fun x hx => List.getElem?_append_left (hX x hx).2) hI, by omega, rfl, rfl, rfl, rfl, rfl, rfl, rfl⟩)
  rintro i f H ⟨nw, S, hnow, z, sc, hIi, hi, hds, r0, r1, r2, r4, r15, r16⟩ ok' hn'
  rw [s111_1]
  simp only [r0, r1, r2, r4, r15, r16, hds]
  -- the end of a round
  have post : ∀ (nw' : Rng) (H1 : List AObj) (Q : Value → List AObj → Prop), (i : Int) < t.gates → SameX X h H1 → H1[h.length]? = some (.cells nw'.cells true 0) → I i H1 → nw'.meet (L i) = fwd t L i →
      (∀ H', SameX X h H' → H'[h.length]? = some (.cells (fwd t L i).cells true 0) → I (i + 1) H' → Q (.bool true) H') → (∀ H', SameX X h H' → Stop i H' → Q (.bool false) H') →
      callV prog (Good prog J) Y [vint i, (nw'.meet (L i)).val] (H1.set h.length (.cells (nw'.meet (L i)).cells true 0)) Q := by
    intro nw' H1 Q hlt S1 hn1 hI1 hm hq1 hq2
    have S2 : SameX X h (H1.set h.length (.cells (nw'.meet (L i)).cells true 0)) := S1.set (.inr (Nat.le_refl _))
    have hlen : h.length < H1.length := (List.getElem?_eq_some_iff.1 hn1).1
    rw [hm] at S2 ⊢
    refine call i _ Q hlt S2 (stable i H1 _ (fun x hx => ?_) hI1) (fun H' S' hI' => hq1 H' (S2.trans S') ?_ hI') (fun H' S' hs => hq2 H' (S2.trans S') hs)
    · rw [List.getElem?_set, if_neg]
      have := (hX x hx).2
      omega
    · rw [S'.2 h.length (by simpa using hlen) hp]
      exact List.getElem?_set_self hlen
  refine lssI (cndI (fun hlt => gtrI (cndI (fun hpos => ?_) fun h0' => ?_)) fun hge => ?_)
  · obtain ⟨j, rfl⟩ : ∃ j, i = j + 1 := ⟨i - 1, by omega⟩
    have enw := sc j rfl
    subst enw
    have wH := w.same S hX0 n3
    have hch := fine.chl
    have hj : j < t.changes.length := by omega
    refine ⟨[h.length, b1], load_part (c := (fwd t L j).cells) hnow (by simp [Rng.cells]) rfl rfl ⟨by simp [RdOk, ptrBlk, ptr], ldI (S.get hb1 n1) rfl rfl ⟨by simp [RdOk, ptrBlk, ptr], subI (by omega) ?_⟩⟩⟩
    rw [show ((j + 1 : Nat) : Int) - 1 = (j : Nat) from by omega]
    refine good101 hJ wH.work hj ?_ (by have := fine.most; omega) ⟨fun _ _ => rfl, ?_⟩
    · have := fine.ch _ (List.getElem_mem hj)
      unfold Rng.sm
      omega
    refine good100 hJ (r := fwd t L j) (q := stretchR t j) (Rng.sm_le (fwd_sm fine hL j) (by omega)) (Rng.sm_le (stretch_sm fine j) (by omega)) ⟨fun _ _ => rfl, ?_⟩
    refine store_agg hnow rfl rfl rfl ?_
    have hlen : h.length < H.length := (List.getElem?_eq_some_iff.1 hnow).1
    have S1 : SameX X h (H.set h.length (.cells ((fwd t L j).plus (stretchR t j)).cells true 0)) := S.set (.inr (Nat.le_refl _))
    have hn1 : (H.set h.length (.cells ((fwd t L j).plus (stretchR t j)).cells true 0))[h.length]? = some (.cells ((fwd t L j).plus (stretchR t j)).cells true 0) := List.getElem?_set_self hlen
    refine tail111 hJ (nw := (fwd t L j).plus (stretchR t j)) hn1 (S1.get hb2 n2) (by omega) ?_
    refine post _ _ _ hlt S1 hn1 (stable _ H _ (fun x hx => ?_) hIi) rfl (fun H' S' hn' hI' => notI (cnd_false.2 (addI (by omega) ?_))) (fun H' S' hs => notI (cnd_true.2 (retL_same (by simp) (stop _ H' hlt S' hs))))
    · rw [List.getElem?_set, if_neg]
      have := (hX x hx).2
      omega
    · exact ⟨j + 1 + 1, by dsimp only; omega, .inl ⟨_, S', hn', fun e => (by omega), fun q hq => (by cases hq; rfl), hI', by omega, hds, r0, r1, r2, r4, r15, rfl⟩⟩
  · have hi0 : i = 0 := by omega
    subst hi0
    have enw := z rfl
    subst enw
    refine tail111 hJ (nw := t.first) hnow (S.get hb2 n2) (by omega) ?_
    refine post _ _ _ hlt S hnow hIi rfl (fun H' S' hn' hI' => notI (cnd_false.2 (addI (by omega) ?_))) (fun H' S' hs => notI (cnd_true.2 (retL_same (by simp) (stop _ H' hlt S' hs))))
    exact ⟨0 + 1, by dsimp only; omega, .inl ⟨_, S', hn', fun e => (by omega), fun q hq => (by cases hq; rfl), hI', by omega, hds, r0, r1, r2, r4, r15, rfl⟩⟩
  · have : i = t.gates.toNat := by omega
    subst this
    exact retL_same (by simp) (fin H S hIi)
end
end Go.Proofs.Ytdgpacdknpahnaa
