/- Parts of the proof, 3. No conditions. -/
import Derived.Test.YthnccaajpdnndaaK2
set_option linter.unusedSimpArgs false
set_option linter.unusedVariables false
namespace Go.Proofs.Ythnccaajpdnndaa
open Go.Conc
section
variable {P : Program} {t : TypeId} {K : Value → Prop} {H : Value → List AObj → Prop} {k : IntKind} {a b : Int} {p : Prop} [Decidable p] {A B : Prop} {h : List AObj}
theorem cnd_dec : cnd (.bool (decide p)) A B ↔ (p → A) ∧ (¬p → B) := by by_cases h : p <;> simp [cnd, h]
theorem cnd_ndec : cnd (.bool (!decide p)) A B ↔ (¬p → A) ∧ (p → B) := by by_cases h : p <;> simp [cnd, h]
theorem cnd_true : cnd (.bool true) A B ↔ A := by simp [cnd]
theorem cnd_false : cnd (.bool false) A B ↔ B := by simp [cnd]
theorem b_lss : aBin P .lss t (.int k a) (.int k b) K = K (.bool (decide (a < b))) := by simp [aBin, aInt]
theorem b_leq : aBin P .leq t (.int k a) (.int k b) K = K (.bool (decide (a ≤ b))) := by simp [aBin, aInt]
theorem b_gtr : aBin P .gtr t (.int k a) (.int k b) K = K (.bool (decide (a > b))) := by simp [aBin, aInt]
theorem b_geq : aBin P .geq t (.int k a) (.int k b) K = K (.bool (decide (a ≥ b))) := by simp [aBin, aInt]
theorem b_eql : aBin P .eql t (.int k a) (.int k b) K = K (.bool (decide (a = b))) := by simp [aBin, aInt]; rfl
theorem b_neq : aBin P .neq t (.int k a) (.int k b) K = K (.bool (decide (a ≠ b))) := by simp [aBin, aInt]; rfl
theorem wrap64 {n : Int} (h1 : -9223372036854775808 ≤ n) (h2 : n < 9223372036854775808) : IntKind.i64.wrap n = n := by
  simp only [IntKind.wrap, IntKind.bits, IntKind.signed]
  simp
  split <;> omega
theorem b_add (h : -9223372036854775808 ≤ a + b ∧ a + b < 9223372036854775808) : aBin P .add t (vint a) (vint b) K = K (vint (a + b)) := by simp [aBin, aInt, vint, wrap64 h.1 h.2]
theorem b_sub (h : -9223372036854775808 ≤ a - b ∧ a - b < 9223372036854775808) : aBin P .sub t (vint a) (vint b) K = K (vint (a - b)) := by simp [aBin, aInt, vint, wrap64 h.1 h.2]
theorem idx_ok {s b o n c : Nat} {j : Int} : aIdx s (.slice (some ⟨b, o, none⟩) n c) (vint j) K = ((0 ≤ j ∧ j < n) ∧ K (ptr b (o + j.toNat * s))) := rfl
theorem load_cell {b o s : Nat} {c : List Value} {wr : Bool} {sz : Nat} {v : Value} (hb : h[b]? = some (.cells c wr sz)) (hv : c[o]? = some v) (hn : kn1 v = true) {K : Value → Prop} : aLoad false s (ptr b o) h K = K v := by
  simp [aLoad, hb, hv, hn]
theorem store_cell {b o : Nat} {c : List Value} {sz : Nat} {v : Value} (hb : h[b]? = some (.cells c true sz)) (ho : o < c.length) (h1 : v.cells = #[v]) (h2 : one v = true) {K : List AObj → Prop} (hk : K (h.set b (.cells (c.set o v) true sz))) : aStore 1 (ptr b o) v h K := by
  simp [aStore, hb, h1, h2, wrAt]
  exact ⟨ho, hk⟩
theorem sub_id {n : Nat} {v : Value} (h : VOk n v) : sub id v = v := sub_same (n := n) (fun _ _ => rfl) v h
theorem gc_drop {n0 : Nat} {g : List AObj} (ok : heapOk h) (hn : n0 ≤ h.length) : GC n0 id (h ++ g) h :=
  ⟨hn, fun _ _ => rfl, fun i o hi => .inr (by
    rw [subO_same (σ := id) (n := h.length) (fun _ _ => rfl) (ok i o hi)]
    have : i < h.length := by
      rcases Nat.lt_or_ge i h.length with x | x
      · exact x
      · rw [List.getElem?_eq_none x] at hi; cases hi
    simp only [id]
    rw [List.getElem?_append_left this]
    exact hi), fun i j _ _ _ _ _ _ e => e, ok⟩
theorem retL_same {n0 : Nat} {vs : List Value} (hv : ∀ v ∈ vs, v ≠ unk) (hk : H (pack vs) h) : retL n0 H [] vs h := by
  unfold retL takeW
  have : ∀ (l : List Value) (p : Prop), (∀ v ∈ l, v ≠ unk) → p → nuK l p := by
    intro l
    induction l with
    | nil => intro p _ hp; exact hp
    | cons v l ih => intro p h hp; exact ⟨h v (by simp), ih p (fun u hu => h u (by simp [hu])) hp⟩
  exact this vs _ hv (.inl hk)
theorem retL_drop {n0 : Nat} {g : List AObj} {vs : List Value} (ok : heapOk h) (hn : n0 ≤ h.length) (hv : ∀ v ∈ vs, v ≠ unk) (hw : VOk h.length (pack vs)) (hk : H (pack vs) h) : retL n0 H [] vs (h ++ g) := by
  unfold retL takeW
  have : ∀ (l : List Value) (p : Prop), (∀ v ∈ l, v ≠ unk) → p → nuK l p := by
    intro l
    induction l with
    | nil => intro p _ hp; exact hp
    | cons v l ih => intro p h hp; exact ⟨h v (by simp), ih p (fun u hu => h u (by simp [hu])) hp⟩
  exact this vs _ hv (.inr ⟨id, h, pack vs, gc_drop ok hn, (sub_id hw).symm, hw, hk⟩)
def Sli (h : List AObj) (v : Value) (s n : Nat) (cells : List Value) : Prop :=
  ∃ base c, v = .slice base n c ∧ (cells.length = n * s ∧ kn cells = true) ∧ ((base = none ∧ n = 0) ∨ ∃ b o, base = some ⟨b, o, none⟩ ∧ (n = 0 ∨ ∃ cs wr sz, h[b]? = some (.cells cs wr sz) ∧ (cs.drop o).take (n * s) = cells))
theorem sli_len {v : Value} {s n : Nat} {cells : List Value} (hs : Sli h v s n cells) : aLenS v K = K (vint n) := by
  obtain ⟨base, c, rfl, _⟩ := hs
  rfl
theorem sli_get {v : Value} {s n : Nat} {cells : List Value} (hs : Sli h v s n cells) {i : Int} (hi : 0 ≤ i ∧ i < n) :
    ∃ b o cs wr sz c, v = .slice (some ⟨b, o, none⟩) n c ∧ h[b]? = some (.cells cs wr sz) ∧ ∀ j x, cells[j]? = some x → cs[o + j]? = some x := by
  obtain ⟨base, c, rfl, ⟨hl, hkn⟩, hc⟩ := hs
  rcases hc with ⟨_, h0⟩ | ⟨b, o, rfl, h0 | ⟨cs, wr, sz, hb, rfl⟩⟩
  · omega
  · omega
  · refine ⟨b, o, cs, wr, sz, c, rfl, hb, fun j x hx => ?_⟩
    rw [List.getElem?_take] at hx
    split at hx
    · rw [List.getElem?_drop] at hx
      exact hx
    · cases hx
theorem idx_load {v : Value} {n : Nat} {cells : List Value} {i : Int} {x : Value} {K : Value → Value → Prop} (hs : Sli h v 1 n cells) (hi : 0 ≤ i ∧ i < n) (hx : cells[i.toNat]? = some x) (hk : ∀ p, K p x) :
    aIdx 1 v (vint i) fun p => aLoad false 1 p h (K p) := by
  obtain ⟨b, o, cs, wr, sz, c, rfl, hb, hg⟩ := sli_get hs hi
  rw [idx_ok]
  refine ⟨hi, ?_⟩
  rw [load_cell hb (by simpa using hg _ _ hx) (by
    obtain ⟨_, _, _, ⟨_, hkn⟩, _⟩ := hs
    exact kn_get hkn hx)]
  exact hk _
theorem sli_app {v : Value} {s n : Nat} {cells : List Value} {g : List AObj} (hs : Sli h v s n cells) : Sli (h ++ g) v s n cells := by
  obtain ⟨base, c, rfl, ⟨hl, hkn⟩, hc⟩ := hs
  refine ⟨base, c, rfl, ⟨hl, hkn⟩, ?_⟩
  rcases hc with h0 | ⟨b, o, rfl, h0 | ⟨cs, wr, sz, hb, hx⟩⟩
  · exact .inl h0
  · exact .inr ⟨b, o, rfl, .inl h0⟩
  · refine .inr ⟨b, o, rfl, .inr ⟨cs, wr, sz, ?_, hx⟩⟩
    have : b < h.length := by
      rcases Nat.lt_or_ge b h.length with x | x
      · exact x
      · rw [List.getElem?_eq_none x] at hb; cases hb
    rw [List.getElem?_append_left this]
    exact hb
theorem sli_new {b n c : Nat} {cells : List Value} {wr : Bool} {sz : Nat} (hb : h[b]? = some (.cells cells wr sz)) (hl : cells.length = n) (hk : kn cells = true) : Sli h (.slice (some ⟨b, 0, none⟩) n c) 1 n cells :=
  ⟨_, c, rfl, ⟨by omega, hk⟩, .inr ⟨b, 0, rfl, .inr ⟨cells, wr, sz, hb, by simp [← hl]⟩⟩⟩
theorem sli_nil {s : Nat} : Sli h (.slice none 0 0) s 0 [] := ⟨none, 0, rfl, ⟨by simp, rfl⟩, .inl ⟨rfl, rfl⟩⟩
theorem sli_vlen {v : Value} {s n : Nat} {cells : List Value} (hs : Sli h v s n cells) : cells.length = n * s := by
  obtain ⟨_, _, _, ⟨hl, _⟩, _⟩ := hs
  exact hl
theorem src_sli {v : Value} {s n : Nat} {cells : List Value} {K : List Value → Prop} (hs : Sli h v s n cells) (hsp : 0 < s) (hk : K cells) : srcCells s n v h K := by
  obtain ⟨base, c, rfl, ⟨hl, hkn⟩, hc⟩ := hs
  rcases hc with ⟨rfl, rfl⟩ | ⟨b, o, rfl, h0 | ⟨cs, wr, sz, hb, rfl⟩⟩
  · have : cells = [] := List.length_eq_zero_iff.1 (by omega)
    subst this
    exact ⟨rfl, hk⟩
  · subst h0
    have : cells = [] := List.length_eq_zero_iff.1 (by omega)
    subst this
    exact ⟨fun _ => hk, fun x => absurd rfl x⟩
  · by_cases h0 : n = 0
    · subst h0
      exact ⟨fun _ => by simpa using hk, fun x => absurd rfl x⟩
    · refine ⟨fun x => absurd x h0, fun _ => ?_⟩
      simp only [hb]
      refine ⟨?_, hkn, hk⟩
      rw [List.length_take, List.length_drop] at hl
      have := Nat.mul_pos (Nat.pos_of_ne_zero h0) hsp
      omega
theorem app_nil {s m : Nat} {y : Value} {ys : List Value} (hsp : 0 < s) (hy : Sli h y s m ys) (hm : m ≤ room) (h0 : m = 0 → H (.slice none 0 0) h) (h1 : m ≠ 0 → H (.slice (some ⟨h.length, 0, none⟩) m fz) (h ++ [.cells ys true s])) : aApp s (.slice none 0 0) y h H := by
  have hy' := hy
  obtain ⟨yb, yc, rfl, _⟩ := hy
  exact ⟨by omega, src_sli hy' hsp ⟨⟨rfl, rfl⟩, h0, h1⟩⟩
theorem app_own {s n m b : Nat} {y : Value} {cs ys : List Value} (hb : h[b]? = some (.cells cs true s)) (hcs : n * s ≤ cs.length) (hkn : kn (cs.take (n * s)) = true) (hsp : 0 < s) (hy : Sli h y s m ys) (hm : n + m ≤ room)
    (hk : H (.slice (some ⟨h.length, 0, none⟩) (n + m) fz) (h.set b .dead ++ [.cells (cs.take (n * s) ++ ys) true s])) : aApp s (.slice (some ⟨b, 0, none⟩) n fz) y h H := by
  have hy' := hy
  obtain ⟨yb, yc, rfl, _⟩ := hy
  refine ⟨hm, src_sli hy' hsp ?_⟩
  simp only [hb, List.drop_zero, Nat.zero_add]
  have : s ≠ 0 := by omega
  exact ⟨⟨hcs, hkn⟩, fun x => absurd x (Nat.lt_irrefl _), fun _ => ⟨trivial, trivial, trivial, trivial, hk⟩⟩
theorem app_copy {s n m b o c : Nat} {y : Value} {cs ys : List Value} {wr : Bool} {sz : Nat} (hb : h[b]? = some (.cells cs wr sz)) (hcs : o + n * s ≤ cs.length) (hkn : kn ((cs.drop o).take (n * s)) = true) (hc : c < n + m) (hsp : 0 < s) (hy : Sli h y s m ys) (hm : n + m ≤ room)
    (hk : H (.slice (some ⟨h.length, 0, none⟩) (n + m) fz) (h ++ [.cells ((cs.drop o).take (n * s) ++ ys) true s])) : aApp s (.slice (some ⟨b, o, none⟩) n c) y h H := by
  have hy' := hy
  obtain ⟨yb, yc, rfl, _⟩ := hy
  refine ⟨hm, src_sli hy' hsp ?_⟩
  simp only [hb]
  have hr : room = 1073741824 := rfl
  have hf : fz = 1180591620717411303424 := rfl
  exact ⟨⟨hcs, hkn⟩, fun _ => ⟨fun x => absurd x (by omega), fun _ => hk⟩, fun x => absurd x (by omega)⟩
theorem kn_ints (l : List Int) : kn (l.map vint) = true := by
  simp [kn, kn1]
theorem map_get {l : List Int} {k : Nat} (hk : k < l.length) : (l.map vint)[k]? = some (vint (l.getD k 0)) := by
  simp [hk]
theorem wrapU (n : Int) : 0 ≤ IntKind.u64.wrap n ∧ IntKind.u64.wrap n < 18446744073709551616 := by
  simp only [IntKind.wrap, IntKind.bits, IntKind.signed]
  simp
  omega
theorem u_add (hk : ∀ y, 0 ≤ y → y < 18446744073709551616 → K (.int .u64 y)) : aBin P .add t (.int .u64 a) (.int .u64 b) K := ⟨rfl, hk _ (wrapU _).1 (wrapU _).2⟩
theorem u_mul (hk : ∀ y, 0 ≤ y → y < 18446744073709551616 → K (.int .u64 y)) : aBin P .mul t (.int .u64 a) (.int .u64 b) K := ⟨rfl, hk _ (wrapU _).1 (wrapU _).2⟩
theorem u_xor (hk : ∀ y, 0 ≤ y → y < 18446744073709551616 → K (.int .u64 y)) : aBin P .xor t (.int .u64 a) (.int .u64 b) K := ⟨rfl, hk _ (wrapU _).1 (wrapU _).2⟩
theorem u_shl (hb : 0 ≤ b) (hk : ∀ y, 0 ≤ y → y < 18446744073709551616 → K (.int .u64 y)) : aBin P .shl t (.int .u64 a) (.int k b) K := ⟨hb, hk _ (wrapU _).1 (wrapU _).2⟩
theorem u_shr (hb : 0 ≤ b) (ha : 0 ≤ a) {A : Int} (hA : a < A) (hk : ∀ y, 0 ≤ y → y < A → K (.int .u64 y)) : aBin P .shr t (.int .u64 a) (.int k b) K := by
  refine ⟨hb, hk _ ?_ ?_⟩
  · exact Int.fdiv_nonneg ha (by exact Int.le_of_lt (Int.pow_pos (by decide)))
  · refine Int.lt_of_le_of_lt ?_ hA
    rw [Int.fdiv_eq_ediv_of_nonneg _ (Int.le_of_lt (Int.pow_pos (by decide)))]
    exact Int.ediv_le_self _ ha
end
section
variable {P : Program} {t : TypeId} {K : Value → Prop} {H : Value → List AObj → Prop} {HL : List AObj → Prop} {a b : Int} {h g : List AObj} {A B : Prop}
theorem box_agg {cs : List Value} (h1 : cs.all one = true) (hk : H (ptr h.length 0) (h ++ [.cells cs true 0])) : aBox (.agg ⟨cs⟩) h H := ⟨h1, hk⟩
theorem box_one {v : Value} (hc : v.cells = #[v]) (h1 : one v = true) (hk : H (ptr h.length 0) (h ++ [.cells [v] true 0])) : aBox v h H := by
  unfold aBox
  rw [hc]
  exact ⟨by simpa using h1, hk⟩
theorem load_part {b o s : Nat} {cs c : List Value} {wr : Bool} {sz : Nat} (hb : h[b]? = some (.cells cs wr sz)) (hl : o + s ≤ cs.length) (hc : (cs.drop o).take s = c) (hn : kn c = true) (hk : K (.agg ⟨c⟩)) : aLoad true s (ptr b o) h K := by
  simp only [aLoad, hb, cond_true, hc]
  exact ⟨hl, hn, hk⟩
theorem store_agg {b : Nat} {cs c : List Value} {s : Nat} {sz : Nat} (hb : h[b]? = some (.cells cs true sz)) (hl : c.length = s) (hs : cs.length = s) (h1 : c.all one = true) (hk : HL (h.set b (.cells c true sz))) : aStore s (ptr b 0) (.agg ⟨c⟩) h HL := by
  have e : ∀ (c cs : List Value) (pre : List Value), cs.length = c.length → wrAt (pre ++ cs) pre.length c = pre ++ c := by
    intro c
    induction c with
    | nil =>
      intro cs pre h
      have : cs = [] := List.length_eq_zero_iff.1 (by simpa using h)
      subst this
      rfl
    | cons x c ih =>
      intro cs pre h
      cases cs with
      | nil => simp at h
      | cons y cs =>
        unfold wrAt
        have := ih cs (pre ++ [x]) (by simpa using h)
        simp only [List.length_append, List.length_cons, List.length_nil, List.append_assoc, List.cons_append, List.nil_append] at this
        simp only [List.set_append_right _ _ (Nat.le_refl _), Nat.sub_self, List.set_cons_zero]
        exact this
  simp only [aStore, hb, Value.cells]
  refine ⟨by simpa using hl, h1, by omega, ?_⟩
  have := e c cs [] (by omega)
  simp only [List.nil_append, List.length_nil] at this
  rw [this]
  exact hk
theorem resW_cell {rs : List ResultVar} {r : Nat → Value} {x : Nat} {gg : Bool} {s : Nat} {KL : List Value → Prop} (ht : tk P t = some (gg, s)) (hk : aLoad gg s (r x) h fun v => resW P rs r h fun vs => KL (v :: vs)) : resW P (.cell x t :: rs) r h KL := by
  unfold resW
  rw [ht]
  exact hk
theorem resW_tmp {rs : List ResultVar} {r : Nat → Value} {x : Nat} {KL : List Value → Prop} (hn : r x ≠ unk) (hk : resW P rs r h fun vs => KL (r x :: vs)) : resW P (.tmp x :: rs) r h KL := ⟨hn, hk⟩
theorem resW_nil {r : Nat → Value} {KL : List Value → Prop} (hk : KL []) : resW P [] r h KL := hk
theorem resW_imp : ∀ (rs : List ResultVar) {r : Nat → Value} {h : List AObj} {K K' : List Value → Prop}, resW P rs r h K → (∀ vs, K vs → K' vs) → resW P rs r h K'
  | [], r, h, K, K', hx, hk => hk _ hx
  | .tmp t :: rs, r, h, K, K', hx, hk => ⟨hx.1, resW_imp rs hx.2 fun vs => hk _⟩
  | .cell a t :: rs, r, h, K, K', hx, hk => by
    unfold resW at hx ⊢
    split at hx
    · obtain ⟨v, k1, k2⟩ := pin_aLoad _ hx
      exact k2 (fun v => resW P rs r h fun vs => K' (v :: vs)) (resW_imp rs k1 fun vs => hk _)
    · exact hx.elim
end
end Go.Proofs.Ythnccaajpdnndaa
namespace Go.Proofs.Ythnccaajpdnndaa
open Go.Conc Go.Proofs.Try
set_option maxRecDepth 100000
set_option maxHeartbeats 4000000
set_option linter.unusedVariables false
section
variable {main : Bool} {J : JT} {n0 : Nat} {h : List AObj} {K : Value → List AObj → Prop}
theorem at70 : prog.funcs[70]? = some f70 := by kernel_rfl
theorem body70 : f70.body = some (codeOf f70) := by kernel_rfl
theorem e70 {a0 : Value} : W prog J 72 h.length 70 (codeOf f70) (RG.mk (regs [a0]) []) h (RetQ prog [.tmp 2] h.length K) =
(aNil a0 fun v1 =>
 aOff v1 1 fun v2 =>
 aLoad false 1 v2 h fun v3 =>
 aConvI .u64 v3 fun v4 =>
 aNil a0 fun v5 =>
 aOff v5 1 fun v6 =>
 aLoad false 1 v6 h fun v7 =>
 aNil a0 fun v8 =>
 aOff v8 0 fun v9 =>
 aLoad false 1 v9 h fun v10 =>
 aLenS v10 fun v11 =>
 aBin prog .lss 3 v7 v11 fun v12 =>
 cnd v12
(aNil a0 fun v13 =>
 aOff v13 0 fun v14 =>
 aLoad false 1 v14 h fun v15 =>
 aNil a0 fun v16 =>
 aOff v16 1 fun v17 =>
 aLoad false 1 v17 h fun v18 =>
 aIdx 1 v15 v18 fun v19 =>
 aLoad false 1 v19 h fun v20 =>
 aConvI .u64 v20 fun v21 =>
 aNil a0 fun v22 =>
 aOff v22 1 fun v23 =>
 aLoad false 1 v23 h fun v24 =>
 aBin prog .add 3 v24 (vint 1) fun v25 =>
 aNil a0 fun v26 =>
 aOff v26 1 fun v27 =>
 aStore 1 v27 v25 h fun h28 =>
 aNil a0 fun v29 =>
 aOff v29 2 fun v30 =>
 aLoad false 1 v30 h28 fun v31 =>
 aBin prog .mul 83 v21 (Value.int .u64 11400714819323198485) fun v32 =>
 aBin prog .xor 83 v31 v32 fun v33 =>
 aBin prog .shl 83 v33 (Value.int .u64 13) fun v34 =>
 aBin prog .xor 83 v33 v34 fun v35 =>
 aBin prog .shr 83 v35 (Value.int .u64 7) fun v36 =>
 aBin prog .xor 83 v35 v36 fun v37 =>
 aBin prog .shl 83 v37 (Value.int .u64 17) fun v38 =>
 aBin prog .xor 83 v37 v38 fun v39 =>
 aBin prog .add 83 v39 (Value.int .u64 7146057691288625177) fun v40 =>
 aNil a0 fun v41 =>
 aOff v41 2 fun v42 =>
 aStore 1 v42 v40 h28 fun h43 =>
 aBin prog .shr 83 v39 (Value.int .u64 31) fun v44 =>
 aBin prog .xor 83 v39 v44 fun v45 =>
 aBin prog .mul 83 v45 (Value.int .u64 13787848793156543929) fun v46 =>
 aBin prog .shr 83 v46 (Value.int .u64 29) fun v47 =>
 aBin prog .xor 83 v46 v47 fun v48 =>
 aBin prog .shr 83 v48 (Value.int .u64 11) fun v49 =>
 retL h.length K [] [v49] h43)
(aNil a0 fun v50 =>
 aOff v50 1 fun v51 =>
 aLoad false 1 v51 h fun v52 =>
 aBin prog .add 3 v52 (vint 1) fun v53 =>
 aNil a0 fun v54 =>
 aOff v54 1 fun v55 =>
 aStore 1 v55 v53 h fun h56 =>
 aNil a0 fun v57 =>
 aOff v57 2 fun v58 =>
 aLoad false 1 v58 h56 fun v59 =>
 aBin prog .mul 83 v4 (Value.int .u64 11400714819323198485) fun v60 =>
 aBin prog .xor 83 v59 v60 fun v61 =>
 aBin prog .shl 83 v61 (Value.int .u64 13) fun v62 =>
 aBin prog .xor 83 v61 v62 fun v63 =>
 aBin prog .shr 83 v63 (Value.int .u64 7) fun v64 =>
 aBin prog .xor 83 v63 v64 fun v65 =>
 aBin prog .shl 83 v65 (Value.int .u64 17) fun v66 =>
 aBin prog .xor 83 v65 v66 fun v67 =>
 aBin prog .add 83 v67 (Value.int .u64 7146057691288625177) fun v68 =>
 aNil a0 fun v69 =>
 aOff v69 2 fun v70 =>
 aStore 1 v70 v68 h56 fun h71 =>
 aBin prog .shr 83 v67 (Value.int .u64 31) fun v72 =>
 aBin prog .xor 83 v67 v72 fun v73 =>
 aBin prog .mul 83 v73 (Value.int .u64 13787848793156543929) fun v74 =>
 aBin prog .shr 83 v74 (Value.int .u64 29) fun v75 =>
 aBin prog .xor 83 v74 v75 fun v76 =>
 aBin prog .shr 83 v76 (Value.int .u64 11) fun v77 =>
 retL h.length K [] [v77] h71)) := by kernel_rfl
theorem g70 (hJ : Closed prog main J) {a0 : Value} (hs : heapOk h → W prog J 72 h.length 70 (codeOf f70) (RG.mk (regs [a0]) []) h (RetQ prog [.tmp 2] h.length K)) : Good prog J 70 [a0] h K :=
  good_of_W hJ mixed at70 body70 (by kernel_rfl) (Nat.le_of_ble_eq_true rfl) hs
theorem at26 : prog.funcs[26]? = some f26 := by kernel_rfl
theorem body26 : f26.body = some (codeOf f26) := by kernel_rfl
theorem e26 {a0 a1 : Value} : W prog J 14 h.length 26 (codeOf f26) (RG.mk (regs [a0, a1]) []) h (RetQ prog [.tmp 4] h.length K) =
(aBin prog .leq 3 a1 (vint 0) fun v1 =>
 cnd v1
(retL h.length K [] [(vint 0)] h)
(Good prog J 70 [a0] h fun v2 h3 =>
 aBin prog .add 3 a1 (vint 1) fun v4 =>
 aConvI .u64 v4 fun v5 =>
 aBin prog .rem 83 v2 v5 fun v6 =>
 aConvI .i64 v6 fun v7 =>
 retL h.length K [] [v7] h3)) := by kernel_rfl
theorem g26 (hJ : Closed prog main J) {a0 a1 : Value} (hs : heapOk h → W prog J 14 h.length 26 (codeOf f26) (RG.mk (regs [a0, a1]) []) h (RetQ prog [.tmp 4] h.length K)) : Good prog J 26 [a0, a1] h K :=
  good_of_W hJ mixed at26 body26 (by kernel_rfl) (Nat.le_of_ble_eq_true rfl) hs
theorem at23 : prog.funcs[23]? = some f23 := by kernel_rfl
theorem body23 : f23.body = some (codeOf f23) := by kernel_rfl
theorem e23 {a0 a1 a2 : Value} : W prog J 14 h.length 23 (codeOf f23) (RG.mk (regs [a0, a1, a2]) []) h (RetQ prog [.tmp 6] h.length K) =
(aBin prog .sub 3 a2 a1 fun v1 =>
 Good prog J 26 [a0, v1] h fun v2 h3 =>
 aBin prog .add 3 a1 v2 fun v4 =>
 retL h.length K [] [v4] h3) := by kernel_rfl
theorem g23 (hJ : Closed prog main J) {a0 a1 a2 : Value} (hs : heapOk h → W prog J 14 h.length 23 (codeOf f23) (RG.mk (regs [a0, a1, a2]) []) h (RetQ prog [.tmp 6] h.length K)) : Good prog J 23 [a0, a1, a2] h K :=
  good_of_W hJ mixed at23 body23 (by kernel_rfl) (Nat.le_of_ble_eq_true rfl) hs
theorem at22 : prog.funcs[22]? = some f22 := by kernel_rfl
theorem body22 : f22.body = some (codeOf f22) := by kernel_rfl
theorem e22 {a0 : Value} : W prog J 6 h.length 22 (codeOf f22) (RG.mk (regs [a0]) []) h (RetQ prog [.tmp 2] h.length K) =
(aFill [(Value.slice none 0 0), (vint 0), (Value.int .u64 0)] [(0, 1, a0), (2, 1, (Value.int .u64 88172645463325252))] fun c1 =>
 aBox (Value.agg ⟨c1⟩) h fun v2 h3 =>
 retL h.length K [] [v2] h3) := by kernel_rfl
theorem g22 (hJ : Closed prog main J) {a0 : Value} (hs : heapOk h → W prog J 6 h.length 22 (codeOf f22) (RG.mk (regs [a0]) []) h (RetQ prog [.tmp 2] h.length K)) : Good prog J 22 [a0] h K :=
  good_of_W hJ mixed at22 body22 (by kernel_rfl) (Nat.le_of_ble_eq_true rfl) hs
theorem at69 : prog.funcs[69]? = some f69 := by kernel_rfl
theorem body69 : f69.body = some (codeOf f69) := by kernel_rfl
theorem e69 {a0 a1 a2 : Value} : W prog J 20 h.length 69 (codeOf f69) (RG.mk (regs [a0, a1, a2]) []) h (RetQ prog [.tmp 6] h.length K) =
(aLenS a2 fun v1 =>
 Good prog J 26 [a0, v1] h fun v2 h3 =>
 aBin prog .gtr 3 v2 (vint 0) fun v4 =>
 cnd v4
(aBin prog .sub 3 v2 (vint 1) fun v5 =>
 aIdx 1 a2 v5 fun v6 =>
 aLoad false 1 v6 h3 fun v7 =>
 retL h.length K [] [v7] h3)
(retL h.length K [] [a1] h3)) := by kernel_rfl
theorem g69 (hJ : Closed prog main J) {a0 a1 a2 : Value} (hs : heapOk h → W prog J 20 h.length 69 (codeOf f69) (RG.mk (regs [a0, a1, a2]) []) h (RetQ prog [.tmp 6] h.length K)) : Good prog J 69 [a0, a1, a2] h K :=
  good_of_W hJ mixed at69 body69 (by kernel_rfl) (Nat.le_of_ble_eq_true rfl) hs
theorem at29 : prog.funcs[29]? = some f29 := by kernel_rfl
theorem body29 : f29.body = some (codeOf f29) := by kernel_rfl
theorem e29 {a0 a1 : Value} : W prog J 26 h.length 29 (codeOf f29) (RG.mk (regs [a0, a1]) []) h (RetQ prog [.tmp 4] h.length K) =
(aLenS a0 fun v1 =>
 aLenS a1 fun v2 =>
 aBin prog .neq 3 v1 v2 fun v3 =>
 cnd v3
(retL h.length K [] [(Value.bool false)] h)
(Sem J 26 h.length 29 (subC [1, 1, 0, 1, 0] (codeOf f29)) (RG.p (RG.p (RG.p (RG.p (RG.p (RG.p (RG.p (RG.mk (regs [a0, a1]) []) 4 (Value.bool false)) 6 a0) 7 v1) 8 a1) 9 v2) 10 v3) 5 (vint 0)) h (contQ prog J 26 h.length 29 [1, 1, 0, 1, 0] (codeOf f29) [] (RetQ prog [.tmp 4] h.length K)))) := by kernel_rfl
theorem g29 (hJ : Closed prog main J) {a0 a1 : Value} (hs : heapOk h → W prog J 26 h.length 29 (codeOf f29) (RG.mk (regs [a0, a1]) []) h (RetQ prog [.tmp 4] h.length K)) : Good prog J 29 [a0, a1] h K :=
  good_of_W hJ mixed at29 body29 (by kernel_rfl) (Nat.le_of_ble_eq_true rfl) hs
theorem s29_1 {f : RG} {nx0 : RG → List AObj → Prop} : W prog J 26 n0 29 (subC [1, 1, 0, 1, 0, 0] (codeOf f29)) f h (thenK nx0 (contQ prog J 26 n0 29 [1, 1, 0, 1, 0] (codeOf f29) [] (RetQ prog [.tmp 4] n0 K))) =
(aLenS (f.r 0) fun v1 =>
 aBin prog .lss 3 (f.r 5) v1 fun v2 =>
 cnd v2
(aIdx 1 (f.r 0) (f.r 5) fun v3 =>
 aLoad false 1 v3 h fun v4 =>
 aIdx 1 (f.r 1) (f.r 5) fun v5 =>
 aLoad false 1 v5 h fun v6 =>
 aBin prog .neq 3 v4 v6 fun v7 =>
 cnd v7
(retL n0 K f.ds [(Value.bool false)] h)
(aBin prog .add 3 (f.r 5) (vint 1) fun v8 =>
 nx0 (RG.p (RG.p (RG.p (RG.p (RG.p (RG.p (RG.p (RG.p (RG.p (RG.p (RG.p (RG.p (RG.p (RG.p (RG.p (RG.p f 11 (f.r 5)) 12 (f.r 0)) 13 v1) 14 v2) 17 (f.r 0)) 18 (f.r 5)) 19 v3) 20 v4) 21 (f.r 1)) 22 (f.r 5)) 23 v5) 24 v6) 25 v7) 15 (f.r 5)) 16 v8) 5 v8) h))
(retL n0 K f.ds [(Value.bool true)] h)) := by kernel_rfl
theorem l29_1 (hJ : Closed prog main J) {S : Type} (μ : S → Nat) (I : S → RG → List AObj → Prop) (hI : ∀ s f h, I s f h → heapOk h → n0 ≤ h.length → W prog J 26 n0 29 (subC [1, 1, 0, 1, 0, 0] (codeOf f29)) f h (thenK (Nx n0 μ I s) (contQ prog J 26 n0 29 [1, 1, 0, 1, 0] (codeOf f29) [] (RetQ prog [.tmp 4] n0 K))))
  {s : S} {f : RG} (hi : Gets n0 I s f h) : Sem J 26 n0 29 (subC [1, 1, 0, 1, 0] (codeOf f29)) f h (contQ prog J 26 n0 29 [1, 1, 0, 1, 0] (codeOf f29) [] (RetQ prog [.tmp 4] n0 K)) :=
  loop_rule hJ mixed (b := subC [1, 1, 0, 1, 0, 0] (codeOf f29)) (by kernel_rfl) μ I hI hi
end
end Go.Proofs.Ythnccaajpdnndaa
namespace Go.Proofs.Ythnccaajpdnndaa
open Go.Conc Go.Proofs.Try
structure HandAt (h : List AObj) (b : Nat) (nv : Value) (nums : List Int) (k : Nat) (s : Int) : Prop where
  at_ : h[b]? = some (.cells [nv, vint k, .int .u64 s] true 0)
  list : Sli h nv 1 nums.length (nums.map vint)
  sane : nums.length < 4611686018427387904
  few : k < 4611686018427387904
  lo : 0 ≤ s
  hi : s < 18446744073709551616
section
variable {main : Bool} {J : JT} {h : List AObj} {K : Value → List AObj → Prop}
theorem nil_ok {b o : Nat} {K : Value → Prop} : aNil (ptr b o) K = K (ptr b o) := rfl
theorem off_ok {b o d : Nat} {K : Value → Prop} : aOff (ptr b o) d K = K (ptr b (o + d)) := rfl
theorem conv_u {n : Int} {K : Value → Prop} (hk : ∀ y, 0 ≤ y → y < 18446744073709551616 → K (.int .u64 y)) : aConvI .u64 (vint n) K := hk _ (wrapU _).1 (wrapU _).2
theorem u_shr11 {t : TypeId} {y : Int} (_h1 : 0 ≤ y) (_h2 : y < 18446744073709551616) {K : Value → Prop} : aBin prog .shr t (.int .u64 y) (.int .u64 11) K = K (.int .u64 (y / 2048)) := by
  have e : min (Int.toNat 11) IntKind.u64.bits = 11 := by decide
  simp only [aBin, aShift, e]
  rw [Int.fdiv_eq_ediv_of_nonneg _ (by decide)]
  simp
theorem set_twice {b : Nat} {x y : AObj} (hb : h[b]? = some x) : (h.set b y)[b]? = some y := by
  have : b < h.length := (List.getElem?_eq_some_iff.1 hb).1
  simp [this]
theorem good70 (hJ : Closed prog main J) {b : Nat} {nv : Value} {nums : List Int} {k : Nat} {s : Int} (H : HandAt h b nv nums k s)
    (hK : ∀ x s', 0 ≤ x → x < 9007199254740992 → 0 ≤ s' → s' < 18446744073709551616 → K (.int .u64 x) (h.set b (.cells [nv, vint (k + 1), .int .u64 s'] true 0))) : Good prog J 70 [ptr b 0] h K := by
  refine g70 hJ fun ok => ?_
  rw [e70]
  obtain ⟨hb, hl, hsane, hfew, hlo, hhi⟩ := H
  have hnv : kn1 nv = true := by
    obtain ⟨_, _, rfl, _⟩ := hl
    rfl
  have l0 : ∀ K, aLoad false 1 (ptr b 0) h K = K nv := fun K => load_cell hb rfl hnv
  have l1 : ∀ K, aLoad false 1 (ptr b 1) h K = K (vint k) := fun K => load_cell hb rfl rfl
  -- what stands behind the joining of the ways
  have rest : ∀ x : Int, aBin prog .add 3 (vint k) (vint 1) fun v25 =>
      aStore 1 (ptr b 1) v25 h fun h28 =>
      aLoad false 1 (ptr b 2) h28 fun v31 =>
      aBin prog .mul 83 (.int .u64 x) (Value.int .u64 11400714819323198485) fun v32 =>
      aBin prog .xor 83 v31 v32 fun v33 =>
      aBin prog .shl 83 v33 (Value.int .u64 13) fun v34 =>
      aBin prog .xor 83 v33 v34 fun v35 =>
      aBin prog .shr 83 v35 (Value.int .u64 7) fun v36 =>
      aBin prog .xor 83 v35 v36 fun v37 =>
      aBin prog .shl 83 v37 (Value.int .u64 17) fun v38 =>
      aBin prog .xor 83 v37 v38 fun v39 =>
      aBin prog .add 83 v39 (Value.int .u64 7146057691288625177) fun v40 =>
      aStore 1 (ptr b 2) v40 h28 fun h43 =>
      aBin prog .shr 83 v39 (Value.int .u64 31) fun v44 =>
      aBin prog .xor 83 v39 v44 fun v45 =>
      aBin prog .mul 83 v45 (Value.int .u64 13787848793156543929) fun v46 =>
      aBin prog .shr 83 v46 (Value.int .u64 29) fun v47 =>
      aBin prog .xor 83 v46 v47 fun v48 =>
      aBin prog .shr 83 v48 (Value.int .u64 11) fun v49 =>
      retL h.length K [] [v49] h43 := by
    intro x
    rw [b_add (by omega)]
    refine store_cell hb (by simp) rfl rfl ?_
    have hb2 : (h.set b (.cells ([nv, vint k, .int .u64 s].set 1 (vint (k + 1))) true 0))[b]? = some (.cells [nv, vint (k + 1), .int .u64 s] true 0) := set_twice hb
    rw [load_cell hb2 rfl rfl]
    refine u_mul fun y1 a1 b1 => u_xor fun y2 a2 b2 => u_shl (by omega) fun y3 a3 b3 => u_xor fun y4 a4 b4 => u_shr (by omega) a4 b4 fun y5 a5 b5 => u_xor fun y6 a6 b6 => u_shl (by omega) fun y7 a7 b7 => u_xor fun y8 a8 b8 => u_add fun y9 a9 b9 => ?_
    refine store_cell hb2 (by simp) rfl rfl ?_
    refine u_shr (by omega) a8 b8 fun z1 c1 d1 => u_xor fun z2 c2 d2 => u_mul fun z3 c3 d3 => u_shr (by omega) c3 d3 fun z4 c4 d4 => u_xor fun z5 c5 d5 => ?_
    rw [u_shr11 c5 d5]
    refine retL_same (by simp [unk]) ?_
    rw [List.set_set]
    exact hK _ _ (by omega) (by omega) a9 b9
  simp only [nil_ok, off_ok, Nat.zero_add, l0, l1]
  refine conv_u fun x0 _ _ => ?_
  simp only [sli_len hl, b_lss, cnd_dec]
  refine ⟨fun hlt => idx_load hl ⟨by omega, by omega⟩ (map_get (by simpa using hlt)) fun p => conv_u fun x1 _ _ => rest x1, fun _ => rest x0⟩
def Dealt (h : List AObj) (b : Nat) (nv : Value) (k n : Nat) (h' : List AObj) : Prop :=
  ∃ (k' : Nat) (s' : Int), k' ≤ k + n ∧ 0 ≤ s' ∧ s' < 18446744073709551616 ∧ h' = h.set b (.cells [nv, vint k', .int .u64 s'] true 0)
theorem good26 (hJ : Closed prog main J) {b : Nat} {nv : Value} {nums : List Int} {k : Nat} {s m : Int} (H : HandAt h b nv nums k s) (hm : m < 9223372036854775807)
    (hK : ∀ y h', 0 ≤ y → (y ≤ m ∨ y = 0) → Dealt h b nv k 1 h' → K (vint y) h') : Good prog J 26 [ptr b 0, vint m] h K := by
  refine g26 hJ fun ok => ?_
  rw [e26]
  simp only [b_leq, cnd_dec]
  refine ⟨fun h0 => retL_same (by simp [unk]) (hK 0 h (by omega) (.inr rfl) ⟨k, s, by omega, H.lo, H.hi, ?_⟩), fun h0 => ?_⟩
  · have hb : b < h.length := (List.getElem?_eq_some_iff.1 H.at_).1
    apply List.ext_getElem?
    intro i
    rw [List.getElem?_set]
    split
    · rename_i e
      subst e
      exact H.at_
    · rfl
  · refine good70 hJ H fun x s' hx hx2 hs hs2 => ?_
    rw [b_add (by omega)]
    have e1 : ∀ n : Int, 0 ≤ n → n < 9223372036854775808 → IntKind.u64.wrap n = n := fun n a b => by
      simp only [IntKind.wrap, IntKind.bits, IntKind.signed]
      simp
      omega
    have hmod : Int.tmod x (m + 1) = x % (m + 1) := Int.tmod_eq_emod_of_nonneg hx
    have h1 := Int.emod_nonneg x (b := m + 1) (by omega)
    have h2 := Int.emod_lt_of_pos x (b := m + 1) (by omega)
    simp only [aConvI, e1 (m + 1) (by omega) (by omega), aBin, aInt, true_and]
    rw [hmod, wrap64 (by omega) (by omega)]
    exact ⟨by omega, retL_same (by simp [unk]) (hK _ _ h1 (.inl (by omega)) ⟨k + 1, s', by omega, hs, hs2, rfl⟩)⟩
theorem good23 (hJ : Closed prog main J) {b : Nat} {nv : Value} {nums : List Int} {k : Nat} {s lo hi : Int} (H : HandAt h b nv nums k s) (h1 : -1000000000000 ≤ lo ∧ lo ≤ 1000000000000) (h2 : -1000000000000 ≤ hi ∧ hi ≤ 1000000000000)
    (hK : ∀ y h', lo ≤ y → (y ≤ hi ∨ y = lo) → Dealt h b nv k 1 h' → K (vint y) h') : Good prog J 23 [ptr b 0, vint lo, vint hi] h K := by
  refine g23 hJ fun ok => ?_
  rw [e23, b_sub (by omega)]
  refine good26 hJ H (by omega) fun y h' hy hy2 hd => ?_
  rw [b_add (by omega)]
  exact retL_same (by simp [unk]) (hK _ _ (by omega) (by omega) hd)
theorem good22 (hJ : Closed prog main J) {base : Option Addr} {n c : Nat}
    (hK : K (ptr h.length 0) (h ++ [.cells [.slice base n c, vint 0, .int .u64 88172645463325252] true 0])) : Good prog J 22 [.slice base n c] h K := by
  refine g22 hJ fun ok => ?_
  rw [e22]
  simp [aFill, aBox, wrAt, Value.cells, one]
  exact retL_same (vs := [ptr h.length 0]) (by simp [unk]) hK
theorem good69 (hJ : Closed prog main J) {b : Nat} {nv ov : Value} {nums others : List Int} {k : Nat} {s a : Int} (H : HandAt h b nv nums k s) (ho : ∀ h', Dealt h b nv k 1 h' → Sli h' ov 1 others.length (others.map vint)) (hl : others.length < 1000000)
    (hK : ∀ y h', (y = a ∨ y ∈ others) → Dealt h b nv k 1 h' → K (vint y) h') : Good prog J 69 [ptr b 0, vint a, ov] h K := by
  refine g69 hJ fun ok => ?_
  rw [e69]
  have hd0 : Dealt h b nv k 1 h := by
    refine ⟨k, s, by omega, H.lo, H.hi, ?_⟩
    apply List.ext_getElem?
    intro i
    rw [List.getElem?_set]
    split
    · rename_i e
      subst e
      have hb : b < h.length := (List.getElem?_eq_some_iff.1 H.at_).1
      rw [if_pos hb]
      exact H.at_
    · rfl
  rw [sli_len (ho h hd0)]
  refine good26 hJ H (by omega) fun y h' hy hy2 hd => ?_
  simp only [b_gtr, cnd_dec]
  refine ⟨fun hg => ?_, fun _ => retL_same (by simp [unk]) (hK _ _ (.inl rfl) hd)⟩
  rw [b_sub (by omega)]
  refine idx_load (ho h' hd) ⟨by omega, by omega⟩ (map_get (by omega)) fun p => ?_
  refine retL_same (by simp [unk]) (hK _ _ (.inr ?_) hd)
  have : (y - 1).toNat < others.length := by omega
  simp only [List.getD_eq_getElem?_getD, List.getElem?_eq_getElem this, Option.getD_some]
  exact List.getElem_mem this
end
end Go.Proofs.Ythnccaajpdnndaa
namespace Go.Proofs.Ythnccaajpdnndaa
open Go.Conc Go.Proofs.Try
section
variable {main : Bool} {J : JT} {h : List AObj} {K : Value → List AObj → Prop}
theorem good29 (hJ : Closed prog main J) {av bv : Value} {xs ys : List Int} (ha : Sli h av 1 xs.length (xs.map vint)) (hb : Sli h bv 1 ys.length (ys.map vint)) (hl : xs.length < 4611686018427387904)
    (hK : K (.bool (decide (xs = ys))) h) : Good prog J 29 [av, bv] h K := by
  refine g29 hJ fun ok => ?_
  rw [e29]
  simp only [sli_len ha, sli_len hb, b_neq, cnd_dec]
  refine ⟨fun hne => retL_same (by simp [unk]) ?_, fun heq => ?_⟩
  · have : xs ≠ ys := fun e => hne (by rw [e])
    simpa [pack, this] using hK
  · have hlen : xs.length = ys.length := by omega
    refine l29_1 hJ (fun i => xs.length - i) (fun i f h' => h' = h ∧ f.ds = [] ∧ f.r 0 = av ∧ f.r 1 = bv ∧ f.r 5 = vint (i : Nat) ∧ i ≤ xs.length ∧ xs.take i = ys.take i) ?_ (s := 0) (.inl ⟨rfl, rfl, rfl, rfl, rfl, by omega, by simp⟩)
    rintro i f h' ⟨rfl, hds, h0, h1, h5, hi, ht⟩ _ hn
    rw [s29_1]
    simp only [h0, h1, h5, hds, sli_len ha, b_lss, cnd_dec]
    refine ⟨fun hlt => ?_, fun hge => ?_⟩
    · have e1 : i < xs.length := by omega
      refine idx_load ha ⟨by omega, by omega⟩ (map_get (by omega)) fun p1 => ?_
      refine idx_load hb ⟨by omega, by omega⟩ (map_get (by omega)) fun p2 => ?_
      simp only [b_neq, cnd_dec, Int.toNat_natCast]
      refine ⟨fun hne => retL_same (by simp [unk]) ?_, fun heq => ?_⟩
      · have : xs ≠ ys := fun e => hne (by rw [e])
        simpa [pack, this] using hK
      · rw [b_add (by omega)]
        refine ⟨i + 1, by dsimp only; omega, .inl ⟨rfl, hds, h0, h1, rfl, by omega, ?_⟩⟩
        have heq : xs.getD i 0 = ys.getD i 0 := by simpa using heq
        simp only [List.getD_eq_getElem?_getD, List.getElem?_eq_getElem e1, List.getElem?_eq_getElem (show i < ys.length by omega), Option.getD_some] at heq
        rw [List.take_add_one, List.take_add_one, ht, List.getElem?_eq_getElem e1, List.getElem?_eq_getElem (show i < ys.length by omega), heq]
    · have : i = xs.length := by omega
      subst this
      rw [List.take_length, hlen, List.take_length] at ht
      refine retL_same (by simp [unk]) ?_
      simpa [pack, ht] using hK
end
end Go.Proofs.Ythnccaajpdnndaa
namespace Go.Proofs.Ythnccaajpdnndaa
open Go.Conc Go.Proofs.Try
section
variable {main : Bool} {J : JT} {h : List AObj} {K : Value → List AObj → Prop}
def HF (h : List AObj) (nv : Value) (k : Nat) (s : Int) (rest : List AObj) : List AObj := h ++ (.cells [nv, vint k, .int .u64 s] true 0 :: rest)
theorem hf_len {h : List AObj} {nv : Value} {k : Nat} {s : Int} {rest : List AObj} : (HF h nv k s rest).length = h.length + 1 + rest.length := by
  simp [HF]; omega
theorem hf_app {h : List AObj} {nv : Value} {k : Nat} {s : Int} {rest g : List AObj} : HF h nv k s rest ++ g = HF h nv k s (rest ++ g) := by
  simp [HF]
theorem hf_hand {h : List AObj} {nv : Value} {ns : List Int} {k : Nat} {s : Int} {rest : List AObj} (sn : Sli h nv 1 ns.length (ns.map vint)) (hln : ns.length < 4611686018427387904) (hk : k < 1000000) (h0 : 0 ≤ s) (h1 : s < 18446744073709551616) :
    HandAt (HF h nv k s rest) h.length nv ns k s :=
  ⟨by simp [HF], sli_app sn, hln, by omega, h0, h1⟩
theorem hf_dealt {h h' : List AObj} {nv : Value} {k n : Nat} {s : Int} {rest : List AObj} (hd : Dealt (HF h nv k s rest) h.length nv k n h') : ∃ k' s', k' ≤ k + n ∧ 0 ≤ s' ∧ s' < 18446744073709551616 ∧ h' = HF h nv k' s' rest := by
  obtain ⟨k', s', a, b, c, rfl⟩ := hd
  refine ⟨k', s', a, b, c, ?_⟩
  simp [HF]
end
end Go.Proofs.Ythnccaajpdnndaa
namespace Go.Proofs.Ythnccaajpdnndaa
open Go.Conc Go.Proofs.Try
def SliE {α : Type} (h : List AObj) (v : Value) (s : Nat) (enc : α → List Value) (xs : List α) : Prop := Sli h v s xs.length (xs.flatMap enc)
theorem flat_take {α : Type} {enc : α → List Value} {s : Nat} (hen : ∀ x, (enc x).length = s) : ∀ (xs : List α) (i : Nat) (hi : i < xs.length), ((xs.flatMap enc).drop (i * s)).take s = enc xs[i]
  | [], i, hi => by simp at hi
  | x :: xs, 0, hi => by
    simp only [List.flatMap_cons, Nat.zero_mul, List.drop_zero, List.getElem_cons_zero]
    rw [List.take_append_of_le_length (by rw [hen]; exact Nat.le_refl _), List.take_of_length_le (by rw [hen]; exact Nat.le_refl _)]
  | x :: xs, i + 1, hi => by
    simp only [List.flatMap_cons, List.getElem_cons_succ]
    have : (i + 1) * s = (enc x).length + i * s := by rw [hen, Nat.succ_mul, Nat.add_comm]
    rw [this, ← List.drop_drop, List.drop_left]
    exact flat_take hen xs i (by simpa using hi)
section
variable {h g : List AObj} {K : Value → Prop}
theorem sliE_len {α : Type} {v : Value} {s : Nat} {enc : α → List Value} {xs : List α} (hs : SliE h v s enc xs) : aLenS v K = K (vint xs.length) := sli_len hs
theorem sliE_elem {α : Type} {v : Value} {s : Nat} {enc : α → List Value} {xs : List α} (hen : ∀ x, (enc x).length = s) (hpos : 0 < s) (hs : SliE h v s enc xs) {i : Nat} (hi : i < xs.length) :
    ∃ b o cs wr sz, (∀ K : Value → Prop, K (ptr b o) → aIdx s v (vint i) K) ∧ h[b]? = some (.cells cs wr sz) ∧ o + s ≤ cs.length ∧ (cs.drop o).take s = enc xs[i] ∧ kn (enc xs[i]) = true := by
  obtain ⟨base, c, rfl, ⟨hl, hkn⟩, hc⟩ := hs
  have hft := flat_take hen xs i hi
  have hmul : (i + 1) * s ≤ xs.length * s := Nat.mul_le_mul_right s (by omega)
  have hsucc : (i + 1) * s = i * s + s := Nat.succ_mul i s
  rcases hc with ⟨_, h0⟩ | ⟨b, o, rfl, h0 | ⟨cs, wr, sz, hb, hx⟩⟩
  · omega
  · omega
  · rw [← hx] at hl hft
    simp only [List.length_take, List.length_drop] at hl
    refine ⟨b, o + i * s, cs, wr, sz, fun K hK => ?_, hb, by omega, ?_, ?_⟩
    · rw [idx_ok]
      exact ⟨⟨by omega, by omega⟩, by simpa using hK⟩
    · rw [← hft, List.drop_take, List.drop_drop, List.take_take]
      congr 1
      omega
    · have : kn ((xs.flatMap enc).drop (i * s)) = true := by
        unfold kn at hkn ⊢
        rw [List.all_eq_true] at hkn ⊢
        exact fun y hy => hkn y (List.mem_of_mem_drop hy)
      rw [← flat_take hen xs i hi]
      unfold kn at this ⊢
      rw [List.all_eq_true] at this ⊢
      exact fun y hy => this y (List.mem_of_mem_take hy)
end
end Go.Proofs.Ythnccaajpdnndaa
namespace Go.Proofs.Ythnccaajpdnndaa
open Go.Conc Go.Proofs.Try
set_option maxRecDepth 100000
section
variable {main : Bool} {J : JT} {h A g : List AObj} {K : Value → List AObj → Prop} {KV : Value → Prop} {HL : List AObj → Prop} {H : Value → List AObj → Prop}
theorem a_min {a b : Int} : aMin (vint a) [vint b] KV = KV (vint (min a b)) := by
  show KV (vint (if b < a then b else a)) = _
  congr 2
  split <;> omega
theorem a_max {a b : Int} : aMax (vint a) [vint b] KV = KV (vint (max a b)) := by
  show KV (vint (if b > a then b else a)) = _
  congr 2
  split <;> omega
theorem back_get {i : Nat} : (A ++ g)[A.length + i]? = g[i]? := by
  rw [List.getElem?_append_right (by omega)]
  congr 1
  omega
theorem back_set {i : Nat} {o : AObj} : (A ++ g).set (A.length + i) o = A ++ g.set i o := by
  rw [List.set_append_right _ _ (by omega)]
  congr 2
  omega
def OwnE (n : Nat) (g : List AObj) (s : Nat) (cs : List Value) (len : Nat) (v : Value) (o : Option Nat) : Prop :=
  cs.length = len * s ∧ kn cs = true ∧ ((len = 0 ∧ v = .slice none 0 0 ∧ o = none) ∨ ∃ i c sz, o = some i ∧ v = .slice (some ⟨n + i, 0, none⟩) len c ∧ g[i]? = some (.cells cs true sz) ∧ ((c = fz ∧ sz = s) ∨ c = len))
theorem get_app {i : Nat} {x : AObj} {g' : List AObj} (hx : g[i]? = some x) : (g ++ g')[i]? = some x := by
  rw [List.getElem?_append_left (List.getElem?_eq_some_iff.1 hx).1]
  exact hx
theorem get_set {i j : Nat} {x y : AObj} (hx : g[i]? = some x) (hij : i ≠ j) : (g.set j y)[i]? = some x := by
  rw [List.getElem?_set, if_neg (fun e => hij e.symm)]
  exact hx
theorem ownE_at {n s len : Nat} {cs : List Value} {v : Value} {i : Nat} (ho : OwnE n g s cs len v (some i)) : ∃ sz, g[i]? = some (.cells cs true sz) := by
  obtain ⟨_, _, ⟨_, _, h⟩ | ⟨j, c, sz, h, _, h5, _⟩⟩ := ho
  · cases h
  · cases h
    exact ⟨sz, h5⟩
theorem ownE_lt {n s len : Nat} {cs : List Value} {v : Value} {o : Option Nat} (ho : OwnE n g s cs len v o) {i : Nat} (hi : o = some i) : i < g.length := by
  subst hi
  obtain ⟨sz, h⟩ := ownE_at ho
  exact (List.getElem?_eq_some_iff.1 h).1
theorem ownE_sli {s len : Nat} {cs : List Value} {v : Value} {o : Option Nat} (ho : OwnE A.length g s cs len v o) : Sli (A ++ g) v s len cs := by
  obtain ⟨h1, h2, ⟨rfl, rfl, _⟩ | ⟨i, c, sz, rfl, rfl, h5, _⟩⟩ := ho
  · have : cs = [] := List.length_eq_zero_iff.1 (by omega)
    subst this
    exact sli_nil
  · refine ⟨_, _, rfl, ⟨h1, h2⟩, .inr ⟨_, _, rfl, .inr ⟨cs, true, sz, ?_, by rw [List.drop_zero, List.take_of_length_le (by omega)]⟩⟩⟩
    rw [back_get]
    exact h5
theorem ownE_val {n s len : Nat} {cs : List Value} {v : Value} {o : Option Nat} (ho : OwnE n g s cs len v o) : v.cells = #[v] ∧ one v = true ∧ kn1 v = true := by
  obtain ⟨_, _, ⟨_, rfl, _⟩ | ⟨_, _, _, _, rfl, _⟩⟩ := ho <;> exact ⟨rfl, rfl, rfl⟩
theorem ownE_more {s len : Nat} {cs e : List Value} {v y : Value} {o : Option Nat} (ho : OwnE A.length g s cs len v o) (hs : 0 < s) (hl : len < 100000) (hy : Sli (A ++ g) y s 1 e)
    (hk : ∀ v' g', OwnE A.length g' s (cs ++ e) (len + 1) v' (some g.length) → (∀ i x, o ≠ some i → g[i]? = some x → g'[i]? = some x) → H v' (A ++ g')) : aApp s v y (A ++ g) H := by
  have hr : room = 1073741824 := rfl
  have hel : e.length = s := by
    have := sli_vlen hy
    omega
  have hek : kn e = true := by
    obtain ⟨_, _, _, ⟨_, h⟩, _⟩ := hy
    exact h
  have new : ∀ g1 : List AObj, g1.length = g.length → (∀ i x, o ≠ some i → g[i]? = some x → g1[i]? = some x) → cs.length = len * s → kn cs = true → H (.slice (some ⟨(A ++ g).length, 0, none⟩) (len + 1) fz) (A ++ (g1 ++ [.cells (cs ++ e) true s])) := by
    intro g1 hg1 hkeep h1 h2
    refine hk _ _ ⟨?_, ?_, .inr ⟨g.length, fz, s, rfl, by simp, by simp [← hg1], .inl ⟨rfl, rfl⟩⟩⟩ fun j x hj hx => get_app (hkeep j x hj hx)
    · rw [List.length_append, hel, h1, Nat.succ_mul]
    · unfold kn at *
      rw [List.all_append, h2, hek]
      rfl
  obtain ⟨h1, h2, ⟨rfl, rfl, rfl⟩ | ⟨i, c, sz, rfl, rfl, h5, h6⟩⟩ := ho
  · have hcs : cs = [] := List.length_eq_zero_iff.1 (by omega)
    subst hcs
    refine app_nil hs hy (by omega) (fun e => absurd e (by omega)) fun _ => ?_
    rw [List.append_assoc]
    exact new g rfl (fun _ _ _ hx => hx) h1 h2
  · have hlt := (List.getElem?_eq_some_iff.1 h5).1
    have ht : cs.take (len * s) = cs := List.take_of_length_le (by omega)
    rcases h6 with ⟨rfl, rfl⟩ | rfl
    · refine app_own (cs := cs) (by rw [back_get]; exact h5) (by omega) (by rw [ht]; exact h2) hs hy (by omega) ?_
      rw [back_set, List.append_assoc, ht]
      exact new _ (by simp) (fun j x hj hx => get_set hx fun e => hj (by rw [e])) h1 h2
    · refine app_copy (cs := cs) (by rw [back_get]; exact h5) (by omega) (by rw [List.drop_zero, ht]; exact h2) (by omega) hs hy (by omega) ?_
      rw [List.append_assoc, List.drop_zero, ht]
      exact new g rfl (fun _ _ _ hx => hx) h1 h2
theorem hfa {nv : Value} {k : Nat} {s : Int} {rest : List AObj} (hs : 0 ≤ s ∧ s < 18446744073709551616) (hk : k < 1000000) {ns : List Int} (sn : Sli h nv 1 ns.length (ns.map vint)) (hln : ns.length < 4611686018427387904) : HandAt (HF h nv k s rest ++ g) h.length nv ns k s := by
  rw [hf_app]
  exact hf_hand sn hln hk hs.1 hs.2
theorem hfd {nv : Value} {k n : Nat} {s : Int} {rest h' : List AObj} (hd : Dealt (HF h nv k s rest ++ g) h.length nv k n h') : ∃ k' s', k' ≤ k + n ∧ (0 ≤ s' ∧ s' < 18446744073709551616) ∧ h' = HF h nv k' s' rest ++ g := by
  rw [hf_app] at hd
  obtain ⟨k', s', a, b, c, rfl⟩ := hf_dealt hd
  exact ⟨k', s', a, ⟨b, c⟩, by rw [hf_app]⟩
structure Hnd (h : List AObj) (nv : Value) (ns : List Int) : Prop where
  list : Sli h nv 1 ns.length (ns.map vint)
  sane : ns.length < 4611686018427387904
variable {nv : Value} {ns : List Int} {rest : List AObj} {k : Nat} {s : Int}
section
variable {KV : Value → Prop} {a b : Int} {t : TypeId} {h : List AObj}
theorem offI {b o d : Nat} (hk : KV (ptr b (o + d))) : aOff (ptr b o) d KV := hk
theorem fillI {c : List Value} {KL : List Value → Prop} (hk : KL c) : aFill c [] KL := hk
theorem nilI {b o : Nat} (hk : KV (ptr b o)) : aNil (ptr b o) KV := hk
theorem addI (h : -9223372036854775808 ≤ a + b ∧ a + b < 9223372036854775808) (hk : KV (vint (a + b))) : aBin prog .add t (vint a) (vint b) KV := by rw [b_add h]; exact hk
theorem subI (h : -9223372036854775808 ≤ a - b ∧ a - b < 9223372036854775808) (hk : KV (vint (a - b))) : aBin prog .sub t (vint a) (vint b) KV := by rw [b_sub h]; exact hk
theorem minI (hk : KV (vint (min a b))) : aMin (vint a) [vint b] KV := by rw [a_min]; exact hk
theorem maxI (hk : KV (vint (max a b))) : aMax (vint a) [vint b] KV := by rw [a_max]; exact hk
theorem lssI (hk : KV (.bool (decide (a < b)))) : aBin prog .lss t (vint a) (vint b) KV := by rw [b_lss]; exact hk
theorem gtrI (hk : KV (.bool (decide (a > b)))) : aBin prog .gtr t (vint a) (vint b) KV := by rw [b_gtr]; exact hk
theorem geqI (hk : KV (.bool (decide (a ≥ b)))) : aBin prog .geq t (vint a) (vint b) KV := by rw [b_geq]; exact hk
theorem leqI (hk : KV (.bool (decide (a ≤ b)))) : aBin prog .leq t (vint a) (vint b) KV := by rw [b_leq]; exact hk
theorem eqlI (hk : KV (.bool (decide (a = b)))) : aBin prog .eql t (vint a) (vint b) KV := by rw [b_eql]; exact hk
theorem neqI (hk : KV (.bool (decide (a ≠ b)))) : aBin prog .neq t (vint a) (vint b) KV := by rw [b_neq]; exact hk
theorem notI {x : Bool} (hk : KV (.bool (!x))) : aUn .not (.bool x) KV := hk
theorem cndI {p : Prop} [Decidable p] {A B : Prop} (h1 : p → A) (h2 : ¬ p → B) : cnd (.bool (decide p)) A B := cnd_dec.2 ⟨h1, h2⟩
theorem cndN {p : Prop} [Decidable p] {A B : Prop} (h1 : ¬ p → A) (h2 : p → B) : cnd (.bool (!decide p)) A B := cnd_ndec.2 ⟨h1, h2⟩
theorem lenI {v : Value} {s n : Nat} {cells : List Value} (hs : Sli h v s n cells) (hk : KV (vint n)) : aLenS v KV := by rw [sli_len hs]; exact hk
theorem ldI {b o s : Nat} {c : List Value} {wr : Bool} {sz : Nat} {v : Value} (hb : h[b]? = some (.cells c wr sz)) (hv : c[o]? = some v) (hn : kn1 v = true) (hk : KV v) : aLoad false s (ptr b o) h KV := by rw [load_cell hb hv hn]; exact hk
theorem idxI {s b o n c : Nat} {j : Int} (h1 : 0 ≤ j ∧ j < n) (hk : KV (ptr b (o + j.toNat * s))) : aIdx s (.slice (some ⟨b, o, none⟩) n c) (vint j) KV := by rw [idx_ok]; exact ⟨h1, hk⟩
theorem ext0 {a b : Value} (hk : KV a) : aExt (.tuple ⟨[a, b]⟩) 0 KV := hk
theorem ext1 {a b : Value} (hk : KV b) : aExt (.tuple ⟨[a, b]⟩) 1 KV := hk
theorem ext30 {a b c : Value} (hk : KV a) : aExt (.tuple ⟨[a, b, c]⟩) 0 KV := hk
theorem ext31 {a b c : Value} (hk : KV b) : aExt (.tuple ⟨[a, b, c]⟩) 1 KV := hk
theorem ext32 {a b c : Value} (hk : KV c) : aExt (.tuple ⟨[a, b, c]⟩) 2 KV := hk
end
theorem up (hJ : Closed prog main J) (hn : Hnd h nv ns) (hs : 0 ≤ s ∧ s < 18446744073709551616) (hk : k < 1000000) {m : Int} (hm : m < 1000000)
    (hK : ∀ y k' s', 0 ≤ y → (y ≤ m ∨ y = 0) → k' ≤ k + 1 → (0 ≤ s' ∧ s' < 18446744073709551616) → K (vint y) (HF h nv k' s' rest ++ g)) : Good prog J 26 [ptr h.length 0, vint m] (HF h nv k s rest ++ g) K := by
  refine good26 hJ (hfa hs hk hn.list hn.sane) (by omega) fun y h1 a b hd => ?_
  obtain ⟨k', s', c, d, rfl⟩ := hfd hd
  exact hK y k' s' a b c d
theorem amo (hJ : Closed prog main J) (hn : Hnd h nv ns) (hs : 0 ≤ s ∧ s < 18446744073709551616) (hk : k < 1000000) {lo hi : Int} (h1 : -1000000 ≤ lo ∧ lo ≤ 1000000) (h2 : -1000000 ≤ hi ∧ hi ≤ 1000000)
    (hK : ∀ y k' s', lo ≤ y → (y ≤ hi ∨ y = lo) → k' ≤ k + 1 → (0 ≤ s' ∧ s' < 18446744073709551616) → K (vint y) (HF h nv k' s' rest ++ g)) : Good prog J 23 [ptr h.length 0, vint lo, vint hi] (HF h nv k s rest ++ g) K := by
  refine good23 hJ (hfa hs hk hn.list hn.sane) (by omega) (by omega) fun y h1 a b hd => ?_
  obtain ⟨k', s', c, d, rfl⟩ := hfd hd
  exact hK y k' s' a b c d
end
end Go.Proofs.Ythnccaajpdnndaa
namespace Go.Proofs.Ythnccaajpdnndaa
open Go.Conc Go.Proofs.Try
set_option maxRecDepth 100000
def SameX (X : List Nat) (h H : List AObj) : Prop := h.length ≤ H.length ∧ ∀ i, i < h.length → i ∉ X → H[i]? = h[i]?
theorem SameX.refl {X : List Nat} {h : List AObj} : SameX X h h := ⟨Nat.le_refl _, fun _ _ _ => rfl⟩
theorem SameX.trans {X : List Nat} {h H H' : List AObj} (a : SameX X h H) (b : SameX X H H') : SameX X h H' :=
  ⟨Nat.le_trans a.1 b.1, fun i hi hx => by rw [b.2 i (Nat.lt_of_lt_of_le hi a.1) hx, a.2 i hi hx]⟩
theorem SameX.app {X : List Nat} {h H g : List AObj} (a : SameX X h H) : SameX X h (H ++ g) :=
  ⟨by have := a.1; simp; omega, fun i hi hx => by rw [List.getElem?_append_left (Nat.lt_of_lt_of_le hi a.1), a.2 i hi hx]⟩
theorem SameX.set {X : List Nat} {h H : List AObj} {i : Nat} {o : AObj} (a : SameX X h H) (hi : i ∈ X ∨ h.length ≤ i) : SameX X h (H.set i o) :=
  ⟨by have := a.1; simp; omega, fun j hj hx => by
    rw [List.getElem?_set, if_neg, a.2 j hj hx]
    rintro rfl
    rcases hi with hi | hi
    · exact hx hi
    · omega⟩
theorem SameX.get {X : List Nat} {h H : List AObj} {i : Nat} {o : AObj} (a : SameX X h H) (hx : h[i]? = some o) (hi : i ∉ X) : H[i]? = some o := by
  rw [a.2 i (List.getElem?_eq_some_iff.1 hx).1 hi, hx]
theorem SameX.pre {X : List Nat} {h0 g H : List AObj} (a : SameX X (h0 ++ g) H) (hX : ∀ x ∈ X, h0.length ≤ x) : ∃ g', H = h0 ++ g' := by
  refine ⟨H.drop h0.length, ?_⟩
  have : H.take h0.length = h0 := by
    apply List.ext_getElem?
    intro i
    rw [List.getElem?_take]
    split
    · rename_i hi
      rw [a.2 i (by simp; omega) (fun hx => by have := hX i hx; omega), List.getElem?_append_left hi]
    · rename_i hi
      rw [List.getElem?_eq_none (by omega)]
  conv => lhs; rw [← List.take_append_drop h0.length H, this]
end Go.Proofs.Ythnccaajpdnndaa
namespace Go.Proofs.Ythnccaajpdnndaa
open Go.Conc Go.Proofs.Try
set_option maxRecDepth 100000
def OwnX (H : List AObj) (s : Nat) (cs : List Value) (len : Nat) (v : Value) (o : Option Nat) : Prop :=
  cs.length = len * s ∧ kn cs = true ∧ ((len = 0 ∧ v = .slice none 0 0 ∧ o = none) ∨ ∃ i c sz, o = some i ∧ v = .slice (some ⟨i, 0, none⟩) len c ∧ H[i]? = some (.cells cs true sz) ∧ ((c = fz ∧ sz = s) ∨ c = len))
section
variable {h H : List AObj} {K : Value → List AObj → Prop} {KV : Value → Prop} {HL : List AObj → Prop} {n0 : Nat}
theorem SameX.weak {X Y : List Nat} {h H : List AObj} (a : SameX X h H) (hxy : ∀ x ∈ X, x ∈ Y) : SameX Y h H := ⟨a.1, fun i hi hx => a.2 i hi fun hm => hx (hxy i hm)⟩
theorem SameX.weak0 {Y : List Nat} {h H : List AObj} (a : SameX [] h H) : SameX Y h H := a.weak (by simp)
theorem SameX.thru {X Y : List Nat} {h H H' : List AObj} (a : SameX X h H) (b : SameX Y H H') (hy : ∀ y ∈ Y, y ∈ X ∨ h.length ≤ y) : SameX X h H' :=
  ⟨Nat.le_trans a.1 b.1, fun i hi hx => by
    rw [b.2 i (Nat.lt_of_lt_of_le hi a.1) fun hm => ?_, a.2 i hi hx]
    rcases hy i hm with h1 | h1
    · exact hx h1
    · omega⟩
theorem SameX.app0 {X : List Nat} {h H : List AObj} (a : SameX X h H) (hX : ∀ x ∈ X, h.length ≤ x) : ∃ g, H = h ++ g := by
  have := SameX.pre (h0 := h) (g := []) (X := X) (H := H) (by simpa using a) hX
  exact this
theorem lt_of_get {i : Nat} {o : AObj} (hx : H[i]? = some o) : i < H.length := (List.getElem?_eq_some_iff.1 hx).1
theorem SameX.sli {X : List Nat} {v : Value} {s n : Nat} {cs : List Value} (a : SameX X h H) (hs : Sli h v s n cs) (hX : ∀ x ∈ X, h.length ≤ x) : Sli H v s n cs := by
  obtain ⟨g, rfl⟩ := a.app0 hX
  exact sli_app hs
theorem qAl {l : List Value} (hk : ∀ H' p, p = H.length → SameX [] H H' → H'[p]? = some (.cells l true 0) → H'.length = p + 1 → K (ptr p 0) H') : aAlloc l H K :=
  hk _ _ rfl SameX.refl.app (by simp) (by simp)
theorem qBox {l : List Value} (h1 : l.all one = true) (hk : ∀ H' p, p = H.length → SameX [] H H' → H'[p]? = some (.cells l true 0) → H'.length = p + 1 → K (ptr p 0) H') : aBox (.agg ⟨l⟩) H K :=
  box_agg h1 (hk _ _ rfl SameX.refl.app (by simp) (by simp))
theorem qBox1 {v : Value} (hc : v.cells = #[v]) (h1 : one v = true) (hk : ∀ H' p, p = H.length → SameX [] H H' → H'[p]? = some (.cells [v] true 0) → H'.length = p + 1 → K (ptr p 0) H') : aBox v H K :=
  box_one hc h1 (hk _ _ rfl SameX.refl.app (by simp) (by simp))
theorem qNew {n : Nat} {l : List Value} (hk : ∀ H' p, p = H.length → SameX [] H H' → H'[p]? = some (.cells l true 0) → H'.length = p + 1 → K (.slice (some ⟨p, 0, none⟩) n n) H') : aNewS n l H K :=
  hk _ _ rfl SameX.refl.app (by simp) (by simp)
theorem qNewM (hk : ∀ H' p, p = H.length → SameX [] H H' → H'[p]? = some (.map [] true) → H'.length = p + 1 → K (.map (some p)) H') : aNewM H K :=
  hk _ _ rfl SameX.refl.app (by simp) (by simp)
theorem qSt {b o : Nat} {c : List Value} {sz : Nat} {v : Value} (hb : H[b]? = some (.cells c true sz)) (ho : o < c.length) (h1 : v.cells = #[v]) (h2 : one v = true) (hk : ∀ H', SameX [b] H H' → H'[b]? = some (.cells (c.set o v) true sz) → H'.length = H.length → HL H') : aStore 1 (ptr b o) v H HL :=
  store_cell hb ho h1 h2 (hk _ (SameX.refl.set (.inl (by simp))) (List.getElem?_set_self (lt_of_get hb)) (by simp))
theorem qStA {b n : Nat} {cs c : List Value} {sz : Nat} (hb : H[b]? = some (.cells cs true sz)) (hl : c.length = n) (hs : cs.length = n) (h1 : c.all one = true) (hk : ∀ H', SameX [b] H H' → H'[b]? = some (.cells c true sz) → H'.length = H.length → HL H') : aStore n (ptr b 0) (.agg ⟨c⟩) H HL :=
  store_agg hb hl hs h1 (hk _ (SameX.refl.set (.inl (by simp))) (List.getElem?_set_self (lt_of_get hb)) (by simp))
theorem ownX_iff {s len : Nat} {cs : List Value} {v : Value} {o : Option Nat} : OwnX H s cs len v o ↔ OwnE 0 H s cs len v o := by
  simp [OwnX, OwnE]
theorem ownX_keep {s len : Nat} {cs : List Value} {v : Value} {o : Option Nat} {H' : List AObj} {X : List Nat} (ho : OwnX H s cs len v o) (a : SameX X H H') (hX : ∀ i, o = some i → i ∉ X) : OwnX H' s cs len v o := by
  obtain ⟨h1, h2, h3 | ⟨i, c, sz, rfl, h4, h5, h6⟩⟩ := ho
  · exact ⟨h1, h2, .inl h3⟩
  · exact ⟨h1, h2, .inr ⟨i, c, sz, rfl, h4, a.get h5 (hX i rfl), h6⟩⟩
theorem ownX_sli {s len : Nat} {cs : List Value} {v : Value} {o : Option Nat} (ho : OwnX H s cs len v o) : Sli H v s len cs := by
  have := ownE_sli (A := []) (ownX_iff.1 ho)
  exact this
theorem ownX_val {s len : Nat} {cs : List Value} {v : Value} {o : Option Nat} (ho : OwnX H s cs len v o) : v.cells = #[v] ∧ one v = true ∧ kn1 v = true := ownE_val (ownX_iff.1 ho)
theorem ownX_lt {s len : Nat} {cs : List Value} {v : Value} {o : Option Nat} (ho : OwnX H s cs len v o) : ∀ i, o = some i → i < H.length := fun _ hi => ownE_lt (ownX_iff.1 ho) hi
theorem ownX_new {s n p : Nat} {l : List Value} (hp : H[p]? = some (.cells l true 0)) (hl : l.length = n * s) (hk : kn l = true) : OwnX H s l n (.slice (some ⟨p, 0, none⟩) n n) (some p) :=
  ⟨hl, hk, .inr ⟨p, n, 0, rfl, rfl, hp, .inr rfl⟩⟩
theorem ownX_more {s len : Nat} {cs e : List Value} {v y : Value} {o : Option Nat} (ho : OwnX H s cs len v o) (hs : 0 < s) (hl : len < 100000) (hy : Sli H y s 1 e)
    (hk : ∀ v' H' p, p = H.length → OwnX H' s (cs ++ e) (len + 1) v' (some p) → SameX o.toList H H' → K v' H') : aApp s v y H K := by
  have hlo := ownX_lt ho
  refine ownE_more (A := []) (g := H) (ownX_iff.1 ho) hs hl hy fun v' g' ho' hkeep => hk v' ([] ++ g') _ rfl (ownX_iff.2 ho') ⟨?_, fun i hi hx => ?_⟩
  · have := ownE_lt ho' rfl
    simp only [List.nil_append]
    omega
  · have hx' : o ≠ some i := fun e => hx (by rw [e]; simp)
    obtain ⟨x, hxx⟩ : ∃ x, H[i]? = some x := ⟨H[i], List.getElem?_eq_getElem hi⟩
    rw [hxx]
    exact hkeep i x hx' hxx
theorem retX {X : List Nat} {vs : List Value} (ok : heapOk h) (hn : n0 ≤ h.length) (S : SameX X h H) (hX : ∀ x ∈ X, h.length ≤ x) (hv : ∀ v ∈ vs, v ≠ unk) (hw : VOk h.length (pack vs)) (hk : K (pack vs) h) : retL n0 K [] vs H := by
  obtain ⟨g, rfl⟩ := S.app0 hX
  exact retL_drop ok hn hv hw hk
end
end Go.Proofs.Ythnccaajpdnndaa
namespace Go.Proofs.Ythnccaajpdnndaa
open Go.Conc Go.Proofs.Try
set_option maxRecDepth 100000
def HX (h H : List AObj) (ns : List Int) (k : Nat) : Prop := ∃ nv k' s rest, H = HF h nv k' s rest ∧ k' ≤ k ∧ (0 ≤ s ∧ s < 18446744073709551616) ∧ Hnd h nv ns
section
variable {main : Bool} {J : JT} {h H : List AObj} {K : Value → List AObj → Prop} {ns : List Int} {k : Nat}
theorem HX.mono {k' : Nat} (a : HX h H ns k) (hk : k ≤ k') : HX h H ns k' := by
  obtain ⟨nv, k1, s, rest, e, h1, h2, h3⟩ := a
  exact ⟨nv, k1, s, rest, e, by omega, h2, h3⟩
theorem HX.pre (a : HX h H ns k) : SameX [] h H := by
  obtain ⟨nv, k1, s, rest, rfl, _⟩ := a
  exact SameX.refl.app
theorem HX.same {X : List Nat} {H' : List AObj} (a : HX h H ns k) (S : SameX X H H') (hX : ∀ x ∈ X, h.length < x) : HX h H' ns k := by
  obtain ⟨nv, k1, s, rest, rfl, h1, h2, h3⟩ := a
  have e : HF h nv k1 s rest = (h ++ [.cells [nv, vint k1, .int .u64 s] true 0]) ++ rest := by simp [HF]
  rw [e] at S
  obtain ⟨g, hg⟩ := S.pre (fun x hx => by have := hX x hx; simp; omega)
  exact ⟨nv, k1, s, g, by rw [hg]; simp [HF], h1, h2, h3⟩
theorem hf_same {nv : Value} {k1 k2 : Nat} {s1 s2 : Int} {rest g : List AObj} : SameX [h.length] (HF h nv k1 s1 rest) (HF h nv k2 s2 rest ++ g) := by
  refine ⟨by rw [hf_app, hf_len, hf_len]; simp, fun i hi hx => ?_⟩
  simp at hx
  rw [List.getElem?_append_left (by rw [hf_len] at hi ⊢; omega)]
  unfold HF
  rcases Nat.lt_or_ge i h.length with x | x
  · rw [List.getElem?_append_left x, List.getElem?_append_left x]
  · rw [List.getElem?_append_right x, List.getElem?_append_right x]
    obtain ⟨j, hj⟩ : ∃ j, i - h.length = j + 1 := ⟨i - h.length - 1, by omega⟩
    rw [hj]
    rfl
theorem newX (hJ : Closed prog main J) {nv : Value} (sn : Sli h nv 1 ns.length (ns.map vint)) (hln : ns.length < 4611686018427387904)
    (hK : ∀ H, HX h H ns 0 → K (ptr h.length 0) H) : Good prog J 22 [nv] h K := by
  obtain ⟨nb, nc, hnv, _⟩ := id sn
  subst hnv
  exact good22 hJ (hK _ ⟨_, 0, 88172645463325252, [], rfl, Nat.le_refl _, by omega, ⟨sn, hln⟩⟩)
theorem upX (hJ : Closed prog main J) (a : HX h H ns k) (hk : k < 1000000) {m : Int} (hm : m < 1000000)
    (hK : ∀ y H', 0 ≤ y → (y ≤ m ∨ y = 0) → SameX [h.length] H H' → H'.length = H.length → HX h H' ns (k + 1) → K (vint y) H') : Good prog J 26 [ptr h.length 0, vint m] H K := by
  obtain ⟨nv, k1, s, rest, rfl, h1, h2, h3⟩ := a
  have := up (k := k1) (g := []) (rest := rest) (K := K) hJ h3 h2 (by omega) hm fun y k' s' a1 a2 a3 a4 => hK y _ a1 a2 hf_same (by simp [hf_len]) ⟨nv, k', s', rest, by simp, by omega, a4, h3⟩
  simpa using this
theorem amX (hJ : Closed prog main J) (a : HX h H ns k) (hk : k < 1000000) {lo hi : Int} (h1 : -1000000 ≤ lo ∧ lo ≤ 1000000) (h2 : -1000000 ≤ hi ∧ hi ≤ 1000000)
    (hK : ∀ y H', lo ≤ y → (y ≤ hi ∨ y = lo) → SameX [h.length] H H' → H'.length = H.length → HX h H' ns (k + 1) → K (vint y) H') : Good prog J 23 [ptr h.length 0, vint lo, vint hi] H K := by
  obtain ⟨nv, k1, s, rest, rfl, b1, b2, b3⟩ := a
  have := amo (k := k1) (g := []) (rest := rest) (K := K) hJ b3 b2 (by omega) h1 h2 fun y k' s' a1 a2 a3 a4 => hK y _ a1 a2 hf_same (by simp [hf_len]) ⟨nv, k', s', rest, by simp, by omega, a4, b3⟩
  simpa using this
end
end Go.Proofs.Ythnccaajpdnndaa
namespace Go.Proofs.Ythnccaajpdnndaa
open Go.Conc Go.Proofs.Try
set_option maxRecDepth 100000
end Go.Proofs.Ythnccaajpdnndaa
namespace Go.Proofs.Ythnccaajpdnndaa
open Go.Conc Go.Proofs.Try
set_option maxRecDepth 100000
section
variable {main : Bool} {J : JT} {h H : List AObj} {K : Value → List AObj → Prop} {KV : Value → Prop} {HL : List AObj → Prop} {n0 : Nat}
theorem knV (l : List Int) : kn (l.map vint) = true := by
  simp [kn, kn1]
theorem sliN {v : Value} {xs : List Int} (hs : Sli h v 1 xs.length (xs.map vint)) {i : Nat} {x : Int} (hx : xs[i]? = some x) {K2 : Value → Value → Prop} (hK : ∀ p, K2 p (vint x)) : aIdx 1 v (vint (i : Nat)) fun p => aLoad false 1 p h (K2 p) := by
  have hi := (List.getElem?_eq_some_iff.1 hx).1
  exact idx_load hs ⟨by omega, by omega⟩ (by rw [Int.toNat_natCast, List.getElem?_map, hx]; rfl) hK
theorem fillO {m : List Value} {o s : Nat} {v : Value} {l : List Value} {ps : List (Nat × Nat × Value)} {KL : List Value → Prop} (hv : v.cells.toList = l) (hs : l.length = s) (ho : l.all one = true) (hl : o + s ≤ m.length) (hk : aFill (wrAt m o l) ps KL) : aFill m ((o, s, v) :: ps) KL := by
  subst hv
  exact ⟨hs, ho, hl, hk⟩
theorem retQs {n0 : Nat} {rs : List ResultVar} {f : RG} (ds : f.ds = []) (hr : resW prog rs f.r h fun vs => K (pack vs) h) : RetQ prog rs n0 K .ret f h := by
  unfold RetQ
  rw [ds]
  exact resW_imp rs hr fun vs hk => .inl hk
theorem nu2 {a b : Value} (ha : a ≠ unk) (hb : b ≠ unk) : ∀ v ∈ [a, b], v ≠ unk := by
  intro v hv
  simp only [List.mem_cons, List.not_mem_nil, or_false] at hv
  rcases hv with rfl | rfl <;> assumption
theorem cndB {b : Bool} {A B : Prop} (h1 : b = true → A) (h2 : b = false → B) : cnd (.bool b) A B := by
  cases b
  · exact cnd_false.2 (h2 rfl)
  · exact cnd_true.2 (h1 rfl)
theorem callCz {g : FuncId} {args cap : List Value} (hg : Nat.blt g prog.funcs.size = true) (hk : Good prog J g (args ++ cap) H K) : callV prog (Good prog J) (.func (.func g) ⟨[]⟩ ⟨cap⟩) args H K := by
  show (bif Nat.blt g prog.funcs.size then Good prog J g ([] ++ args ++ cap) H K else False)
  rw [hg, cond_true, List.nil_append]
  exact hk
theorem retLdef {n0 n : Nat} {vs : List Value} (hd : h[n]? = some .deferred) (hv : ∀ v ∈ vs, v ≠ unk) (hk : K (pack vs) (h.set n .dead)) : retL n0 K [n] vs h := by
  have := retL_same (n0 := n0) (H := K) hv hk
  unfold retL at *
  exact ⟨hd, this⟩
theorem appIn {b k m : Nat} {cs : List Value} {v y : Value} (hb : H[b]? = some (.cells cs true 0)) (hl : cs.length = m) (hk : k < m) (hm : m < 1000) (hc : kn (cs.take k) = true) (hy : Sli H y 1 1 [v])
    (hK : ∀ H', SameX [b] H H' → H'[b]? = some (.cells (cs.set k v) true 0) → H'.length = H.length → K (.slice (some ⟨b, 0, none⟩) (k + 1) m) H') : aApp 1 (.slice (some ⟨b, 0, none⟩) k m) y H K := by
  have hfz : (1000 : Nat) < fz := by decide
  have hrm : (2000 : Nat) < room := by decide
  obtain ⟨yb, yc, rfl, hyk, hh⟩ := id hy
  refine ⟨by omega, src_sli hy (by omega) ?_⟩
  simp only [hb]
  refine ⟨⟨by omega, by simpa using hc⟩, fun _ => ⟨fun _ => ⟨trivial, by omega, ?_⟩, fun h => absurd h (by omega)⟩, fun h => absurd h (by omega)⟩
  have e : wrAt cs (0 + k * 1) [v] = cs.set k v := by simp [wrAt]
  rw [e]
  exact hK _ (SameX.refl.set (.inl (by simp))) (List.getElem?_set_self (lt_of_get hb)) (by simp)
theorem neqNilZ {t e : TypeId} {base : Option Addr} {n c : Nat} (ht : prog.underlying t = some (.slice e)) (hg : prog.eqGuardType prog.depth t = false) (hk : KV (.bool (!base.isNone))) : aBin prog .neq t (.slice base n c) (.slice none 0 0) KV := by
  show aEq prog true t (.slice base n c) (.slice none 0 0) KV
  have : teq prog 10000 t (.slice base n c) (.slice none 0 0) = some base.isNone := by
    unfold teq
    rw [ht]
    cases base <;> rfl
  unfold aEq
  rw [this]
  exact ⟨hg, by simpa using hk⟩
theorem idxAz {s len b : Nat} {j : Nat} (h1 : j < len) (hk : KV (ptr b (j * s))) : aIdxA len s (ptr b 0) (vint (j : Nat)) KV :=
  ⟨⟨by omega, by omega⟩, by rw [Int.toNat_natCast, Nat.zero_add]; exact hk⟩
theorem sbOne {X : List Nat} {p : Nat} {H H' : List AObj} (S : SameX X H H') (hp : p < H.length) (hX : p ∉ X) : SameB (some [p]) H H' := fun b hb => by
  simp at hb
  subst hb
  exact S.2 _ hp hX
theorem sbTwo {X : List Nat} {p q : Nat} {H H' : List AObj} (S : SameX X H H') (hp : p < H.length) (hq : q < H.length) (hX : p ∉ X) (hY : q ∉ X) : SameB (some [p, q]) H H' := fun b hb => by
  simp at hb
  rcases hb with rfl | rfl
  · exact S.2 _ hp hX
  · exact S.2 _ hq hY
theorem endQexit {n id : Nat} {f : RG} {Q : QT} {v : Value} {st : LoopState} {fn : FuncId} {r : Nat → Value} {size : Nat} {params : Array Tmp} {assign body : Code} {dfr : Nat} (hl : h[n + 1]? = some (.loop st (some (.exit id)) fn r size params assign body dfr)) (hs : st ≠ .busy) (hq : Q (.exit id) ⟨f.r, n :: f.ds⟩ (h.set (n + 1) .dead)) : endQ n f Q v h :=
  ⟨st, some (.exit id), _, _, _, _, _, _, _, hl, hs, hq⟩
theorem endQnorm {n : Nat} {f : RG} {Q : QT} {v : Value} {st : LoopState} {fn : FuncId} {r : Nat → Value} {size : Nat} {params : Array Tmp} {assign body : Code} {dfr : Nat} (hl : h[n + 1]? = some (.loop st none fn r size params assign body dfr)) (hs : st ≠ .busy) (hq : Q .normal ⟨f.r, n :: f.ds⟩ (h.set (n + 1) .dead)) : endQ n f Q v h :=
  ⟨st, none, _, _, _, _, _, _, _, hl, hs, hq⟩
theorem ownU {s len : Nat} {cs : List Value} {v : Value} {o : Option Nat} (O : OwnX H s cs len v o) : v ≠ unk := by
  have := (ownX_val O).2.2
  intro e
  rw [e] at this
  cases this
theorem fillP2 {a b : Value} {KL : List Value → Prop} (ha : a.cells = #[a] ∧ one a = true) (hb : b.cells = #[b] ∧ one b = true) {z : Value} (hk : KL [a, b]) : aFill (zrep [z] 2) [(0, 1, a), (1, 1, b)] KL := by
  refine fillO (l := [a]) (by rw [ha.1]) rfl (by simp [ha.2]) (by show 0 + 1 ≤ 2; decide) ?_
  refine fillO (l := [b]) (by rw [hb.1]) rfl (by simp [hb.2]) (by rw [wrAt_length]; show 1 + 1 ≤ 2; decide) ?_
  exact fillI hk
theorem beqD (a b : Int) : (a == b) = decide (a = b) := by
  by_cases h : a = b
  · simp [h]
  · simp [h]
theorem eqlU {t : TypeId} {a b : UInt8} (hk : KV (.bool (decide (a = b)))) : aBin prog .eql t (.int .u8 a.toNat) (.int .u8 b.toNat) KV := by
  refine ⟨rfl, ?_⟩
  show KV (.bool (((a.toNat : Nat) : Int) == ((b.toNat : Nat) : Int)))
  rw [beqD]
  have : ((a.toNat : Nat) : Int) = ((b.toNat : Nat) : Int) ↔ a = b := by rw [Int.ofNat_inj]; exact UInt8.toNat_inj
  rw [decide_eq_decide.2 this]
  exact hk
theorem neqU {t : TypeId} {a b : UInt8} (hk : KV (.bool (decide (a ≠ b)))) : aBin prog .neq t (.int .u8 a.toNat) (.int .u8 b.toNat) KV := by
  refine ⟨rfl, ?_⟩
  show KV (.bool (((a.toNat : Nat) : Int) != ((b.toNat : Nat) : Int)))
  unfold bne
  rw [beqD, ← decide_not]
  have : (¬ ((a.toNat : Nat) : Int) = ((b.toNat : Nat) : Int)) ↔ a ≠ b := by rw [Int.ofNat_inj, UInt8.toNat_inj]
  rw [decide_eq_decide.2 this]
  exact hk
theorem byteI {l : List UInt8} {i : Nat} {b : UInt8} (hb : l[i]? = some b) (hk : KV (.int .u8 b.toNat)) : aIdxStr (.string ⟨⟨l⟩⟩) (vint (i : Nat)) KV := by
  refine ⟨by omega, ?_⟩
  show match l[((i : Nat) : Int).toNat]? with
    | some b => KV (.int .u8 b.toNat)
    | none => False
  rw [Int.toNat_natCast, hb]
  exact hk
theorem lenStrI {l : List UInt8} (hk : KV (vint l.length)) : aLenStr (.string ⟨⟨l⟩⟩) KV := hk
end
structure Pas where
  grass : Int
  bears : Int
  dry : Int
  wet : Int
  stubble : Int
  sleep : Int
  deriving DecidableEq
structure SkyR where
  days : Int
  drought : Int
  flood : Int
  deriving DecidableEq
def Pas.cells (p : Pas) : List Value := [vint p.grass, vint p.bears, vint p.dry, vint p.wet, vint p.stubble, vint p.sleep]
def SkyR.cells (s : SkyR) : List Value := [vint s.days, vint s.drought, vint s.flood]
def pasOk (p : Pas) : Prop := (1 ≤ p.bears ∧ p.bears ≤ 99) ∧ (0 ≤ p.grass ∧ p.grass ≤ p.bears) ∧ (0 ≤ p.dry ∧ p.dry ≤ 9) ∧ (p.dry ≤ p.wet ∧ p.wet ≤ 9) ∧ (0 ≤ p.stubble ∧ p.stubble ≤ p.bears) ∧ (0 ≤ p.sleep ∧ p.sleep ≤ 5)
instance (p : Pas) : Decidable (pasOk p) := by unfold pasOk; infer_instance
def pasE (p : Pas) : Int := if pasOk p then 0 else 1
def skyOk (s : SkyR) : Prop := (1 ≤ s.days ∧ s.days ≤ 8) ∧ (1 ≤ s.drought ∧ s.drought ≤ s.days) ∧ (1 ≤ s.flood ∧ s.flood ≤ s.days)
instance (s : SkyR) : Decidable (skyOk s) := by unfold skyOk; infer_instance
def skyE (s : SkyR) : Int := if skyOk s then 0 else 1
def cntE (n lo hi : Int) : Int := if n < lo then 7 else if n > hi then 6 else 0
def hunE (heads : List Int) (days : Int) : Int := if cntE heads.length days days ≠ 0 then cntE heads.length days days else if ∀ n ∈ heads, 0 ≤ n ∧ n ≤ 40 then 0 else 1
def fst2 (a b : Int) : Int := if a ≠ 0 then a else b
abbrev Std := Int × Int
def leftR (x : Std) (heads : Int) : Int := x.1 - min heads x.1
def hungR (x : Std) (heads : Int) : Bool := decide (heads > x.1)
def shortR (p : Pas) (x : Std) (heads : Int) : Bool := decide (heads > 0) && decide (leftR x heads < p.stubble)
def dayR (p : Pas) (x : Std) (heads : Int) (wet : Bool) : Std :=
  if shortR p x heads = true then (leftR x heads, p.sleep) else if x.2 > 0 then (leftR x heads, x.2 - 1) else (min p.bears (leftR x heads + (if wet = true then p.wet else p.dry)), x.2)
def medC (p : Pas) (x : Std) : List Value := p.cells ++ [vint x.1, vint x.2]
structure StdOk (p : Pas) (x : Std) : Prop where
  g : 0 ≤ x.1 ∧ x.1 ≤ p.bears
  a : 0 ≤ x.2 ∧ x.2 ≤ 5
theorem leftR_bd {p : Pas} {x : Std} (o : StdOk p x) {n : Int} (hn : 0 ≤ n) : 0 ≤ leftR x n ∧ leftR x n ≤ x.1 := by
  have := o.g
  unfold leftR
  omega
theorem dayR_ok {p : Pas} {x : Std} (f : pasOk p) (o : StdOk p x) {n : Int} (hn : 0 ≤ n) {w : Bool} : StdOk p (dayR p x n w) := by
  have hl := leftR_bd o hn
  have hg := o.g
  have ha := o.a
  obtain ⟨f1, f2, f3, f4, f5, f6⟩ := f
  unfold dayR
  split
  · exact ⟨by dsimp only; omega, by dsimp only; omega⟩
  · split
    · exact ⟨by dsimp only; omega, by dsimp only; omega⟩
    · refine ⟨?_, by dsimp only; omega⟩
      dsimp only
      split <;> omega
theorem std0_ok {p : Pas} (f : pasOk p) : StdOk p (p.grass, 0) := ⟨f.2.1, by dsimp only; omega⟩
def wetB (b : UInt8) : Bool := decide (b = 119)
def stdR (p : Pas) (heads : List Int) (rain : List UInt8) : Nat → Std
  | 0 => (p.grass, 0)
  | k + 1 => dayR p (stdR p heads rain k) (heads.getD k 0) (wetB (rain.getD k 0))
def hungAt (p : Pas) (heads : List Int) (rain : List UInt8) (k : Nat) : Bool := hungR (stdR p heads rain k) (heads.getD k 0)
def shortAt (p : Pas) (heads : List Int) (rain : List UInt8) (k : Nat) : Bool := shortR p (stdR p heads rain k) (heads.getD k 0)
def headsOk (heads : List Int) : Prop := ∀ n ∈ heads, 0 ≤ n ∧ n ≤ 40
theorem headsOk_getD {heads : List Int} (hh : headsOk heads) (k : Nat) : 0 ≤ heads.getD k 0 ∧ heads.getD k 0 ≤ 40 := by
  rw [List.getD_eq_getElem?_getD]
  cases e : heads[k]? with
  | none => exact ⟨Int.le_refl _, by decide⟩
  | some n => exact hh n (List.mem_of_getElem? e)
theorem stdR_ok {p : Pas} {heads : List Int} {rain : List UInt8} (f : pasOk p) (hh : headsOk heads) : ∀ k, StdOk p (stdR p heads rain k)
  | 0 => std0_ok f
  | k + 1 => dayR_ok f (stdR_ok f hh k) (headsOk_getD hh k).1
def fstH (q : Nat → Bool) : Nat → Int
  | 0 => -1
  | n + 1 => if fstH q n ≥ 0 then fstH q n else if q n = true then (n : Int) else -1
theorem fstH_none {q : Nat → Bool} : ∀ {n : Nat}, (∀ i, i < n → q i = false) → fstH q n = -1
  | 0, _ => rfl
  | n + 1, h => by
    unfold fstH
    rw [fstH_none fun i hi => h i (by omega), if_neg (by decide), if_neg (by rw [h n (by omega)]; decide)]
theorem fstH_some {q : Nat → Bool} {k : Nat} (hq : q k = true) (hno : ∀ i, i < k → q i = false) : ∀ {n : Nat}, k < n → fstH q n = (k : Int)
  | 0, h => absurd h (Nat.not_lt_zero _)
  | n + 1, h => by
    unfold fstH
    by_cases e : k = n
    · subst e
      rw [fstH_none hno, if_neg (by decide), if_pos hq]
    · rw [fstH_some hq hno (by omega : k < n), if_pos (by omega)]
theorem fstH_pos {q : Nat → Bool} {i : Nat} (hq : q i = true) : ∀ {n : Nat}, i < n → 0 ≤ fstH q n
  | 0, h => absurd h (Nat.not_lt_zero _)
  | n + 1, h => by
    unfold fstH
    by_cases x : fstH q n ≥ 0
    · rw [if_pos x]
      exact x
    · rw [if_neg x]
      by_cases y : i = n
      · subst y
        rw [if_pos hq]
        omega
      · exact absurd (fstH_pos hq (by omega)) x
theorem fstH_iff {q : Nat → Bool} : ∀ {n : Nat}, 0 ≤ fstH q n → (fstH q n).toNat < n ∧ q (fstH q n).toNat = true ∧ ∀ i, i < (fstH q n).toNat → q i = false
  | 0, h => absurd h (by show ¬ (0 : Int) ≤ -1; decide)
  | n + 1, h => by
    by_cases e : fstH q n ≥ 0
    · have e1 : fstH q (n + 1) = fstH q n := by conv => lhs; unfold fstH
                                                rw [if_pos e]
      rw [e1]
      obtain ⟨a, b, c⟩ := fstH_iff e
      exact ⟨by omega, b, c⟩
    · by_cases e2 : q n = true
      · have e1 : fstH q (n + 1) = (n : Int) := by conv => lhs; unfold fstH
                                                   rw [if_neg e, if_pos e2]
        rw [e1]
        refine ⟨by simp, by simpa using e2, fun i hi => ?_⟩
        cases hq : q i with
        | false => rfl
        | true =>
          exact absurd (fstH_pos hq (by simpa using hi)) e
      · have e1 : fstH q (n + 1) = -1 := by conv => lhs; unfold fstH
                                            rw [if_neg e, if_neg e2]
        omega
def starvR (p : Pas) (heads : List Int) (rain : List UInt8) : Int := fstH (hungAt p heads rain) rain.length
abbrev Spl := UInt8 × Int
def spC (x : Spl) : List Value := [.int .u8 x.1.toNat, vint x.2]
def nextX (x : Spl) (c : UInt8) : Spl := if x.1 ≠ c then (c, 1) else (c, x.2 + 1)
def nextOk (s : SkyR) (x : Spl) (c : UInt8) : Bool := if x.1 ≠ c then true else decide (x.2 < if c = 119 then s.flood else s.drought)
def growB (s : SkyR) : Nat → List UInt8 → Spl → List (List UInt8)
  | 0, w, _ => [w]
  | n + 1, w, x => (if nextOk s x 100 = true then growB s n (w ++ [100]) (nextX x 100) else []) ++ (if nextOk s x 119 = true then growB s n (w ++ [119]) (nextX x 119) else [])
def rainsB (s : SkyR) : List (List UInt8) := growB s s.days.toNat [] (0, 0)
theorem growB_len {s : SkyR} : ∀ {n : Nat} {w : List UInt8} {x : Spl}, ∀ u ∈ growB s n w x, u.length = w.length + n
  | 0, w, x, u, hu => by
    rw [List.mem_singleton.1 hu]
    rfl
  | n + 1, w, x, u, hu => by
    unfold growB at hu
    rcases List.mem_append.1 hu with hu | hu
    · split at hu
      · rw [growB_len u hu, List.length_append]
        simp
        omega
      · cases hu
    · split at hu
      · rw [growB_len u hu, List.length_append]
        simp
        omega
      · cases hu
theorem rainsB_len {s : SkyR} {u : List UInt8} (h : u ∈ rainsB s) : u.length = s.days.toNat := by
  have := growB_len u h
  simpa using this
section
variable {main : Bool} {J : JT} {h H : List AObj} {K : Value → List AObj → Prop} {KV : Value → Prop} {HL : List AObj → Prop} {n0 : Nat} {ns : List Int} {k : Nat}
theorem quoZ {t : TypeId} {a b : Int} (ha : 0 ≤ a ∧ a ≤ 1000000) (hb : 0 < b) (hk : KV (vint (a / b))) : aBin prog .quo t (vint a) (vint b) KV := by
  have h1 : Int.tdiv a b = a / b := Int.tdiv_eq_ediv_of_nonneg ha.1
  have h2 : 0 ≤ a / b := Int.ediv_nonneg ha.1 (by omega)
  have h3 : a / b ≤ a := Int.ediv_le_self _ ha.1
  simp only [aBin, aInt, true_and]
  rw [h1, wrap64 (by omega) (by omega)]
  exact ⟨by omega, hk⟩
theorem hxLt (a : HX h H ns k) : h.length < H.length := by
  obtain ⟨nv, k1, s, rest, rfl, _⟩ := a
  rw [hf_len]
  omega
theorem ofZ (hJ : Closed prog main J) (a : HX h H ns k) (hk : k < 1000000) {x : Int} {others : List Int} {p n c : Nat} (hp : H[p]? = some (.cells (others.map vint) true 0)) (hne : p ≠ h.length) (hn : others.length = n) (hl : n < 1000)
    (hK : ∀ y H', (y = x ∨ y ∈ others) → SameX [h.length] H H' → H'.length = H.length → HX h H' ns (k + 1) → K (vint y) H') : Good prog J 69 [ptr h.length 0, vint x, .slice (some ⟨p, 0, none⟩) n c] H K := by
  subst hn
  obtain ⟨nv, k1, s, rest, rfl, b1, b2, b3⟩ := a
  refine good69 hJ (hf_hand b3.list b3.sane (by omega) b2.1 b2.2) (others := others) (fun h' hd => ?_) (by omega) fun y h1 hy hd => ?_
  · obtain ⟨k', s', c1, c2, c3, rfl⟩ := hf_dealt hd
    have S := hf_same (h := h) (nv := nv) (k1 := k1) (k2 := k') (s1 := s) (s2 := s') (rest := rest) (g := [])
    rw [List.append_nil] at S
    exact sli_new (wr := true) (sz := 0) (S.get hp (by simpa using hne)) (by simp) (kn_ints _)
  · obtain ⟨k', s', c1, c2, c3, rfl⟩ := hf_dealt hd
    have S := hf_same (h := h) (nv := nv) (k1 := k1) (k2 := k') (s1 := s) (s2 := s') (rest := rest) (g := [])
    rw [List.append_nil] at S
    exact hK y _ hy S (by simp [hf_len]) ⟨nv, k', s', rest, rfl, by omega, ⟨c2, c3⟩, b3⟩
theorem good25 (hJ : Closed prog main J) (a : HX h H ns k) (hk : k < 400000) {D : Int} (hD : 1 ≤ D ∧ D ≤ 8)
    (hK : ∀ s H', skyOk s → s.days ≤ D → SameX [h.length] H H' → HX h H' ns (k + 3) → K (.agg ⟨s.cells⟩) H') : Good prog J 25 [ptr h.length 0, vint D] H K := by
  refine g25 hJ fun ok => ?_
  rw [e25]
  have hlt := hxLt a
  refine qAl fun H1 p1 e1 S1 c1 l1 => ?_
  have a1 := a.same S1 (by simp)
  refine amX hJ a1 (by omega) (by omega) (by omega) fun d H2 b1 b2 S2 l2 a2 => ?_
  refine fillO (l := [vint d]) rfl rfl rfl (Nat.le_of_ble_eq_true rfl) (fillI ?_)
  refine qAl fun H3 p3 e3 S3 c3 l3 => qStA (c := [vint d, vint 0, vint 0]) c3 rfl rfl rfl fun H4 S4 c4 l4 => ?_
  have a4 := (a2.same S3 (by simp)).same S4 (by simp; omega)
  have hp4 : p3 < H4.length := lt_of_get c4
  refine ⟨[p3], offI (ldI (v := vint d) c4 rfl rfl ⟨by simp [RdOk, ptrBlk], offI (ldI (v := vint d) c4 rfl rfl ⟨by simp [RdOk, ptrBlk], ?_⟩)⟩)⟩
  refine amX hJ a4 (by omega) (by omega) (by omega) fun u H5 d1 d2 S5 l5 a5 => ⟨sbOne S5 hp4 (by simp; omega), offI ?_⟩
  refine amX hJ a5 (by omega) (by omega) (by omega) fun w H6 f1 f2 S6 l6 a6 => ⟨sbOne (S5.trans S6) hp4 (by simp; omega), ?_⟩
  have T6 : SameX [h.length] H4 H6 := S5.trans S6
  refine qSt (T6.get c4 (by simp; omega)) (by simp) rfl rfl fun H7 S7 c7 l7 => offI (qSt c7 (by simp) rfl rfl fun H8 S8 c8 l8 => ?_)
  refine load_part (c := (⟨d, u, w⟩ : SkyR).cells) c8 (by simp) rfl rfl ?_
  have T4 : SameX [h.length] H H4 := (((S1.weak0).trans S2).trans S3.weak0).thru S4 (by simp; omega)
  have T8 : SameX [h.length] H H8 := ((T4.trans T6).thru S7 (by simp; omega)).thru S8 (by simp; omega)
  have c1' := S8.get (S7.get (T6.get (S4.get (S3.get (S2.get c1 (by simp; omega)) (by simp)) (by simp; omega)) (by simp; omega)) (by simp; omega)) (by simp; omega)
  refine qStA (c := (⟨d, u, w⟩ : SkyR).cells) c1' rfl rfl rfl fun H9 S9 c9 l9 => ?_
  refine retQs rfl (resW_cell (gg := true) (s := 3) (by kernel_rfl) (load_part (c := (⟨d, u, w⟩ : SkyR).cells) c9 (by simp [SkyR.cells]) rfl rfl (resW_nil ?_)))
  refine hK ⟨d, u, w⟩ H9 ⟨by show 1 ≤ d ∧ d ≤ 8; omega, by show 1 ≤ u ∧ u ≤ d; omega, by show 1 ≤ w ∧ w ≤ d; omega⟩ (by show d ≤ D; omega) (T8.thru S9 (by simp; omega)) (((a6.same S7 (by simp; omega)).same S8 (by simp; omega)).same S9 (by simp; omega))
set_option maxHeartbeats 800000 in
theorem good24 (hJ : Closed prog main J) (a : HX h H ns k) (hk : k < 400000)
    (hK : ∀ p H', pasOk p → 3 ≤ p.bears ∧ p.bears ≤ 30 → SameX [h.length] H H' → HX h H' ns (k + 12) → K (.agg ⟨p.cells⟩) H') : Good prog J 24 [ptr h.length 0] H K := by
  refine g24 hJ fun ok => ?_
  rw [e24]
  have hlt := hxLt a
  refine qAl fun H1 p1 e1 S1 c1 l1 => ?_
  have a1 := a.same S1 (by simp)
  refine amX hJ a1 (by omega) (by omega) (by omega) fun b H2 b1 b2 S2 l2 a2 => ?_
  refine ⟨by decide, fillO (l := [vint 1]) rfl rfl rfl (Nat.le_of_ble_eq_true rfl) (fillO (l := [vint 1]) rfl rfl rfl (Nat.le_of_ble_eq_true rfl) (fillO (l := [vint 2]) rfl rfl rfl (Nat.le_of_ble_eq_true rfl) (fillI (qNew fun H3 p3 e3 S3 c3 l3 => ?_))))⟩
  have c3 : H3[p3]? = some (.cells (([1, 1, 2] : List Int).map vint) true 0) := c3
  refine ofZ hJ (a2.same S3 (by simp)) (by omega) c3 (by omega) rfl (by simp) fun dr H4 m4 S4 l4 a4 => ?_
  refine upX hJ a4 (by omega) (by omega) fun u5 H5 d1 d2 S5 l5 a5 => ?_
  refine ⟨by decide, fillO (l := [vint 1]) rfl rfl rfl (Nat.le_of_ble_eq_true rfl) (fillO (l := [vint 2]) rfl rfl rfl (Nat.le_of_ble_eq_true rfl) (fillO (l := [vint u5]) rfl rfl rfl (Nat.le_of_ble_eq_true rfl) (fillI (qNew fun H6 p6 e6 S6 c6 l6 => ?_))))⟩
  have c6 : H6[p6]? = some (.cells (([1, 2, u5] : List Int).map vint) true 0) := c6
  refine ofZ hJ (a5.same S6 (by simp)) (by omega) c6 (by omega) rfl (by simp) fun sl H7 m7 S7 l7 a7 => ?_
  refine fillO (l := [vint b]) rfl rfl rfl (Nat.le_of_ble_eq_true rfl) (fillO (l := [vint dr]) rfl rfl rfl (Nat.le_of_ble_eq_true rfl) (fillO (l := [vint sl]) rfl rfl rfl (Nat.le_of_ble_eq_true rfl) (fillI ?_)))
  refine qAl fun H8 p8 e8 S8 c8 l8 => qStA (c := [vint 0, vint b, vint dr, vint 0, vint 0, vint sl]) c8 rfl rfl rfl fun H9 S9 c9 l9 => ?_
  have a9 := (a7.same S8 (by simp)).same S9 (by simp; omega)
  have hp9 : p8 < H9.length := lt_of_get c9
  have hdr : 0 ≤ dr ∧ dr ≤ 2 := by
    rcases m4 with h | h
    · omega
    · simp only [List.mem_cons, List.not_mem_nil, or_false] at h
      omega
  have hsl : 0 ≤ sl ∧ sl ≤ 5 := by
    rcases m7 with h | h
    · omega
    · simp only [List.mem_cons, List.not_mem_nil, or_false] at h
      omega
  refine ⟨[p8], offI (ldI (v := vint b) c9 rfl rfl ⟨by simp [RdOk, ptrBlk], offI (ldI (v := vint b) c9 rfl rfl ⟨by simp [RdOk, ptrBlk], offI (ldI (v := vint b) c9 rfl rfl ⟨by simp [RdOk, ptrBlk], quoZ (by omega) (by decide) (offI (ldI (v := vint b) c9 rfl rfl ⟨by simp [RdOk, ptrBlk], ?_⟩))⟩)⟩)⟩)⟩
  have T9 : ∀ {H'}, SameX [h.length] H9 H' → SameB (some [p8]) H9 H' := fun S => sbOne S hp9 (by simp; omega)
  refine upX hJ a9 (by omega) (by omega) fun u10 H10 f1 f2 S10 l10 a10 => ⟨T9 S10, ?_⟩
  refine amX hJ a10 (by omega) (by omega) (by omega) fun u11 H11 g1 g2 S11 l11 a11 => ⟨T9 (S10.trans S11), ?_⟩
  have Q11 : SameX [h.length] H9 H11 := S10.trans S11
  refine ⟨by decide, fillO (l := [vint u10]) rfl rfl rfl (Nat.le_of_ble_eq_true rfl) (fillO (l := [vint u11]) rfl rfl rfl (Nat.le_of_ble_eq_true rfl) (fillI (qNew fun H12 p12 e12 S12 c12 l12 => ⟨T9 (Q11.trans S12.weak0), ?_⟩)))⟩
  have c12 : H12[p12]? = some (.cells (([u10, u11] : List Int).map vint) true 0) := c12
  have hl11 := hxLt a11
  refine ofZ hJ (a11.same S12 (by simp)) (by omega) c12 (by omega) rfl (by simp) fun gr H13 m13 S13 l13 a13 => ?_
  have Q13 : SameX [h.length] H9 H13 := (Q11.trans S12.weak0).trans S13
  refine ⟨T9 Q13, offI ?_⟩
  have hgr : 0 ≤ gr ∧ gr ≤ b := by
    rcases m13 with h | h
    · omega
    · simp only [List.mem_cons, List.not_mem_nil, or_false] at h
      omega
  refine qSt (Q13.get c9 (by simp; omega)) (by simp) rfl rfl fun H14 S14 c14 l14 => ?_
  have c14 : H14[p8]? = some (.cells [vint gr, vint b, vint dr, vint 0, vint 0, vint sl] true 0) := c14
  have a14 := a13.same S14 (by simp; omega)
  refine offI (ldI (v := vint dr) c14 rfl rfl (offI (ldI (v := vint dr) c14 rfl rfl (addI (by omega) (minI ?_)))))
  refine amX hJ a14 (by omega) (by omega) (by omega) fun wt H15 h1 h2 S15 l15 a15 => offI ?_
  refine qSt (S15.get c14 (by simp; omega)) (by simp) rfl rfl fun H16 S16 c16 l16 => ?_
  have c16 : H16[p8]? = some (.cells [vint gr, vint b, vint dr, vint wt, vint 0, vint sl] true 0) := c16
  have a16 := a15.same S16 (by simp; omega)
  have hp16 : p8 < H16.length := lt_of_get c16
  have T16 : ∀ {H'}, SameX [h.length] H16 H' → SameB (some [p8]) H16 H' := fun S => sbOne S hp16 (by simp; omega)
  refine ⟨[p8], offI (ldI (v := vint b) c16 rfl rfl ⟨by simp [RdOk, ptrBlk], quoZ (by omega) (by decide) (offI (ldI (v := vint b) c16 rfl rfl ⟨by simp [RdOk, ptrBlk], ?_⟩))⟩)⟩
  refine upX hJ a16 (by omega) (by omega) fun u17 H17 q1 q2 S17 l17 a17 => ⟨T16 S17, ?_⟩
  refine upX hJ a17 (by omega) (by omega) fun u18 H18 q3 q4 S18 l18 a18 => ⟨T16 (S17.trans S18), ?_⟩
  have Q18 : SameX [h.length] H16 H18 := S17.trans S18
  refine ⟨by decide, fillO (l := [vint 1]) rfl rfl rfl (Nat.le_of_ble_eq_true rfl) (fillO (l := [vint 2]) rfl rfl rfl (Nat.le_of_ble_eq_true rfl) (fillO (l := [vint u17]) rfl rfl rfl (Nat.le_of_ble_eq_true rfl) (fillO (l := [vint u18]) rfl rfl rfl (Nat.le_of_ble_eq_true rfl) (fillI (qNew fun H19 p19 e19 S19 c19 l19 => ⟨T16 (Q18.trans S19.weak0), ?_⟩)))))⟩
  have c19 : H19[p19]? = some (.cells (([1, 2, u17, u18] : List Int).map vint) true 0) := c19
  have hl18 := hxLt a18
  refine ofZ hJ (a18.same S19 (by simp)) (by omega) c19 (by omega) rfl (by simp) fun st H20 m20 S20 l20 a20 => ?_
  have Q20 : SameX [h.length] H16 H20 := (Q18.trans S19.weak0).trans S20
  have hst : 0 ≤ st ∧ st ≤ b := by
    rcases m20 with h | h
    · omega
    · simp only [List.mem_cons, List.not_mem_nil, or_false] at h
      omega
  refine ⟨T16 Q20, offI (qSt (Q20.get c16 (by simp; omega)) (by simp) rfl rfl fun H21 S21 c21 l21 => ?_)⟩
  have c21 : H21[p8]? = some (.cells (⟨gr, b, dr, wt, st, sl⟩ : Pas).cells true 0) := c21
  refine load_part (c := (⟨gr, b, dr, wt, st, sl⟩ : Pas).cells) c21 (by simp [Pas.cells]) rfl rfl ?_
  have U7 : SameX [h.length] H H7 := ((((((S1.weak0).trans S2).trans S3.weak0).trans S4).trans S5).trans S6.weak0).trans S7
  have U9 : SameX [h.length] H H9 := (U7.trans S8.weak0).thru S9 (by have := U7.1; simp; omega)
  have U21 : SameX [h.length] H H21 := ((((U9.trans Q13).thru S14 (by have := U7.1; simp; omega)).trans S15).thru S16 (by have := U7.1; simp; omega)).trans Q20 |>.thru S21 (by have := U7.1; simp; omega)
  have V1 : SameX [h.length] H1 H7 := ((((S2.trans S3.weak0).trans S4).trans S5).trans S6.weak0).trans S7
  have hv1 := V1.1
  have V9 : SameX [h.length, p8] H1 H9 := ((V1.trans S8.weak0).weak (by simp)).trans (S9.weak (by simp))
  have V21 : SameX [h.length, p8] H1 H21 := (((((V9.trans (Q13.weak (by simp))).trans (S14.weak (by simp))).trans (S15.weak (by simp))).trans (S16.weak (by simp))).trans (Q20.weak (by simp))).trans (S21.weak (by simp))
  have c1' := V21.get c1 (by simp; omega)
  refine qStA (c := (⟨gr, b, dr, wt, st, sl⟩ : Pas).cells) c1' rfl rfl rfl fun H22 S22 c22 l22 => ?_
  refine retQs rfl (resW_cell (gg := true) (s := 6) (by kernel_rfl) (load_part (c := (⟨gr, b, dr, wt, st, sl⟩ : Pas).cells) c22 (by simp [Pas.cells]) rfl rfl (resW_nil ?_)))
  refine hK ⟨gr, b, dr, wt, st, sl⟩ H22 ⟨by show 1 ≤ b ∧ b ≤ 99; omega, hgr, by show 0 ≤ dr ∧ dr ≤ 9; omega, by show dr ≤ wt ∧ wt ≤ 9; omega, hst, hsl⟩ (by show 3 ≤ b ∧ b ≤ 30; omega) (U21.thru S22 (by simp; omega)) ?_
  have z21 := a20.same S21 (by simp; omega)
  have z22 := z21.same S22 (by simp; omega)
  exact z22.mono (by omega)
end
end Go.Proofs.Ythnccaajpdnndaa
namespace Go.Proofs.Ythnccaajpdnndaa
open Go.Conc Go.Proofs.Try
set_option maxRecDepth 100000
set_option maxHeartbeats 4000000
set_option linter.unusedVariables false
section
variable {main : Bool} {J : JT} {n0 : Nat} {h : List AObj} {K : Value → List AObj → Prop}
theorem at67 : prog.funcs[67]? = some f67 := by kernel_rfl
theorem body67 : f67.body = some (codeOf f67) := by kernel_rfl
def pl67 : Plans := []
def ct67 : Cuts := .go
theorem pok67 : plansOk prog pl67 (codeOf f67) = true := by kernel_rfl
theorem e67 : W prog J 2 h.length 67 (codeOf f67) (RG.mk (regs []) []) h (RetQ prog [.cell 0 31] h.length K) =
(aAlloc [(vint 0), (vint 0), (vint 0), (vint 0), (vint 0), (vint 0)] h fun v1 h2 =>
 aFill [(vint 0), (vint 0), (vint 0), (vint 0), (vint 0), (vint 0)] [(0, 1, (vint 12)), (1, 1, (vint 20)), (2, 1, (vint 1)), (3, 1, (vint 4)), (4, 1, (vint 3)), (5, 1, (vint 2))] fun c3 =>
 aStore 6 v1 (Value.agg ⟨c3⟩) h2 fun h4 =>
 RetQ prog [.cell 0 31] h.length K .ret (RG.p (RG.p (RG.mk (regs []) []) 0 v1) 1 (Value.agg ⟨c3⟩)) h4) := top_eq pok67 ct67 (by kernel_rfl)
theorem g67 (hJ : Closed prog main J) (hs : heapOk h → W prog J 2 h.length 67 (codeOf f67) (RG.mk (regs []) []) h (RetQ prog [.cell 0 31] h.length K)) : Good prog J 67 [] h K :=
  good_of_W hJ mixed at67 body67 (by kernel_rfl) (Nat.le_of_ble_eq_true rfl) hs
theorem at68 : prog.funcs[68]? = some f68 := by kernel_rfl
theorem body68 : f68.body = some (codeOf f68) := by kernel_rfl
def pl68 : Plans := []
def ct68 : Cuts := .go
theorem pok68 : plansOk prog pl68 (codeOf f68) = true := by kernel_rfl
theorem e68 : W prog J 2 h.length 68 (codeOf f68) (RG.mk (regs []) []) h (RetQ prog [.cell 0 24] h.length K) =
(aAlloc [(vint 0), (vint 0), (vint 0)] h fun v1 h2 =>
 aFill [(vint 0), (vint 0), (vint 0)] [(0, 1, (vint 3)), (1, 1, (vint 2)), (2, 1, (vint 2))] fun c3 =>
 aStore 3 v1 (Value.agg ⟨c3⟩) h2 fun h4 =>
 RetQ prog [.cell 0 24] h.length K .ret (RG.p (RG.p (RG.mk (regs []) []) 0 v1) 1 (Value.agg ⟨c3⟩)) h4) := top_eq pok68 ct68 (by kernel_rfl)
theorem g68 (hJ : Closed prog main J) (hs : heapOk h → W prog J 2 h.length 68 (codeOf f68) (RG.mk (regs []) []) h (RetQ prog [.cell 0 24] h.length K)) : Good prog J 68 [] h K :=
  good_of_W hJ mixed at68 body68 (by kernel_rfl) (Nat.le_of_ble_eq_true rfl) hs
theorem at53 : prog.funcs[53]? = some f53 := by kernel_rfl
theorem body53 : f53.body = some (codeOf f53) := by kernel_rfl
def pl53 : Plans := [(6, true, .take 0 (.take 1 (.take 2 (.take 3 (.take 4 (.take 5 (.take 6 (.take 7 (.take 8 (.fin))))))))))]
def ct53 : Cuts := .go
theorem pok53 : plansOk prog pl53 (codeOf f53) = true := by kernel_rfl
theorem e53 {a0 a1 : Value} : W prog J 26 h.length 53 (codeOf f53) (RG.mk (regs [a0, a1]) []) h (RetQ prog [.tmp 4] h.length K) =
(aLenS a0 fun v1 =>
 aLenS a1 fun v2 =>
 aBin prog .neq 3 v1 v2 fun v3 =>
 cnd v3
(retL h.length K [] [(Value.bool false)] h)
(Sem J 26 h.length 53 (subC [1, 1, 0, 1, 0] (codeOf f53)) (RG.p (RG.p (RG.p (RG.p (RG.p (RG.p (RG.p (RG.mk (regs [a0, a1]) []) 4 (Value.bool false)) 6 a0) 7 v1) 8 a1) 9 v2) 10 v3) 5 (vint 0)) h (contX pl53 prog J 26 h.length 53 ct53 [1, 1, 0, 1, 0] (codeOf f53) [] (RetQ prog [.tmp 4] h.length K)))) := top_eq pok53 ct53 (by kernel_rfl)
theorem g53 (hJ : Closed prog main J) {a0 a1 : Value} (hs : heapOk h → W prog J 26 h.length 53 (codeOf f53) (RG.mk (regs [a0, a1]) []) h (RetQ prog [.tmp 4] h.length K)) : Good prog J 53 [a0, a1] h K :=
  good_of_W hJ mixed at53 body53 (by kernel_rfl) (Nat.le_of_ble_eq_true rfl) hs
theorem s53_1 {f : RG} {nx0 : RG → List AObj → Prop} : W prog J 26 n0 53 (subC [1, 1, 0, 1, 0, 0] (codeOf f53)) f h (thenK nx0 (contX pl53 prog J 26 n0 53 ct53 [1, 1, 0, 1, 0] (codeOf f53) [] (RetQ prog [.tmp 4] n0 K))) =
(aLenS (f.r 0) fun v1 =>
 aBin prog .lss 3 (f.r 5) v1 fun v2 =>
 cnd v2
(aIdx 2 (f.r 0) (f.r 5) fun v3 =>
 aLoad true 2 v3 h fun v4 =>
 aIdx 2 (f.r 1) (f.r 5) fun v5 =>
 aLoad true 2 v5 h fun v6 =>
 aBin prog .neq 61 v4 v6 fun v7 =>
 cnd v7
(retL n0 K f.ds [(Value.bool false)] h)
(aBin prog .add 3 (f.r 5) (vint 1) fun v8 =>
 nx0 (RG.p (RG.p (RG.p (RG.p (RG.p (RG.p (RG.p (RG.p (RG.p (RG.p (RG.p (RG.p (RG.p (RG.p (RG.p (RG.p f 11 (f.r 5)) 12 (f.r 0)) 13 v1) 14 v2) 17 (f.r 0)) 18 (f.r 5)) 19 v3) 20 v4) 21 (f.r 1)) 22 (f.r 5)) 23 v5) 24 v6) 25 v7) 15 (f.r 5)) 16 v8) 5 v8) h))
(retL n0 K f.ds [(Value.bool true)] h)) := sub_eq pok53 ct53 (by kernel_rfl)
theorem l53_1 (hJ : Closed prog main J) {S : Type} (μ : S → Nat) (I : S → RG → List AObj → Prop) (hI : ∀ s f h, I s f h → heapOk h → n0 ≤ h.length → W prog J 26 n0 53 (subC [1, 1, 0, 1, 0, 0] (codeOf f53)) f h (thenK (Nx n0 μ I s) (contX pl53 prog J 26 n0 53 ct53 [1, 1, 0, 1, 0] (codeOf f53) [] (RetQ prog [.tmp 4] n0 K))))
  {s : S} {f : RG} (hi : Gets n0 I s f h) : Sem J 26 n0 53 (subC [1, 1, 0, 1, 0] (codeOf f53)) f h (contX pl53 prog J 26 n0 53 ct53 [1, 1, 0, 1, 0] (codeOf f53) [] (RetQ prog [.tmp 4] n0 K)) :=
  loop_rule hJ mixed (b := subC [1, 1, 0, 1, 0, 0] (codeOf f53)) (by kernel_rfl) μ I hI hi
end
section
variable {main : Bool} {J : JT} {n0 : Nat} {h : List AObj} {K : Value → List AObj → Prop}
theorem at21 : prog.funcs[21]? = some f21 := by kernel_rfl
theorem body21 : f21.body = some (codeOf f21) := by kernel_rfl
def pl21 : Plans := []
def ct21 : Cuts := .go
theorem pok21 : plansOk prog pl21 (codeOf f21) = true := by kernel_rfl
theorem e21 : W prog J 95 h.length 21 (codeOf f21) (RG.mk (regs []) []) h (RetQ prog [.tmp 0] h.length K) =
(Good prog J 67 [] h fun v1 h2 =>
(((3 * 1 : Nat) ≤ 16777216 ∧ (3 : Nat) ≤ 16777216 ∧ List.length [(vint 0)] = 1) ∧ aFill (zrep [(vint 0)] 3) [(0, 1, (vint 5)), (1, 1, (vint 5)), (2, 1, (vint 5))] fun c3 =>
 aNewS 3 c3 h2 fun v4 h5 =>
 Good prog J 32 [v1, v4, (Value.string { data := #[100, 119, 100] })] h5 fun v6 h7 =>
 aExt v6 0 fun v8 =>
 aExt v6 1 fun v9 =>
 Good prog J 67 [] h7 fun v10 h11 =>
(((3 * 1 : Nat) ≤ 16777216 ∧ (3 : Nat) ≤ 16777216 ∧ List.length [(vint 0)] = 1) ∧ aFill (zrep [(vint 0)] 3) [(0, 1, (vint 5)), (1, 1, (vint 5)), (2, 1, (vint 5))] fun c12 =>
 aNewS 3 c12 h11 fun v13 h14 =>
 Good prog J 68 [] h14 fun v15 h16 =>
 Good prog J 41 [v10, v13, v15] h16 fun v17 h18 =>
 aExt v17 0 fun v19 =>
 aExt v17 1 fun v20 =>
 Good prog J 67 [] h18 fun v21 h22 =>
(((3 * 1 : Nat) ≤ 16777216 ∧ (3 : Nat) ≤ 16777216 ∧ List.length [(vint 0)] = 1) ∧ aFill (zrep [(vint 0)] 3) [(0, 1, (vint 5)), (1, 1, (vint 5)), (2, 1, (vint 5))] fun c23 =>
 aNewS 3 c23 h22 fun v24 h25 =>
 Good prog J 68 [] h25 fun v26 h27 =>
 Good prog J 51 [v21, v24, v26] h27 fun v28 h29 =>
 aExt v28 0 fun v30 =>
 aExt v28 1 fun v31 =>
 aExt v28 2 fun v32 =>
 Good prog J 67 [] h29 fun v33 h34 =>
 Good prog J 68 [] h34 fun v35 h36 =>
 Good prog J 33 [v33, v35, (vint 0), (vint 3)] h36 fun v37 h38 =>
 aExt v37 0 fun v39 =>
 aExt v37 1 fun v40 =>
 Good prog J 67 [] h38 fun v41 h42 =>
 Good prog J 67 [] h42 fun v43 h44 =>
(((2 * 6 : Nat) ≤ 16777216 ∧ (2 : Nat) ≤ 16777216 ∧ List.length [(vint 0), (vint 0), (vint 0), (vint 0), (vint 0), (vint 0)] = 6) ∧ aFill (zrep [(vint 0), (vint 0), (vint 0), (vint 0), (vint 0), (vint 0)] 2) [(0, 6, v41), (6, 6, v43)] fun c45 =>
 aNewS 2 c45 h44 fun v46 h47 =>
 Good prog J 68 [] h47 fun v48 h49 =>
 Good prog J 27 [v46, v48, (vint 6)] h49 fun v50 h51 =>
 aExt v50 0 fun v52 =>
 aExt v50 1 fun v53 =>
 aBin prog .eql 37 v9 (vint 0) fun v54 =>
 cnd v54
(aBin prog .eql 37 v20 (vint 0) fun v55 =>
 cnd v55
(aBin prog .eql 37 v32 (vint 0) fun v56 =>
 cnd v56
(aBin prog .eql 37 v40 (vint 0) fun v57 =>
 cnd v57
(aBin prog .eql 37 v53 (vint 0) fun v58 =>
 cnd v58
(aBin prog .eql 9 v30 (Value.string { data := #[100, 100, 119] }) fun v59 =>
 cnd v59
(aBin prog .eql 3 v31 (vint 2) fun v60 =>
 cnd v60
(aBin prog .eql 3 v39 (vint 4) fun v61 =>
 cnd v61
((((3 * 1 : Nat) ≤ 16777216 ∧ (3 : Nat) ≤ 16777216 ∧ List.length [(vint 0)] = 1) ∧ aFill (zrep [(vint 0)] 3) [(0, 1, (vint 8)), (1, 1, (vint 7)), (2, 1, (vint 2))] fun c62 =>
 aNewS 3 c62 h51 fun v63 h64 =>
 Good prog J 29 [v8, v63] h64 fun v65 h66 =>
 cnd v65
(aFill [(vint 0), (vint 0)] [(0, 1, (vint 8)), (1, 1, (vint 11))] fun c67 =>
 aFill [(vint 0), (vint 0)] [(0, 1, (vint 4)), (1, 1, (vint 10))] fun c68 =>
 aFill [(vint 0), (vint 0)] [(1, 1, (vint 6))] fun c69 =>
(((3 * 2 : Nat) ≤ 16777216 ∧ (3 : Nat) ≤ 16777216 ∧ List.length [(vint 0), (vint 0)] = 2) ∧ aFill (zrep [(vint 0), (vint 0)] 3) [(0, 2, (Value.agg ⟨c67⟩)), (2, 2, (Value.agg ⟨c68⟩)), (4, 2, (Value.agg ⟨c69⟩))] fun c70 =>
 aNewS 3 c70 h66 fun v71 h72 =>
 Good prog J 53 [v19, v71] h72 fun v73 h74 =>
 cnd v73
((((3 * 1 : Nat) ≤ 16777216 ∧ (3 : Nat) ≤ 16777216 ∧ List.length [(vint 0)] = 1) ∧ aFill (zrep [(vint 0)] 3) [(0, 1, (vint 0)), (1, 1, (vint 0)), (2, 1, (vint 1))] fun c75 =>
 aNewS 3 c75 h74 fun v76 h77 =>
 Good prog J 29 [v52, v76] h77 fun v78 h79 =>
 retL h.length K [] [v78] h79))
(retL h.length K [] [(Value.bool false)] h74)))
(retL h.length K [] [(Value.bool false)] h66)))
(retL h.length K [] [(Value.bool false)] h51))
(retL h.length K [] [(Value.bool false)] h51))
(retL h.length K [] [(Value.bool false)] h51))
(retL h.length K [] [(Value.bool false)] h51))
(retL h.length K [] [(Value.bool false)] h51))
(retL h.length K [] [(Value.bool false)] h51))
(retL h.length K [] [(Value.bool false)] h51))
(retL h.length K [] [(Value.bool false)] h51)))))) := top_eq pok21 ct21 (by kernel_rfl)
theorem g21 (hJ : Closed prog main J) (hs : heapOk h → W prog J 95 h.length 21 (codeOf f21) (RG.mk (regs []) []) h (RetQ prog [.tmp 0] h.length K)) : Good prog J 21 [] h K :=
  good_of_W hJ mixed at21 body21 (by kernel_rfl) (Nat.le_of_ble_eq_true rfl) hs
end
section
variable {main : Bool} {J : JT} {n0 : Nat} {h : List AObj} {K : Value → List AObj → Prop}
section
variable {Sx : RG → List AObj → Prop}
theorem at27 : prog.funcs[27]? = some f27 := by kernel_rfl
theorem body27 : f27.body = some (codeOf f27) := by kernel_rfl
def pl27 : Plans := []
def ct27 : Cuts := .go
theorem pok27 : plansOk prog pl27 (trunc 6 (codeOf f27)) = true := by kernel_rfl
theorem e27 {a0 a1 a2 : Value} : W prog J 75 h.length 27 (trunc 6 (codeOf f27)) (RG.mk (regs [a0, a1, a2]) []) h (thenK Sx (RetQ prog [.tmp 6, .tmp 7] h.length K)) =
(aBox a0 h fun v1 h2 =>
 aBox a1 h2 fun v3 h4 =>
 aBox a2 h4 fun v5 h6 =>
 aLoad false 1 v1 h6 fun v7 =>
 aLenS v7 fun v8 =>
 Good prog J 71 [v8, (vint 1), (vint 3)] h6 fun v9 h10 =>
 aBin prog .neq 37 v9 (vint 0) fun v11 =>
 cnd v11
(retL h.length K [] [(Value.slice none 0 0), v9] h10)
(aLoad false 1 v1 h10 fun v12 =>
 aLenS v12 fun v13 =>
 Sem J 75 h.length 27 (subC [1, 1, 0, 1, 0] (trunc 6 (codeOf f27))) (RG.p (RG.p (RG.p (RG.p (RG.p (RG.p (RG.p (RG.p (RG.p (RG.p (RG.p (RG.p (RG.p (RG.p (RG.mk (regs [a0, a1, a2]) []) 3 v1) 4 v3) 5 v5) 6 (Value.slice none 0 0)) 7 (vint 0)) 18 v7) 19 v8) 20 v9) 8 v9) 21 v9) 22 v11) 24 v12) 25 v13) 26 (vint 0)) h10 (contX pl27 prog J 75 h.length 27 ct27 [1, 1, 0, 1, 0] (trunc 6 (codeOf f27)) [] (thenK Sx (RetQ prog [.tmp 6, .tmp 7] h.length K))))) := top_eq pok27 ct27 (by kernel_rfl)
theorem s27_1 {f : RG} {nx0 : RG → List AObj → Prop} : W prog J 75 n0 27 (subC [1, 1, 0, 1, 0, 0] (trunc 6 (codeOf f27))) f h (thenK nx0 (contX pl27 prog J 75 n0 27 ct27 [1, 1, 0, 1, 0] (trunc 6 (codeOf f27)) [] (thenK Sx (RetQ prog [.tmp 6, .tmp 7] n0 K)))) =
(aBin prog .lss 3 (f.r 26) (f.r 25) fun v1 =>
 cnd v1
(aIdx 6 (f.r 24) (f.r 26) fun v2 =>
 aLoad true 6 v2 h fun v3 =>
 aAlloc [(vint 0), (vint 0), (vint 0), (vint 0), (vint 0), (vint 0)] h fun v4 h5 =>
 aStore 6 v4 v3 h5 fun h6 =>
 aLoad true 6 v4 h6 fun v7 =>
 Good prog J 36 [v7] h6 fun v8 h9 =>
 aBin prog .neq 37 v8 (vint 0) fun v10 =>
 cnd v10
(retL n0 K f.ds [(Value.slice none 0 0), v8] h9)
(aBin prog .add 3 (f.r 26) (vint 1) fun v11 =>
 nx0 (RG.p (RG.p (RG.p (RG.p (RG.p (RG.p (RG.p (RG.p (RG.p (RG.p (RG.p f 27 v1) 28 v2) 29 v3) 10 v4) 30 v7) 31 v8) 11 v8) 32 v8) 33 v10) 35 v11) 26 v11) h9))
(aLoad true 3 (f.r 4) h fun v12 =>
 Good prog J 72 [v12] h fun v13 h14 =>
 aBin prog .neq 37 v13 (vint 0) fun v15 =>
 cnd v15
(retL n0 K f.ds [(Value.slice none 0 0), v13] h14)
(aLoad false 1 (f.r 5) h14 fun v16 =>
 Good prog J 73 [v16, (vint 0), (vint 40)] h14 fun v17 h18 =>
 aUn .not v17 fun v19 =>
 cnd v19
(retL n0 K f.ds [(Value.slice none 0 0), (vint 1)] h18)
(aAlloc [(Value.slice none 0 0), (Value.slice none 0 0), (Value.slice none 0 0)] h18 fun v20 h21 =>
 Sx (RG.p (RG.p (RG.p (RG.p (RG.p (RG.p (RG.p (RG.p (RG.p (RG.p f 27 v1) 36 v12) 37 v13) 12 v13) 38 v13) 39 v15) 41 v16) 42 v17) 43 v19) 13 v20) h21)))) := sub_eq pok27 ct27 (by kernel_rfl)
theorem l27_1 (hJ : Closed prog main J) {S : Type} (μ : S → Nat) (I : S → RG → List AObj → Prop) (hI : ∀ s f h, I s f h → heapOk h → n0 ≤ h.length → W prog J 75 n0 27 (subC [1, 1, 0, 1, 0, 0] (trunc 6 (codeOf f27))) f h (thenK (Nx n0 μ I s) (contX pl27 prog J 75 n0 27 ct27 [1, 1, 0, 1, 0] (trunc 6 (codeOf f27)) [] (thenK Sx (RetQ prog [.tmp 6, .tmp 7] n0 K)))))
  {s : S} {f : RG} (hi : Gets n0 I s f h) : Sem J 75 n0 27 (subC [1, 1, 0, 1, 0] (trunc 6 (codeOf f27))) f h (contX pl27 prog J 75 n0 27 ct27 [1, 1, 0, 1, 0] (trunc 6 (codeOf f27)) [] (thenK Sx (RetQ prog [.tmp 6, .tmp 7] n0 K))) :=
  loop_rule hJ mixed (b := subC [1, 1, 0, 1, 0, 0] (trunc 6 (codeOf f27))) (by kernel_rfl) μ I hI hi
end
theorem q27_1 {f : RG} {fr : FuncId} {Q : QT} : W prog J 75 n0 fr (subC [1, 1, 1, 1, 1, 1, 1, 0, 0] (codeOf f27)) f h Q =
(aLoad false 1 (f.r 3) h fun v1 =>
 aLenS v1 fun v2 =>
 Q .normal (RG.p (RG.p (RG.p f 44 v1) 45 v2) 46 (vint 0)) h) := by kernel_rfl
theorem q27_2 {f : RG} {fr : FuncId} {Q : QT} : W prog J 75 n0 fr (subC [1, 1, 1, 1, 1, 1, 1, 0, 1, 0, 0, 0] (codeOf f27)) f h Q =
(aBin prog .lss 3 (f.r 46) (f.r 45) fun v1 =>
 Q .normal (RG.p f 47 v1) h) := by kernel_rfl
theorem q27_3 {f : RG} {fr : FuncId} {Q : QT} : W prog J 75 n0 fr (subC [1, 1, 1, 1, 1, 1, 1, 0, 1, 0, 0, 1, 0] (codeOf f27)) f h Q =
(cnd (f.r 47)
(Q .normal f h)
(Q (.exit 2) f h)) := by kernel_rfl
theorem q27_4 {f : RG} {fr : FuncId} {Q : QT} : W prog J 75 n0 fr (subC [1, 1, 1, 1, 1, 1, 1, 0, 1, 0, 0, 1, 1, 0, 0, 0] (codeOf f27)) f h Q =
(aAlloc [(vint 0)] h fun v1 h2 =>
 aStore 1 v1 (f.r 46) h2 fun h3 =>
 Q .normal (RG.p (RG.p f 48 (f.r 46)) 15 v1) h3) := by kernel_rfl
theorem q27_5 {f : RG} {fr : FuncId} {Q : QT} : W prog J 75 n0 fr (subC [1, 1, 1, 1, 1, 1, 1, 0, 1, 0, 0, 1, 1, 0, 0, 1, 0] (codeOf f27)) f h Q =
(aLoad false 1 (f.r 15) h fun v1 =>
 aBin prog .gtr 3 v1 (vint 0) fun v2 =>
 cnd v2
(aLoad false 1 (f.r 3) h fun v3 =>
 aLoad false 1 (f.r 15) h fun v4 =>
 aIdx 6 v3 v4 fun v5 =>
 aLoad true 6 v5 h fun v6 =>
 aLoad false 1 (f.r 3) h fun v7 =>
 aLoad false 1 (f.r 15) h fun v8 =>
 aBin prog .sub 3 v8 (vint 1) fun v9 =>
 aIdx 6 v7 v9 fun v10 =>
 aLoad true 6 v10 h fun v11 =>
 aBin prog .eql 31 v6 v11 fun v12 =>
 cnd v12
(Q (.exit 3) (RG.p (RG.p (RG.p (RG.p (RG.p (RG.p (RG.p (RG.p (RG.p (RG.p (RG.p (RG.p (RG.p (RG.p (RG.p f 49 v1) 50 v2) 51 v2) 51 (Value.bool true)) 52 v3) 53 v4) 54 v5) 55 v6) 56 v7) 57 v8) 58 v9) 59 v10) 60 v11) 61 v12) 62 v12) h)
(Q .normal (RG.p (RG.p (RG.p (RG.p (RG.p (RG.p (RG.p (RG.p (RG.p (RG.p (RG.p (RG.p (RG.p (RG.p (RG.p f 49 v1) 50 v2) 51 v2) 51 (Value.bool true)) 52 v3) 53 v4) 54 v5) 55 v6) 56 v7) 57 v8) 58 v9) 59 v10) 60 v11) 61 v12) 62 v12) h))
(Q .normal (RG.p (RG.p (RG.p (RG.p (RG.p (RG.p (RG.p (RG.p (RG.p (RG.p (RG.p (RG.p (RG.p (RG.p (RG.p f 49 v1) 50 v2) 51 v2) 51 (Value.bool false)) 52 undef) 53 undef) 54 undef) 55 undef) 56 undef) 57 undef) 58 undef) 59 undef) 60 undef) 61 undef) 62 (Value.bool false)) h)) := by kernel_rfl
theorem q27_6 {f : RG} {fr : FuncId} {Q : QT} : W prog J 75 n0 fr (subC [1, 1, 1, 1, 1, 1, 1, 0, 1, 0, 0, 1, 1, 0, 0, 1, 1, 0] (codeOf f27)) f h Q =
(Good prog J 74 [(f.r 14), (vint 1)] h fun v1 h2 =>
 Q .normal (RG.p f 63 v1) h2) := by kernel_rfl
theorem q27_7 {f : RG} {fr : FuncId} {Q : QT} : W prog J 75 n0 fr (subC [1, 1, 1, 1, 1, 1, 1, 0, 1, 0, 0, 1, 1, 1] (codeOf f27)) f h Q =
(aBin prog .add 3 (f.r 46) (vint 1) fun v1 =>
 Q .normal (RG.p (RG.p f 65 v1) 46 v1) h) := by kernel_rfl
theorem q27_8 {f : RG} {fr : FuncId} {Q : QT} : W prog J 75 n0 fr (subC [1, 1, 1, 1, 1, 1, 1, 1, 0] (codeOf f27)) f h Q =
(Good prog J 80 [(f.r 14)] h fun v1 h2 =>
 Q .normal (RG.p f 66 v1) h2) := by kernel_rfl
noncomputable def ops27_1 : Array Oper := opsAt [1, 1, 1, 1, 1, 1, 0] (codeOf f27)
theorem z27_1 : ops27_1.size = 1 := by kernel_rfl
noncomputable def p27_1_0 : Oper := opGet ops27_1 0
theorem o27_1_0 {J : JT} : ops27_1[0]? = some p27_1_0 ∧ p27_1_0.dst = some 14 ∧ dstOk 75 p27_1_0 = true ∧ (∀ r, gd ops27_1 p27_1_0 r = some true) ∧ (∀ (f : RG) (h : List AObj) (H : Value → List AObj → Prop), opW prog (Good prog J) p27_1_0 f.r h H = (aAlloc [(Value.int .u64 0), (Value.int .u32 0)] h fun v1 h2 =>
 H v1 h2)) := ⟨by kernel_rfl, by kernel_rfl, by kernel_rfl, fun _ => by kernel_rfl, fun _ _ _ => by kernel_rfl⟩
noncomputable def ops27_2 : Array Oper := opsAt [1, 1, 1, 1, 1, 1, 1, 0, 1, 0, 0, 1, 1, 0, 0, 1, 1, 1] (codeOf f27)
theorem z27_2 : ops27_2.size = 2 := by kernel_rfl
noncomputable def p27_2_0 : Oper := opGet ops27_2 0
theorem o27_2_0 {J : JT} : ops27_2[0]? = some p27_2_0 ∧ p27_2_0.dst = some 64 ∧ dstOk 75 p27_2_0 = true ∧ (∀ r, gd ops27_2 p27_2_0 r = some true) ∧ (∀ (f : RG) (h : List AObj) (H : Value → List AObj → Prop), opW prog (Good prog J) p27_2_0 f.r h H = (aMkF 75 [] [(f.r 14), (f.r 3), (f.r 4), (f.r 15), (f.r 5), (f.r 13)] fun v1 =>
 H v1 h)) := ⟨by kernel_rfl, by kernel_rfl, by kernel_rfl, fun _ => by kernel_rfl, fun _ _ _ => by kernel_rfl⟩
noncomputable def p27_2_1 : Oper := opGet ops27_2 1
theorem o27_2_1 {J : JT} : ops27_2[1]? = some p27_2_1 ∧ p27_2_1.dst = none ∧ dstOk 75 p27_2_1 = true ∧ (∀ r, gd ops27_2 p27_2_1 r = some true) ∧ (p27_2_1.op = (Go.Op.go { callee := (Go.Callee.value (Go.Operand.tmp 64)), args := #[], argTypes := #[] })) := ⟨by kernel_rfl, by kernel_rfl, by kernel_rfl, fun _ => by kernel_rfl, by kernel_rfl⟩
def pl27t : Plans := [(21, true, .take 0 (.take 1 (.take 2 (.take 3 (.take 4 (.take 5 (.take 6 (.take 7 (.take 8 (.take 9 (.take 10 (.take 11 (.take 12 (.take 13 (.fin)))))))))))))))]
def ct27t : Cuts := .bin (.go) (.bin (.go) (.bin (.go) (.bin (.go) (.bin (.go) (.bin (.go) (.bin (.go) (.bin (.go) (.bin (.go) (.cut (.go))))))))))
theorem pok27t : plansOk prog pl27t (codeOf f27) = true := by kernel_rfl
theorem s27t_1 {f : RG} : W prog J 75 n0 27 (subC [1, 1, 1, 1, 1, 1, 1, 1, 1] (codeOf f27)) f h (contX pl27t prog J 75 n0 27 ct27t [1, 1, 1, 1, 1, 1, 1, 1, 1] (codeOf f27) [] (RetQ prog [.tmp 6, .tmp 7] n0 K)) =
(aLoad true 3 (f.r 13) h fun v1 =>
 Sem J 75 n0 27 (subC [1, 1, 1, 1, 1, 1, 1, 1, 1, 0, 1, 0] (codeOf f27)) (RG.p (RG.p f 67 v1) 68 (vint 0)) h (contX pl27t prog J 75 n0 27 ct27t [1, 1, 1, 1, 1, 1, 1, 1, 1, 0, 1, 0] (codeOf f27) [] (RetQ prog [.tmp 6, .tmp 7] n0 K))) := sub_eq pok27t ct27t (by kernel_rfl)
theorem s27t_2 {f : RG} {nx0 : RG → List AObj → Prop} : W prog J 75 n0 27 (subC [1, 1, 1, 1, 1, 1, 1, 1, 1, 0, 1, 0, 0] (codeOf f27)) f h (thenK nx0 (contX pl27t prog J 75 n0 27 ct27t [1, 1, 1, 1, 1, 1, 1, 1, 1, 0, 1, 0] (codeOf f27) [] (RetQ prog [.tmp 6, .tmp 7] n0 K))) =
(aBin prog .lss 3 (f.r 68) (vint 3) fun v1 =>
 cnd v1
(aIdxV 3 1 false (f.r 67) (f.r 68) fun v2 =>
 aBin prog .neq 25 v2 (Value.slice none 0 0) fun v3 =>
 cnd v3
(retL n0 K f.ds [v2, (vint 0)] h)
(aBin prog .add 3 (f.r 68) (vint 1) fun v4 =>
 nx0 (RG.p (RG.p (RG.p (RG.p (RG.p (RG.p (RG.p f 69 v1) 70 v2) 17 v2) 71 v2) 72 v3) 74 v4) 68 v4) h))
(retL n0 K f.ds [(Value.slice none 0 0), (vint 11)] h)) := sub_eq pok27t ct27t (by kernel_rfl)
theorem l27t_2 (hJ : Closed prog main J) {S : Type} (μ : S → Nat) (I : S → RG → List AObj → Prop) (hI : ∀ s f h, I s f h → heapOk h → n0 ≤ h.length → W prog J 75 n0 27 (subC [1, 1, 1, 1, 1, 1, 1, 1, 1, 0, 1, 0, 0] (codeOf f27)) f h (thenK (Nx n0 μ I s) (contX pl27t prog J 75 n0 27 ct27t [1, 1, 1, 1, 1, 1, 1, 1, 1, 0, 1, 0] (codeOf f27) [] (RetQ prog [.tmp 6, .tmp 7] n0 K))))
  {s : S} {f : RG} (hi : Gets n0 I s f h) : Sem J 75 n0 27 (subC [1, 1, 1, 1, 1, 1, 1, 1, 1, 0, 1, 0] (codeOf f27)) f h (contX pl27t prog J 75 n0 27 ct27t [1, 1, 1, 1, 1, 1, 1, 1, 1, 0, 1, 0] (codeOf f27) [] (RetQ prog [.tmp 6, .tmp 7] n0 K)) :=
  loop_rule hJ mixed (b := subC [1, 1, 1, 1, 1, 1, 1, 1, 1, 0, 1, 0, 0] (codeOf f27)) (by kernel_rfl) μ I hI hi
end
section
variable {main : Bool} {J : JT} {n0 : Nat} {h : List AObj} {K : Value → List AObj → Prop}
theorem at75 : prog.funcs[75]? = some f75 := by kernel_rfl
theorem body75 : f75.body = some (codeOf f75) := by kernel_rfl
theorem q75_1 {f : RG} {fr : FuncId} {Q : QT} : W prog J 50 n0 fr (subC [1, 0] (codeOf f75)) f h Q =
((∃ B, aLoad false 1 (f.r 1) h fun v1 =>
 RdOk (some B) (ptrBlk (f.r 1)) ∧ (aLoad false 1 (f.r 1) h fun v2 =>
 RdOk (some B) (ptrBlk (f.r 1)) ∧ (aLoad true 3 (f.r 2) h fun v3 =>
 RdOk (some B) (ptrBlk (f.r 2)) ∧ (aLoad false 1 (f.r 3) h fun v4 =>
 RdOk (some B) (ptrBlk (f.r 3)) ∧ (aLoad false 1 (f.r 4) h fun v5 =>
 RdOk (some B) (ptrBlk (f.r 4)) ∧ ((aNewM h fun v6 h7 =>
 SameB (some B) h h7 ∧ (Good prog J 78 [v1] h7 fun v8 h9 =>
 SameB (some B) h h9 ∧ (((VOk h9.length (Value.bool true) ∧ one (Value.bool true) = true) ∧ aUpdX prog 102 v6 v8 (Value.bool true) h9 fun h10 =>
 SameB (some B) h h10 ∧ (Good prog J 77 [v6, v2, v3, v4, v5] h10 fun v11 h12 =>
 SameB (some B) h h12 ∧ (aExt v11 0 fun v13 =>
 aExt v11 1 fun v14 =>
 Q .normal (RG.p (RG.p (RG.p (RG.p (RG.p (RG.p (RG.p (RG.p (RG.p (RG.p (RG.p (RG.p (RG.p (RG.p f 11 v1) 14 v2) 15 v3) 16 v4) 17 v5) 10 v6) 12 v8) 13 v6) 18 v11) 9 v11) 19 v13) 20 v14) 6 v13) 7 v14) h12)))))) ∧ (Good prog J 78 [v1] h fun v15 h16 =>
 SameB (some B) h h16 ∧ (aNewM h16 fun v17 h18 =>
 SameB (some B) h h18 ∧ (((VOk h18.length (Value.bool true) ∧ one (Value.bool true) = true) ∧ aUpdX prog 102 v17 v15 (Value.bool true) h18 fun h19 =>
 SameB (some B) h h19 ∧ (Good prog J 77 [v17, v2, v3, v4, v5] h19 fun v20 h21 =>
 SameB (some B) h h21 ∧ (aExt v20 0 fun v22 =>
 aExt v20 1 fun v23 =>
 Q .normal (RG.p (RG.p (RG.p (RG.p (RG.p (RG.p (RG.p (RG.p (RG.p (RG.p (RG.p (RG.p (RG.p (RG.p f 11 v1) 14 v2) 15 v3) 16 v4) 17 v5) 12 v15) 10 v17) 13 v17) 18 v20) 9 v20) 19 v22) 20 v23) 6 v22) 7 v23) h21))))))))))))) := by kernel_rfl
theorem q75_2 {f : RG} {fr : FuncId} {Q : QT} : W prog J 50 n0 fr (subC [1, 1] (codeOf f75)) f h Q =
(cnd (f.r 7)
(aOff (f.r 2) 0 fun v1 =>
 aLoad false 1 v1 h fun v2 =>
 aBin prog .eql 3 v2 (vint 1) fun v3 =>
 cnd v3
(aLoad false 1 (f.r 3) h fun v4 =>
 aLoad false 1 (f.r 3) h fun v5 =>
(((1 * 1 : Nat) ≤ 16777216 ∧ (1 : Nat) ≤ 16777216 ∧ List.length [(vint 0)] = 1) ∧ aFill (zrep [(vint 0)] 1) [(0, 1, v5)] fun c6 =>
 aNewS 1 c6 h fun v7 h8 =>
 aIdxA 3 1 (f.r 5) v4 fun v9 =>
 aStore 1 v9 v7 h8 fun h10 =>
 Q .normal (RG.p (RG.p (RG.p (RG.p (RG.p (RG.p (RG.p (RG.p (RG.p (RG.p (RG.p (RG.p f 22 (f.r 7)) 23 (f.r 7)) 23 (Value.bool true)) 24 v1) 25 v2) 26 v3) 27 v3) 21 v3) 28 v4) 29 v5) 30 v7) 31 v9) h10))
(cnd (f.r 7)
(aLoad false 1 (f.r 1) h fun v11 =>
 aLoad true 3 (f.r 2) h fun v12 =>
 aLoad false 1 (f.r 4) h fun v13 =>
 aOff (f.r 2) 0 fun v14 =>
 aLoad false 1 v14 h fun v15 =>
 aBin prog .sub 3 v15 (vint 1) fun v16 =>
 Good prog J 79 [(f.r 6), v11, v12, v13, v16] h fun v17 h18 =>
 aBin prog .neq 25 v17 (Value.slice none 0 0) fun v19 =>
 cnd v19
((∃ B, aLoad false 1 (f.r 3) h18 fun v20 =>
 RdOk (some B) (ptrBlk (f.r 3)) ∧ (aLoad false 1 (f.r 3) h18 fun v21 =>
 RdOk (some B) (ptrBlk (f.r 3)) ∧ ((((1 * 1 : Nat) ≤ 16777216 ∧ (1 : Nat) ≤ 16777216 ∧ List.length [(vint 0)] = 1) ∧ aFill (zrep [(vint 0)] 1) [(0, 1, v21)] fun c22 =>
 aNewS 1 c22 h18 fun v23 h24 =>
 SameB (some B) h18 h24 ∧ (((List.length [(vint 0)] = 1 ∧ 0 < (1 : Nat) ∧ 0 < (8 : Nat) ∧ (8 : Nat) ≤ 1024) ∧ aApp 1 v23 v17 h24 fun v25 h26 =>
 SameB (some B) h18 h26 ∧ (aIdxA 3 1 (f.r 5) v20 fun v27 =>
 aStore 1 v27 v25 h26 fun h28 =>
 Q .normal (RG.p (RG.p (RG.p (RG.p (RG.p (RG.p (RG.p (RG.p (RG.p (RG.p (RG.p (RG.p (RG.p (RG.p (RG.p (RG.p (RG.p (RG.p (RG.p (RG.p (RG.p (RG.p (RG.p (RG.p (RG.p (RG.p (RG.p f 22 (f.r 7)) 23 (f.r 7)) 23 (Value.bool true)) 24 v1) 25 v2) 26 v3) 27 v3) 21 v3) 33 (f.r 7)) 32 (f.r 7)) 34 (f.r 6)) 35 v11) 36 v12) 37 v13) 38 v14) 39 v15) 40 v16) 41 v17) 8 v17) 42 v17) 43 v19) 44 v20) 45 v21) 47 v17) 46 v23) 48 v25) 49 v27) h28))))))))
(Q .normal (RG.p (RG.p (RG.p (RG.p (RG.p (RG.p (RG.p (RG.p (RG.p (RG.p (RG.p (RG.p (RG.p (RG.p (RG.p (RG.p (RG.p (RG.p (RG.p (RG.p (RG.p f 22 (f.r 7)) 23 (f.r 7)) 23 (Value.bool true)) 24 v1) 25 v2) 26 v3) 27 v3) 21 v3) 33 (f.r 7)) 32 (f.r 7)) 34 (f.r 6)) 35 v11) 36 v12) 37 v13) 38 v14) 39 v15) 40 v16) 41 v17) 8 v17) 42 v17) 43 v19) h18))
(Q .normal (RG.p (RG.p (RG.p (RG.p (RG.p (RG.p (RG.p (RG.p (RG.p (RG.p f 22 (f.r 7)) 23 (f.r 7)) 23 (Value.bool true)) 24 v1) 25 v2) 26 v3) 27 v3) 21 v3) 33 (f.r 7)) 32 (f.r 7)) h)))
(cnd (f.r 7)
(aLoad false 1 (f.r 1) h fun v29 =>
 aLoad true 3 (f.r 2) h fun v30 =>
 aLoad false 1 (f.r 4) h fun v31 =>
 aOff (f.r 2) 0 fun v32 =>
 aLoad false 1 v32 h fun v33 =>
 aBin prog .sub 3 v33 (vint 1) fun v34 =>
 Good prog J 79 [(f.r 6), v29, v30, v31, v34] h fun v35 h36 =>
 aBin prog .neq 25 v35 (Value.slice none 0 0) fun v37 =>
 cnd v37
((∃ B, aLoad false 1 (f.r 3) h36 fun v38 =>
 RdOk (some B) (ptrBlk (f.r 3)) ∧ (aLoad false 1 (f.r 3) h36 fun v39 =>
 RdOk (some B) (ptrBlk (f.r 3)) ∧ ((((1 * 1 : Nat) ≤ 16777216 ∧ (1 : Nat) ≤ 16777216 ∧ List.length [(vint 0)] = 1) ∧ aFill (zrep [(vint 0)] 1) [(0, 1, v39)] fun c40 =>
 aNewS 1 c40 h36 fun v41 h42 =>
 SameB (some B) h36 h42 ∧ (((List.length [(vint 0)] = 1 ∧ 0 < (1 : Nat) ∧ 0 < (8 : Nat) ∧ (8 : Nat) ≤ 1024) ∧ aApp 1 v41 v35 h42 fun v43 h44 =>
 SameB (some B) h36 h44 ∧ (aIdxA 3 1 (f.r 5) v38 fun v45 =>
 aStore 1 v45 v43 h44 fun h46 =>
 Q .normal (RG.p (RG.p (RG.p (RG.p (RG.p (RG.p (RG.p (RG.p (RG.p (RG.p (RG.p (RG.p (RG.p (RG.p (RG.p (RG.p (RG.p (RG.p (RG.p (RG.p (RG.p (RG.p (RG.p (RG.p (RG.p (RG.p (RG.p f 22 (f.r 7)) 23 (f.r 7)) 23 (Value.bool false)) 24 undef) 25 undef) 26 undef) 27 (Value.bool false)) 21 (Value.bool false)) 33 (f.r 7)) 32 (f.r 7)) 34 (f.r 6)) 35 v29) 36 v30) 37 v31) 38 v32) 39 v33) 40 v34) 41 v35) 8 v35) 42 v35) 43 v37) 44 v38) 45 v39) 47 v35) 46 v41) 48 v43) 49 v45) h46))))))))
(Q .normal (RG.p (RG.p (RG.p (RG.p (RG.p (RG.p (RG.p (RG.p (RG.p (RG.p (RG.p (RG.p (RG.p (RG.p (RG.p (RG.p (RG.p (RG.p (RG.p (RG.p (RG.p f 22 (f.r 7)) 23 (f.r 7)) 23 (Value.bool false)) 24 undef) 25 undef) 26 undef) 27 (Value.bool false)) 21 (Value.bool false)) 33 (f.r 7)) 32 (f.r 7)) 34 (f.r 6)) 35 v29) 36 v30) 37 v31) 38 v32) 39 v33) 40 v34) 41 v35) 8 v35) 42 v35) 43 v37) h36))
(Q .normal (RG.p (RG.p (RG.p (RG.p (RG.p (RG.p (RG.p (RG.p (RG.p (RG.p f 22 (f.r 7)) 23 (f.r 7)) 23 (Value.bool false)) 24 undef) 25 undef) 26 undef) 27 (Value.bool false)) 21 (Value.bool false)) 33 (f.r 7)) 32 (f.r 7)) h))) := by kernel_rfl
noncomputable def ops75_1 : Array Oper := opsAt [0] (codeOf f75)
theorem r75_1 : subC [0] (codeOf f75) = .region 0 ops75_1 false := by kernel_rfl
theorem z75_1 : ops75_1.size = 1 := by kernel_rfl
noncomputable def p75_1_0 : Oper := opGet ops75_1 0
theorem o75_1_0 {J : JT} : ops75_1[0]? = some p75_1_0 ∧ p75_1_0.dst = none ∧ dstOk 50 p75_1_0 = true ∧ (∀ r, gd ops75_1 p75_1_0 r = some true) ∧ (∀ (f : RG) (h : List AObj) (H : Value → List AObj → Prop), opW prog (Good prog J) p75_1_0 f.r h H = (False)) := ⟨by kernel_rfl, by kernel_rfl, by kernel_rfl, fun _ => by kernel_rfl, fun _ _ _ => by kernel_rfl⟩
end
section
variable {main : Bool} {J : JT} {n0 : Nat} {h : List AObj} {K : Value → List AObj → Prop}
theorem at78 : prog.funcs[78]? = some f78 := by kernel_rfl
theorem body78 : f78.body = some (codeOf f78) := by kernel_rfl
def pl78 : Plans := []
def ct78 : Cuts := .go
theorem pok78 : plansOk prog pl78 (codeOf f78) = true := by kernel_rfl
theorem e78 {a0 : Value} : W prog J 21 h.length 78 (codeOf f78) (RG.mk (regs [a0]) []) h (RetQ prog [.cell 2 111] h.length K) =
(aAlloc [(vint 0), (vint 0), (vint 0), (vint 0), (vint 0), (vint 0), (Value.int .u8 0), (vint 0)] h fun v1 h2 =>
 aAlloc [(vint 0), (vint 0), (vint 0), (vint 0), (vint 0), (vint 0), (Value.int .u8 0), (vint 0)] h2 fun v3 h4 =>
 aLenS a0 fun v5 =>
 Sem J 21 h.length 78 (subC [1, 1, 0, 1, 0] (codeOf f78)) (RG.p (RG.p (RG.p (RG.p (RG.p (RG.mk (regs [a0]) []) 2 v1) 3 v3) 6 a0) 7 v5) 8 (vint 0)) h4 (contX pl78 prog J 21 h.length 78 ct78 [1, 1, 0, 1, 0] (codeOf f78) [] (RetQ prog [.cell 2 111] h.length K))) := top_eq pok78 ct78 (by kernel_rfl)
theorem g78 (hJ : Closed prog main J) {a0 : Value} (hs : heapOk h → W prog J 21 h.length 78 (codeOf f78) (RG.mk (regs [a0]) []) h (RetQ prog [.cell 2 111] h.length K)) : Good prog J 78 [a0] h K :=
  good_of_W hJ mixed at78 body78 (by kernel_rfl) (Nat.le_of_ble_eq_true rfl) hs
theorem s78_1 {f : RG} {nx0 : RG → List AObj → Prop} : W prog J 21 n0 78 (subC [1, 1, 0, 1, 0, 0] (codeOf f78)) f h (thenK nx0 (contX pl78 prog J 21 n0 78 ct78 [1, 1, 0, 1, 0] (codeOf f78) [] (RetQ prog [.cell 2 111] n0 K))) =
(aBin prog .lss 3 (f.r 8) (f.r 7) fun v1 =>
 cnd v1
(aIdx 6 (f.r 6) (f.r 8) fun v2 =>
 aLoad true 6 v2 h fun v3 =>
 aAlloc [(vint 0), (vint 0), (vint 0), (vint 0), (vint 0), (vint 0)] h fun v4 h5 =>
 aStore 6 v4 v3 h5 fun h6 =>
 aOff v4 0 fun v7 =>
 aLoad false 1 v7 h6 fun v8 =>
 aFill [(vint 0), (vint 0)] [(0, 1, v8)] fun c9 =>
 aOff (f.r 3) 0 fun v10 =>
 aIdxA 3 2 v10 (f.r 8) fun v11 =>
 aStore 2 v11 (Value.agg ⟨c9⟩) h6 fun h12 =>
 aBin prog .add 3 (f.r 8) (vint 1) fun v13 =>
 nx0 (RG.p (RG.p (RG.p (RG.p (RG.p (RG.p (RG.p (RG.p (RG.p (RG.p (RG.p (RG.p (RG.p (RG.p f 9 v1) 10 (f.r 8)) 11 v2) 12 v3) 5 v4) 4 (f.r 8)) 13 (f.r 8)) 14 v7) 15 v8) 16 (Value.agg ⟨c9⟩)) 17 v10) 18 v11) 19 v13) 8 v13) h12)
(aLoad true 8 (f.r 3) h fun v14 =>
 aStore 8 (f.r 2) v14 h fun h15 =>
 RetQ prog [.cell 2 111] n0 K .ret (RG.p (RG.p f 9 v1) 20 v14) h15)) := sub_eq pok78 ct78 (by kernel_rfl)
theorem l78_1 (hJ : Closed prog main J) {S : Type} (μ : S → Nat) (I : S → RG → List AObj → Prop) (hI : ∀ s f h, I s f h → heapOk h → n0 ≤ h.length → W prog J 21 n0 78 (subC [1, 1, 0, 1, 0, 0] (codeOf f78)) f h (thenK (Nx n0 μ I s) (contX pl78 prog J 21 n0 78 ct78 [1, 1, 0, 1, 0] (codeOf f78) [] (RetQ prog [.cell 2 111] n0 K))))
  {s : S} {f : RG} (hi : Gets n0 I s f h) : Sem J 21 n0 78 (subC [1, 1, 0, 1, 0] (codeOf f78)) f h (contX pl78 prog J 21 n0 78 ct78 [1, 1, 0, 1, 0] (codeOf f78) [] (RetQ prog [.cell 2 111] n0 K)) :=
  loop_rule hJ mixed (b := subC [1, 1, 0, 1, 0, 0] (codeOf f78)) (by kernel_rfl) μ I hI hi
theorem at77 : prog.funcs[77]? = some f77 := by kernel_rfl
theorem body77 : f77.body = some (codeOf f77) := by kernel_rfl
def pl77 : Plans := []
def ct77 : Cuts := .go
theorem pok77 : plansOk prog pl77 (codeOf f77) = true := by kernel_rfl
theorem e77 {a0 a1 a2 a3 a4 : Value} : W prog J 56 h.length 77 (codeOf f77) (RG.mk (regs [a0, a1, a2, a3, a4]) []) h (RetQ prog [.tmp 10, .tmp 11] h.length K) =
(aBox a2 h fun v1 h2 =>
 aNewM h2 fun v3 h4 =>
 aRange prog 102 a0 h4 fun v5 h6 =>
 Sem J 56 h.length 77 (subC [1, 1, 0, 1, 0] (codeOf f77)) (RG.p (RG.p (RG.p (RG.p (RG.p (RG.p (RG.p (RG.mk (regs [a0, a1, a2, a3, a4]) []) 7 v1) 10 (Value.map none)) 11 (Value.bool false)) 20 v3) 12 v3) 21 a0) 22 v5) h6 (contX pl77 prog J 56 h.length 77 ct77 [1, 1, 0, 1, 0] (codeOf f77) [] (RetQ prog [.tmp 10, .tmp 11] h.length K))) := top_eq pok77 ct77 (by kernel_rfl)
theorem g77 (hJ : Closed prog main J) {a0 a1 a2 a3 a4 : Value} (hs : heapOk h → W prog J 56 h.length 77 (codeOf f77) (RG.mk (regs [a0, a1, a2, a3, a4]) []) h (RetQ prog [.tmp 10, .tmp 11] h.length K)) : Good prog J 77 [a0, a1, a2, a3, a4] h K :=
  good_of_W hJ mixed at77 body77 (by kernel_rfl) (Nat.le_of_ble_eq_true rfl) hs
theorem s77_1 {f : RG} {nx0 : RG → List AObj → Prop} : W prog J 56 n0 77 (subC [1, 1, 0, 1, 0, 0] (codeOf f77)) f h (thenK nx0 (contX pl77 prog J 56 n0 77 ct77 [1, 1, 0, 1, 0] (codeOf f77) [] (RetQ prog [.tmp 10, .tmp 11] n0 K))) =
(aNext (f.r 22) h fun v1 h2 =>
 aExt v1 0 fun v3 =>
 cnd v3
(aEntry (f.r 22) h2 fun v4 =>
 aExt v4 0 fun v5 =>
 aAlloc [(vint 0), (vint 0), (vint 0), (vint 0), (vint 0), (vint 0), (Value.int .u8 0), (vint 0)] h2 fun v6 h7 =>
 aStore 8 v6 v5 h7 fun h8 =>
 aFill [(Value.int .u8 0), (Value.int .u8 0)] [(0, 1, (Value.int .u8 100)), (1, 1, (Value.int .u8 119))] fun c9 =>
 Sem J 56 n0 77 (subC [1, 1, 0, 1, 0, 0, 1, 1, 0, 1, 1, 0] (codeOf f77)) (RG.p (RG.p (RG.p (RG.p (RG.p (RG.p (RG.p f 23 v1) 24 v3) 25 v4) 26 v5) 13 v6) 27 (Value.agg ⟨c9⟩)) 28 (vint 0)) h8 (contX pl77 prog J 56 n0 77 ct77 [1, 1, 0, 1, 0, 0, 1, 1, 0, 1, 1, 0] (codeOf f77) [nx0] (RetQ prog [.tmp 10, .tmp 11] n0 K)))
(retL n0 K f.ds [(f.r 12), (Value.bool true)] h2)) := sub_eq pok77 ct77 (by kernel_rfl)
theorem l77_1 (hJ : Closed prog main J) {S : Type} (μ : S → Nat) (I : S → RG → List AObj → Prop) (hI : ∀ s f h, I s f h → heapOk h → n0 ≤ h.length → W prog J 56 n0 77 (subC [1, 1, 0, 1, 0, 0] (codeOf f77)) f h (thenK (Nx n0 μ I s) (contX pl77 prog J 56 n0 77 ct77 [1, 1, 0, 1, 0] (codeOf f77) [] (RetQ prog [.tmp 10, .tmp 11] n0 K))))
  {s : S} {f : RG} (hi : Gets n0 I s f h) : Sem J 56 n0 77 (subC [1, 1, 0, 1, 0] (codeOf f77)) f h (contX pl77 prog J 56 n0 77 ct77 [1, 1, 0, 1, 0] (codeOf f77) [] (RetQ prog [.tmp 10, .tmp 11] n0 K)) :=
  loop_rule hJ mixed (b := subC [1, 1, 0, 1, 0, 0] (codeOf f77)) (by kernel_rfl) μ I hI hi
theorem s77_2 {f : RG} {nx0 nx1 : RG → List AObj → Prop} : W prog J 56 n0 77 (subC [1, 1, 0, 1, 0, 0, 1, 1, 0, 1, 1, 0, 0] (codeOf f77)) f h (thenK nx1 (contX pl77 prog J 56 n0 77 ct77 [1, 1, 0, 1, 0, 0, 1, 1, 0, 1, 1, 0] (codeOf f77) [nx0] (RetQ prog [.tmp 10, .tmp 11] n0 K))) =
(aBin prog .lss 3 (f.r 28) (vint 2) fun v1 =>
 cnd v1
(aIdxV 2 1 false (f.r 27) (f.r 28) fun v2 =>
 aOff (f.r 13) 6 fun v3 =>
 aLoad true 2 v3 h fun v4 =>
 aLoad true 3 (f.r 7) h fun v5 =>
 Good prog J 117 [v4, v5, v2] h fun v6 h7 =>
 aExt v6 0 fun v8 =>
 aExt v6 1 fun v9 =>
 aAlloc [(Value.int .u8 0), (vint 0)] h7 fun v10 h11 =>
 aStore 2 v10 v8 h11 fun h12 =>
 aUn .not v9 fun v13 =>
 cnd v13
(aBin prog .add 3 (f.r 28) (vint 1) fun v14 =>
 nx1 (RG.p (RG.p (RG.p (RG.p (RG.p (RG.p (RG.p (RG.p (RG.p (RG.p (RG.p (RG.p (RG.p (RG.p (RG.p (RG.p (RG.p f 29 v1) 30 v2) 15 v2) 32 v3) 33 v4) 34 v5) 35 v2) 36 v6) 31 v6) 37 v8) 38 v9) 16 v10) 17 v9) 39 v9) 40 v13) 54 v14) 28 v14) h12)
(aLoad true 8 (f.r 13) h12 fun v15 =>
 aLoad true 2 v10 h12 fun v16 =>
 Good prog J 118 [v15, (f.r 1), (f.r 3), (f.r 4), v16] h12 fun v17 h18 =>
 aExt v17 0 fun v19 =>
 aExt v17 1 fun v20 =>
 aAlloc [(vint 0), (vint 0), (vint 0), (vint 0), (vint 0), (vint 0), (Value.int .u8 0), (vint 0)] h18 fun v21 h22 =>
 aStore 8 v21 v19 h22 fun h23 =>
 aUn .not v20 fun v24 =>
 cnd v24
(retL n0 K f.ds [(Value.map none), (Value.bool false)] h23)
(aLoad true 8 v21 h23 fun v25 =>
((VOk h23.length (Value.bool true) ∧ one (Value.bool true) = true) ∧ aUpdX prog 102 (f.r 12) v25 (Value.bool true) h23 fun h26 =>
 aBin prog .add 3 (f.r 28) (vint 1) fun v27 =>
 nx1 (RG.p (RG.p (RG.p (RG.p (RG.p (RG.p (RG.p (RG.p (RG.p (RG.p (RG.p (RG.p (RG.p (RG.p (RG.p (RG.p (RG.p (RG.p (RG.p (RG.p (RG.p (RG.p (RG.p (RG.p (RG.p (RG.p (RG.p (RG.p (RG.p (RG.p (RG.p (RG.p f 29 v1) 30 v2) 15 v2) 32 v3) 33 v4) 34 v5) 35 v2) 36 v6) 31 v6) 37 v8) 38 v9) 16 v10) 17 v9) 39 v9) 40 v13) 42 v15) 43 (f.r 1)) 44 (f.r 3)) 45 (f.r 4)) 46 v16) 47 v17) 41 v17) 48 v19) 49 v20) 18 v21) 19 v20) 50 v20) 51 v24) 52 (f.r 12)) 53 v25) 54 v27) 28 v27) h26))))
(nx0 (RG.p f 29 v1) h)) := sub_eq pok77 ct77 (by kernel_rfl)
theorem l77_2 (hJ : Closed prog main J) {nx0 : RG → List AObj → Prop} {S : Type} (μ : S → Nat) (I : S → RG → List AObj → Prop) (hI : ∀ s f h, I s f h → heapOk h → n0 ≤ h.length → W prog J 56 n0 77 (subC [1, 1, 0, 1, 0, 0, 1, 1, 0, 1, 1, 0, 0] (codeOf f77)) f h (thenK (Nx n0 μ I s) (contX pl77 prog J 56 n0 77 ct77 [1, 1, 0, 1, 0, 0, 1, 1, 0, 1, 1, 0] (codeOf f77) [nx0] (RetQ prog [.tmp 10, .tmp 11] n0 K))))
  {s : S} {f : RG} (hi : Gets n0 I s f h) : Sem J 56 n0 77 (subC [1, 1, 0, 1, 0, 0, 1, 1, 0, 1, 1, 0] (codeOf f77)) f h (contX pl77 prog J 56 n0 77 ct77 [1, 1, 0, 1, 0, 0, 1, 1, 0, 1, 1, 0] (codeOf f77) [nx0] (RetQ prog [.tmp 10, .tmp 11] n0 K)) :=
  loop_rule hJ mixed (b := subC [1, 1, 0, 1, 0, 0, 1, 1, 0, 1, 1, 0, 0] (codeOf f77)) (by kernel_rfl) μ I hI hi
theorem at79 : prog.funcs[79]? = some f79 := by kernel_rfl
theorem body79 : f79.body = some (codeOf f79) := by kernel_rfl
def pl79 : Plans := []
def ct79 : Cuts := .go
theorem pok79 : plansOk prog pl79 (codeOf f79) = true := by kernel_rfl
theorem e79 {a0 a1 a2 a3 a4 : Value} : W prog J 49 h.length 79 (codeOf f79) (RG.mk (regs [a0, a1, a2, a3, a4]) []) h (RetQ prog [.tmp 10] h.length K) =
(aBox a2 h fun v1 h2 =>
 aLenS a1 fun v3 =>
 Sem J 49 h.length 79 (subC [1, 0, 1, 0] (codeOf f79)) (RG.p (RG.p (RG.p (RG.p (RG.p (RG.mk (regs [a0, a1, a2, a3, a4]) []) 7 v1) 10 (Value.slice none 0 0)) 15 a1) 16 v3) 17 (vint 0)) h2 (contX pl79 prog J 49 h.length 79 ct79 [1, 0, 1, 0] (codeOf f79) [] (RetQ prog [.tmp 10] h.length K))) := top_eq pok79 ct79 (by kernel_rfl)
theorem g79 (hJ : Closed prog main J) {a0 a1 a2 a3 a4 : Value} (hs : heapOk h → W prog J 49 h.length 79 (codeOf f79) (RG.mk (regs [a0, a1, a2, a3, a4]) []) h (RetQ prog [.tmp 10] h.length K)) : Good prog J 79 [a0, a1, a2, a3, a4] h K :=
  good_of_W hJ mixed at79 body79 (by kernel_rfl) (Nat.le_of_ble_eq_true rfl) hs
theorem s79_1 {f : RG} {nx0 : RG → List AObj → Prop} : W prog J 49 n0 79 (subC [1, 0, 1, 0, 0] (codeOf f79)) f h (thenK nx0 (contX pl79 prog J 49 n0 79 ct79 [1, 0, 1, 0] (codeOf f79) [] (RetQ prog [.tmp 10] n0 K))) =
(aBin prog .lss 3 (f.r 17) (f.r 16) fun v1 =>
 cnd v1
(aLoad true 3 (f.r 7) h fun v2 =>
 Good prog J 77 [(f.r 0), (f.r 1), v2, (f.r 17), (f.r 3)] h fun v3 h4 =>
 aExt v3 0 fun v5 =>
 aExt v3 1 fun v6 =>
 aUn .not v6 fun v7 =>
 cnd v7
(aBin prog .add 3 (f.r 17) (vint 1) fun v8 =>
 nx0 (RG.p (RG.p (RG.p (RG.p (RG.p (RG.p (RG.p (RG.p (RG.p (RG.p (RG.p (RG.p (RG.p (RG.p (RG.p (RG.p (RG.p (RG.p f 18 v1) 19 (f.r 17)) 11 (f.r 17)) 21 (f.r 0)) 22 (f.r 1)) 23 v2) 24 (f.r 17)) 25 (f.r 3)) 26 v3) 20 v3) 27 v5) 28 v6) 12 v5) 13 v6) 29 v6) 30 v7) 48 v8) 17 v8) h4)
(aBin prog .eql 3 (f.r 4) (vint 1) fun v9 =>
 cnd v9
((((1 * 1 : Nat) ≤ 16777216 ∧ (1 : Nat) ≤ 16777216 ∧ List.length [(vint 0)] = 1) ∧ aFill (zrep [(vint 0)] 1) [(0, 1, (f.r 17))] fun c10 =>
 aNewS 1 c10 h4 fun v11 h12 =>
 retL n0 K f.ds [v11] h12))
(aLoad true 3 (f.r 7) h4 fun v13 =>
 aBin prog .sub 3 (f.r 4) (vint 1) fun v14 =>
 Good prog J 79 [v5, (f.r 1), v13, (f.r 3), v14] h4 fun v15 h16 =>
 aBin prog .neq 25 v15 (Value.slice none 0 0) fun v17 =>
 cnd v17
((((1 * 1 : Nat) ≤ 16777216 ∧ (1 : Nat) ≤ 16777216 ∧ List.length [(vint 0)] = 1) ∧ aFill (zrep [(vint 0)] 1) [(0, 1, (f.r 17))] fun c18 =>
 aNewS 1 c18 h16 fun v19 h20 =>
((List.length [(vint 0)] = 1 ∧ 0 < (1 : Nat) ∧ 0 < (8 : Nat) ∧ (8 : Nat) ≤ 1024) ∧ aApp 1 v19 v15 h20 fun v21 h22 =>
 retL n0 K f.ds [v21] h22)))
(aBin prog .add 3 (f.r 17) (vint 1) fun v23 =>
 nx0 (RG.p (RG.p (RG.p (RG.p (RG.p (RG.p (RG.p (RG.p (RG.p (RG.p (RG.p (RG.p (RG.p (RG.p (RG.p (RG.p (RG.p (RG.p (RG.p (RG.p (RG.p (RG.p (RG.p (RG.p (RG.p (RG.p (RG.p (RG.p (RG.p (RG.p f 18 v1) 19 (f.r 17)) 11 (f.r 17)) 21 (f.r 0)) 22 (f.r 1)) 23 v2) 24 (f.r 17)) 25 (f.r 3)) 26 v3) 20 v3) 27 v5) 28 v6) 12 v5) 13 v6) 29 v6) 30 v7) 31 (f.r 4)) 32 v9) 35 v5) 36 (f.r 1)) 37 v13) 38 (f.r 3)) 39 (f.r 4)) 40 v14) 41 v15) 14 v15) 42 v15) 43 v17) 48 v23) 17 v23) h16))))
(retL n0 K f.ds [(Value.slice none 0 0)] h)) := sub_eq pok79 ct79 (by kernel_rfl)
theorem l79_1 (hJ : Closed prog main J) {S : Type} (μ : S → Nat) (I : S → RG → List AObj → Prop) (hI : ∀ s f h, I s f h → heapOk h → n0 ≤ h.length → W prog J 49 n0 79 (subC [1, 0, 1, 0, 0] (codeOf f79)) f h (thenK (Nx n0 μ I s) (contX pl79 prog J 49 n0 79 ct79 [1, 0, 1, 0] (codeOf f79) [] (RetQ prog [.tmp 10] n0 K))))
  {s : S} {f : RG} (hi : Gets n0 I s f h) : Sem J 49 n0 79 (subC [1, 0, 1, 0] (codeOf f79)) f h (contX pl79 prog J 49 n0 79 ct79 [1, 0, 1, 0] (codeOf f79) [] (RetQ prog [.tmp 10] n0 K)) :=
  loop_rule hJ mixed (b := subC [1, 0, 1, 0, 0] (codeOf f79)) (by kernel_rfl) μ I hI hi
theorem at118 : prog.funcs[118]? = some f118 := by kernel_rfl
theorem body118 : f118.body = some (codeOf f118) := by kernel_rfl
def pl118 : Plans := [(8, false, .take 0 (.take 1 (.take 2 (.take 3 (.take 4 (.take 5 (.last 6 true (.last 7 false (.fin)))))))))]
def ct118 : Cuts := .bin (.go) (.bin (.go) (.bin (.bin (.go) (.un (.un (.bin (.go) (.bin (.go) (.bin (.un (.bin (.go) (.bin (.go) (.bin (.go) (.cut (.go)))))) (.go))))))) (.go)))
theorem pok118 : plansOk prog pl118 (codeOf f118) = true := by kernel_rfl
theorem e118 {a0 a1 a2 a3 a4 : Value} : W prog J 55 h.length 118 (codeOf f118) (RG.mk (regs [a0, a1, a2, a3, a4]) []) h (RetQ prog [.cell 10 111, .tmp 11] h.length K) =
(aBox a0 h fun v1 h2 =>
 aBox a4 h2 fun v3 h4 =>
 aAlloc [(vint 0), (vint 0), (vint 0), (vint 0), (vint 0), (vint 0), (Value.int .u8 0), (vint 0)] h4 fun v5 h6 =>
 aLenS a1 fun v7 =>
 Sem J 55 h.length 118 (subC [1, 1, 0, 1, 0] (codeOf f118)) (RG.p (RG.p (RG.p (RG.p (RG.p (RG.p (RG.p (RG.p (RG.mk (regs [a0, a1, a2, a3, a4]) []) 5 v1) 9 v3) 10 v5) 11 (Value.bool false)) 12 (Value.bool true)) 19 a1) 20 v7) 21 (vint 0)) h6 (contX pl118 prog J 55 h.length 118 ct118 [1, 1, 0, 1, 0] (codeOf f118) [] (RetQ prog [.cell 10 111, .tmp 11] h.length K))) := top_eq pok118 ct118 (by kernel_rfl)
theorem g118 (hJ : Closed prog main J) {a0 a1 a2 a3 a4 : Value} (hs : heapOk h → W prog J 55 h.length 118 (codeOf f118) (RG.mk (regs [a0, a1, a2, a3, a4]) []) h (RetQ prog [.cell 10 111, .tmp 11] h.length K)) : Good prog J 118 [a0, a1, a2, a3, a4] h K :=
  good_of_W hJ mixed at118 body118 (by kernel_rfl) (Nat.le_of_ble_eq_true rfl) hs
theorem s118_1 {f : RG} {nx0 : RG → List AObj → Prop} : W prog J 55 n0 118 (subC [1, 1, 0, 1, 0, 0] (codeOf f118)) f h (thenK nx0 (contX pl118 prog J 55 n0 118 ct118 [1, 1, 0, 1, 0] (codeOf f118) [] (RetQ prog [.cell 10 111, .tmp 11] n0 K))) =
(aBin prog .lss 3 (f.r 21) (f.r 20) fun v1 =>
 cnd v1
(aIdx 6 (f.r 19) (f.r 21) fun v2 =>
 aLoad true 6 v2 h fun v3 =>
 aAlloc [(vint 0), (vint 0), (vint 0), (vint 0), (vint 0), (vint 0)] h fun v4 h5 =>
 aStore 6 v4 v3 h5 fun h6 =>
 aBin prog .eql 3 (f.r 21) (f.r 2) fun v7 =>
 cnd v7
(Hold (W prog J 55 n0 118 (subC [1, 1, 0, 1, 0, 0, 1, 1, 0, 0, 1, 1, 1] (codeOf f118)) (RG.p (RG.p (RG.p (RG.p (RG.p (RG.p (RG.p (RG.p (RG.p (RG.p (RG.p (RG.p f 22 v1) 23 (f.r 21)) 24 v2) 25 v3) 14 v4) 13 (f.r 21)) 15 (vint 0)) 26 (f.r 21)) 27 (f.r 2)) 28 v7) 29 (f.r 3)) 15 (f.r 3)) h6 (contX pl118 prog J 55 n0 118 ct118 [1, 1, 0, 1, 0, 0, 1, 1, 0, 0, 1, 1, 1] (codeOf f118) [nx0] (RetQ prog [.cell 10 111, .tmp 11] n0 K))))
(Hold (W prog J 55 n0 118 (subC [1, 1, 0, 1, 0, 0, 1, 1, 0, 0, 1, 1, 1] (codeOf f118)) (RG.p (RG.p (RG.p (RG.p (RG.p (RG.p (RG.p (RG.p (RG.p (RG.p f 22 v1) 23 (f.r 21)) 24 v2) 25 v3) 14 v4) 13 (f.r 21)) 15 (vint 0)) 26 (f.r 21)) 27 (f.r 2)) 28 v7) h6 (contX pl118 prog J 55 n0 118 ct118 [1, 1, 0, 1, 0, 0, 1, 1, 0, 0, 1, 1, 1] (codeOf f118) [nx0] (RetQ prog [.cell 10 111, .tmp 11] n0 K)))))
(aLoad true 2 (f.r 9) h fun v8 =>
 aOff (f.r 5) 6 fun v9 =>
 aStore 2 v9 v8 h fun h10 =>
 aLoad true 8 (f.r 5) h10 fun v11 =>
 aStore 8 (f.r 10) v11 h10 fun h12 =>
 RetQ prog [.cell 10 111, .tmp 11] n0 K .ret (RG.p (RG.p (RG.p (RG.p (RG.p (RG.p f 22 v1) 51 v8) 52 v9) 53 v11) 54 (f.r 12)) 11 (f.r 12)) h12)) := sub_eq pok118 ct118 (by kernel_rfl)
theorem l118_1 (hJ : Closed prog main J) {S : Type} (μ : S → Nat) (I : S → RG → List AObj → Prop) (hI : ∀ s f h, I s f h → heapOk h → n0 ≤ h.length → W prog J 55 n0 118 (subC [1, 1, 0, 1, 0, 0] (codeOf f118)) f h (thenK (Nx n0 μ I s) (contX pl118 prog J 55 n0 118 ct118 [1, 1, 0, 1, 0] (codeOf f118) [] (RetQ prog [.cell 10 111, .tmp 11] n0 K))))
  {s : S} {f : RG} (hi : Gets n0 I s f h) : Sem J 55 n0 118 (subC [1, 1, 0, 1, 0] (codeOf f118)) f h (contX pl118 prog J 55 n0 118 ct118 [1, 1, 0, 1, 0] (codeOf f118) [] (RetQ prog [.cell 10 111, .tmp 11] n0 K)) :=
  loop_rule hJ mixed (b := subC [1, 1, 0, 1, 0, 0] (codeOf f118)) (by kernel_rfl) μ I hI hi
theorem s118_2 {f : RG} {nx0 : RG → List AObj → Prop} : W prog J 55 n0 118 (subC [1, 1, 0, 1, 0, 0, 1, 1, 0, 0, 1, 1, 1] (codeOf f118)) f h (contX pl118 prog J 55 n0 118 ct118 [1, 1, 0, 1, 0, 0, 1, 1, 0, 0, 1, 1, 1] (codeOf f118) [nx0] (RetQ prog [.cell 10 111, .tmp 11] n0 K)) =
((∃ B, aLoad true 6 (f.r 14) h fun v1 =>
 RdOk (some B) (ptrBlk (f.r 14)) ∧ (aOff (f.r 5) 0 fun v2 =>
 aIdxA 3 2 v2 (f.r 13) fun v3 =>
 aLoad true 2 v3 h fun v4 =>
 RdOk (some B) (ptrBlk v3) ∧ (aFill [(vint 0), (vint 0), (vint 0), (vint 0), (vint 0), (vint 0), (vint 0), (vint 0)] [(0, 6, v1), (6, 2, v4)] fun c5 =>
 aAlloc [(vint 0), (vint 0), (vint 0), (vint 0), (vint 0), (vint 0), (vint 0), (vint 0)] h fun v6 h7 =>
 SameB (some B) h h7 ∧ (aStore 8 v6 (Value.agg ⟨c5⟩) h7 fun h8 =>
 aOff (f.r 9) 0 fun v9 =>
 aLoad false 1 v9 h8 fun v10 =>
 aBin prog .eql 5 v10 (Value.int .u8 119) fun v11 =>
 Good prog J 126 [v6, (f.r 15), v11] h8 fun v12 h13 =>
 aExt v12 0 fun v14 =>
 aExt v12 1 fun v15 =>
 cnd v14
(aOff v6 6 fun v16 =>
 aLoad true 2 v16 h13 fun v17 =>
 aOff (f.r 5) 0 fun v18 =>
 aIdxA 3 2 v18 (f.r 13) fun v19 =>
 aStore 2 v19 v17 h13 fun h20 =>
 aBin prog .add 3 (f.r 21) (vint 1) fun v21 =>
 nx0 (RG.p (RG.p (RG.p (RG.p (RG.p (RG.p (RG.p (RG.p (RG.p (RG.p (RG.p (RG.p (RG.p (RG.p (RG.p (RG.p (RG.p (RG.p (RG.p (RG.p (RG.p (RG.p (RG.p (RG.p (RG.p (RG.p f 30 v1) 31 (f.r 13)) 32 v2) 33 v3) 34 v4) 35 (Value.agg ⟨c5⟩)) 16 v6) 37 (f.r 15)) 38 v9) 39 v10) 40 v11) 41 v12) 36 v12) 42 v14) 43 v15) 17 v14) 18 v15) 44 v14) 12 (Value.bool false)) 45 (f.r 13)) 46 v16) 47 v17) 48 v18) 49 v19) 50 v21) 21 v21) h20)
(aOff v6 6 fun v22 =>
 aLoad true 2 v22 h13 fun v23 =>
 aOff (f.r 5) 0 fun v24 =>
 aIdxA 3 2 v24 (f.r 13) fun v25 =>
 aStore 2 v25 v23 h13 fun h26 =>
 aBin prog .add 3 (f.r 21) (vint 1) fun v27 =>
 nx0 (RG.p (RG.p (RG.p (RG.p (RG.p (RG.p (RG.p (RG.p (RG.p (RG.p (RG.p (RG.p (RG.p (RG.p (RG.p (RG.p (RG.p (RG.p (RG.p (RG.p (RG.p (RG.p (RG.p (RG.p (RG.p f 30 v1) 31 (f.r 13)) 32 v2) 33 v3) 34 v4) 35 (Value.agg ⟨c5⟩)) 16 v6) 37 (f.r 15)) 38 v9) 39 v10) 40 v11) 41 v12) 36 v12) 42 v14) 43 v15) 17 v14) 18 v15) 44 v14) 45 (f.r 13)) 46 v22) 47 v23) 48 v24) 49 v25) 50 v27) 21 v27) h26)))))) := sub_eq pok118 ct118 (by kernel_rfl)
end
section
variable {main : Bool} {J : JT} {n0 : Nat} {h : List AObj} {K : Value → List AObj → Prop}
theorem at73 : prog.funcs[73]? = some f73 := by kernel_rfl
theorem body73 : f73.body = some (codeOf f73) := by kernel_rfl
def pl73 : Plans := []
def ct73 : Cuts := .go
theorem pok73 : plansOk prog pl73 (codeOf f73) = true := by kernel_rfl
theorem e73 {a0 a1 a2 : Value} : W prog J 15 h.length 73 (codeOf f73) (RG.mk (regs [a0, a1, a2]) []) h (RetQ prog [.tmp 6] h.length K) =
(aBin prog .leq 3 a1 a0 fun v1 =>
 cnd v1
(aBin prog .leq 3 a0 a2 fun v2 =>
 retL h.length K [] [v2] h)
(retL h.length K [] [(Value.bool false)] h)) := top_eq pok73 ct73 (by kernel_rfl)
theorem g73 (hJ : Closed prog main J) {a0 a1 a2 : Value} (hs : heapOk h → W prog J 15 h.length 73 (codeOf f73) (RG.mk (regs [a0, a1, a2]) []) h (RetQ prog [.tmp 6] h.length K)) : Good prog J 73 [a0, a1, a2] h K :=
  good_of_W hJ mixed at73 body73 (by kernel_rfl) (Nat.le_of_ble_eq_true rfl) hs
theorem at36 : prog.funcs[36]? = some f36 := by kernel_rfl
theorem body36 : f36.body = some (codeOf f36) := by kernel_rfl
def pl36 : Plans := []
def ct36 : Cuts := .bin (.go) (.bin (.bin (.go) (.cut (.go))) (.go))
theorem pok36 : plansOk prog pl36 (codeOf f36) = true := by kernel_rfl
theorem e36 {a0 : Value} : W prog J 37 h.length 36 (codeOf f36) (RG.mk (regs [a0]) []) h (RetQ prog [.tmp 2] h.length K) =
(aBox a0 h fun v1 h2 =>
 aOff v1 1 fun v3 =>
 aLoad false 1 v3 h2 fun v4 =>
 Good prog J 73 [v4, (vint 1), (vint 99)] h2 fun v5 h6 =>
 cnd v5
(aOff v1 0 fun v7 =>
 aLoad false 1 v7 h6 fun v8 =>
 aOff v1 1 fun v9 =>
 aLoad false 1 v9 h6 fun v10 =>
 Good prog J 73 [v8, (vint 0), v10] h6 fun v11 h12 =>
 cnd v11
(aOff v1 2 fun v13 =>
 aLoad false 1 v13 h12 fun v14 =>
 Good prog J 73 [v14, (vint 0), (vint 9)] h12 fun v15 h16 =>
 cnd v15
(aOff v1 3 fun v17 =>
 aLoad false 1 v17 h16 fun v18 =>
 aOff v1 2 fun v19 =>
 aLoad false 1 v19 h16 fun v20 =>
 Good prog J 73 [v18, v20, (vint 9)] h16 fun v21 h22 =>
 cnd v21
(aOff v1 4 fun v23 =>
 aLoad false 1 v23 h22 fun v24 =>
 aOff v1 1 fun v25 =>
 aLoad false 1 v25 h22 fun v26 =>
 Good prog J 73 [v24, (vint 0), v26] h22 fun v27 h28 =>
 cnd v27
(aOff v1 5 fun v29 =>
 aLoad false 1 v29 h28 fun v30 =>
 Good prog J 73 [v30, (vint 0), (vint 5)] h28 fun v31 h32 =>
 Hold (W prog J 37 h.length 36 (subC [1, 0, 1] (codeOf f36)) (RG.p (RG.p (RG.p (RG.p (RG.p (RG.p (RG.p (RG.p (RG.p (RG.p (RG.p (RG.p (RG.p (RG.p (RG.p (RG.p (RG.p (RG.p (RG.p (RG.p (RG.p (RG.p (RG.p (RG.p (RG.p (RG.p (RG.p (RG.p (RG.p (RG.p (RG.p (RG.p (RG.p (RG.p (RG.p (RG.p (RG.p (RG.p (RG.p (RG.p (RG.p (RG.mk (regs [a0]) []) 1 v1) 2 (vint 0)) 3 v3) 4 v4) 5 v5) 6 v5) 6 (Value.bool true)) 7 v7) 8 v8) 9 v9) 10 v10) 11 v11) 12 v11) 13 v11) 13 (Value.bool true)) 14 v13) 15 v14) 16 v15) 17 v15) 18 v15) 18 (Value.bool true)) 19 v17) 20 v18) 21 v19) 22 v20) 23 v21) 24 v21) 25 v21) 25 (Value.bool true)) 26 v23) 27 v24) 28 v25) 29 v26) 30 v27) 31 v27) 32 v27) 32 (Value.bool true)) 33 v29) 34 v30) 35 v31) 36 v31) h32 (contX pl36 prog J 37 h.length 36 ct36 [1, 0, 1] (codeOf f36) [] (RetQ prog [.tmp 2] h.length K))))
(Hold (W prog J 37 h.length 36 (subC [1, 0, 1] (codeOf f36)) (RG.p (RG.p (RG.p (RG.p (RG.p (RG.p (RG.p (RG.p (RG.p (RG.p (RG.p (RG.p (RG.p (RG.p (RG.p (RG.p (RG.p (RG.p (RG.p (RG.p (RG.p (RG.p (RG.p (RG.p (RG.p (RG.p (RG.p (RG.p (RG.p (RG.p (RG.p (RG.p (RG.p (RG.p (RG.p (RG.p (RG.p (RG.p (RG.p (RG.p (RG.p (RG.mk (regs [a0]) []) 1 v1) 2 (vint 0)) 3 v3) 4 v4) 5 v5) 6 v5) 6 (Value.bool true)) 7 v7) 8 v8) 9 v9) 10 v10) 11 v11) 12 v11) 13 v11) 13 (Value.bool true)) 14 v13) 15 v14) 16 v15) 17 v15) 18 v15) 18 (Value.bool true)) 19 v17) 20 v18) 21 v19) 22 v20) 23 v21) 24 v21) 25 v21) 25 (Value.bool true)) 26 v23) 27 v24) 28 v25) 29 v26) 30 v27) 31 v27) 32 v27) 32 (Value.bool false)) 33 undef) 34 undef) 35 undef) 36 (Value.bool false)) h28 (contX pl36 prog J 37 h.length 36 ct36 [1, 0, 1] (codeOf f36) [] (RetQ prog [.tmp 2] h.length K)))))
(Hold (W prog J 37 h.length 36 (subC [1, 0, 1] (codeOf f36)) (RG.p (RG.p (RG.p (RG.p (RG.p (RG.p (RG.p (RG.p (RG.p (RG.p (RG.p (RG.p (RG.p (RG.p (RG.p (RG.p (RG.p (RG.p (RG.p (RG.p (RG.p (RG.p (RG.p (RG.p (RG.p (RG.p (RG.p (RG.p (RG.p (RG.p (RG.p (RG.p (RG.p (RG.p (RG.p (RG.p (RG.p (RG.p (RG.p (RG.p (RG.p (RG.mk (regs [a0]) []) 1 v1) 2 (vint 0)) 3 v3) 4 v4) 5 v5) 6 v5) 6 (Value.bool true)) 7 v7) 8 v8) 9 v9) 10 v10) 11 v11) 12 v11) 13 v11) 13 (Value.bool true)) 14 v13) 15 v14) 16 v15) 17 v15) 18 v15) 18 (Value.bool true)) 19 v17) 20 v18) 21 v19) 22 v20) 23 v21) 24 v21) 25 v21) 25 (Value.bool false)) 26 undef) 27 undef) 28 undef) 29 undef) 30 undef) 31 (Value.bool false)) 32 (Value.bool false)) 32 (Value.bool false)) 33 undef) 34 undef) 35 undef) 36 (Value.bool false)) h22 (contX pl36 prog J 37 h.length 36 ct36 [1, 0, 1] (codeOf f36) [] (RetQ prog [.tmp 2] h.length K)))))
(Hold (W prog J 37 h.length 36 (subC [1, 0, 1] (codeOf f36)) (RG.p (RG.p (RG.p (RG.p (RG.p (RG.p (RG.p (RG.p (RG.p (RG.p (RG.p (RG.p (RG.p (RG.p (RG.p (RG.p (RG.p (RG.p (RG.p (RG.p (RG.p (RG.p (RG.p (RG.p (RG.p (RG.p (RG.p (RG.p (RG.p (RG.p (RG.p (RG.p (RG.p (RG.p (RG.p (RG.p (RG.p (RG.p (RG.p (RG.p (RG.p (RG.mk (regs [a0]) []) 1 v1) 2 (vint 0)) 3 v3) 4 v4) 5 v5) 6 v5) 6 (Value.bool true)) 7 v7) 8 v8) 9 v9) 10 v10) 11 v11) 12 v11) 13 v11) 13 (Value.bool true)) 14 v13) 15 v14) 16 v15) 17 v15) 18 v15) 18 (Value.bool false)) 19 undef) 20 undef) 21 undef) 22 undef) 23 undef) 24 (Value.bool false)) 25 (Value.bool false)) 25 (Value.bool false)) 26 undef) 27 undef) 28 undef) 29 undef) 30 undef) 31 (Value.bool false)) 32 (Value.bool false)) 32 (Value.bool false)) 33 undef) 34 undef) 35 undef) 36 (Value.bool false)) h16 (contX pl36 prog J 37 h.length 36 ct36 [1, 0, 1] (codeOf f36) [] (RetQ prog [.tmp 2] h.length K)))))
(Hold (W prog J 37 h.length 36 (subC [1, 0, 1] (codeOf f36)) (RG.p (RG.p (RG.p (RG.p (RG.p (RG.p (RG.p (RG.p (RG.p (RG.p (RG.p (RG.p (RG.p (RG.p (RG.p (RG.p (RG.p (RG.p (RG.p (RG.p (RG.p (RG.p (RG.p (RG.p (RG.p (RG.p (RG.p (RG.p (RG.p (RG.p (RG.p (RG.p (RG.p (RG.p (RG.p (RG.p (RG.p (RG.p (RG.p (RG.p (RG.p (RG.mk (regs [a0]) []) 1 v1) 2 (vint 0)) 3 v3) 4 v4) 5 v5) 6 v5) 6 (Value.bool true)) 7 v7) 8 v8) 9 v9) 10 v10) 11 v11) 12 v11) 13 v11) 13 (Value.bool false)) 14 undef) 15 undef) 16 undef) 17 (Value.bool false)) 18 (Value.bool false)) 18 (Value.bool false)) 19 undef) 20 undef) 21 undef) 22 undef) 23 undef) 24 (Value.bool false)) 25 (Value.bool false)) 25 (Value.bool false)) 26 undef) 27 undef) 28 undef) 29 undef) 30 undef) 31 (Value.bool false)) 32 (Value.bool false)) 32 (Value.bool false)) 33 undef) 34 undef) 35 undef) 36 (Value.bool false)) h12 (contX pl36 prog J 37 h.length 36 ct36 [1, 0, 1] (codeOf f36) [] (RetQ prog [.tmp 2] h.length K)))))
(Hold (W prog J 37 h.length 36 (subC [1, 0, 1] (codeOf f36)) (RG.p (RG.p (RG.p (RG.p (RG.p (RG.p (RG.p (RG.p (RG.p (RG.p (RG.p (RG.p (RG.p (RG.p (RG.p (RG.p (RG.p (RG.p (RG.p (RG.p (RG.p (RG.p (RG.p (RG.p (RG.p (RG.p (RG.p (RG.p (RG.p (RG.p (RG.p (RG.p (RG.p (RG.p (RG.p (RG.p (RG.p (RG.p (RG.p (RG.p (RG.p (RG.mk (regs [a0]) []) 1 v1) 2 (vint 0)) 3 v3) 4 v4) 5 v5) 6 v5) 6 (Value.bool false)) 7 undef) 8 undef) 9 undef) 10 undef) 11 undef) 12 (Value.bool false)) 13 (Value.bool false)) 13 (Value.bool false)) 14 undef) 15 undef) 16 undef) 17 (Value.bool false)) 18 (Value.bool false)) 18 (Value.bool false)) 19 undef) 20 undef) 21 undef) 22 undef) 23 undef) 24 (Value.bool false)) 25 (Value.bool false)) 25 (Value.bool false)) 26 undef) 27 undef) 28 undef) 29 undef) 30 undef) 31 (Value.bool false)) 32 (Value.bool false)) 32 (Value.bool false)) 33 undef) 34 undef) 35 undef) 36 (Value.bool false)) h6 (contX pl36 prog J 37 h.length 36 ct36 [1, 0, 1] (codeOf f36) [] (RetQ prog [.tmp 2] h.length K))))) := top_eq pok36 ct36 (by kernel_rfl)
theorem g36 (hJ : Closed prog main J) {a0 : Value} (hs : heapOk h → W prog J 37 h.length 36 (codeOf f36) (RG.mk (regs [a0]) []) h (RetQ prog [.tmp 2] h.length K)) : Good prog J 36 [a0] h K :=
  good_of_W hJ mixed at36 body36 (by kernel_rfl) (Nat.le_of_ble_eq_true rfl) hs
theorem s36_1 {f : RG} : W prog J 37 n0 36 (subC [1, 0, 1] (codeOf f36)) f h (contX pl36 prog J 37 n0 36 ct36 [1, 0, 1] (codeOf f36) [] (RetQ prog [.tmp 2] n0 K)) =
(cnd (f.r 36)
(retL n0 K f.ds [(vint 0)] h)
(retL n0 K f.ds [(vint 1)] h)) := sub_eq pok36 ct36 (by kernel_rfl)
theorem at72 : prog.funcs[72]? = some f72 := by kernel_rfl
theorem body72 : f72.body = some (codeOf f72) := by kernel_rfl
def pl72 : Plans := []
def ct72 : Cuts := .bin (.go) (.bin (.bin (.go) (.cut (.go))) (.go))
theorem pok72 : plansOk prog pl72 (codeOf f72) = true := by kernel_rfl
theorem e72 {a0 : Value} : W prog J 20 h.length 72 (codeOf f72) (RG.mk (regs [a0]) []) h (RetQ prog [.tmp 2] h.length K) =
(aBox a0 h fun v1 h2 =>
 aOff v1 0 fun v3 =>
 aLoad false 1 v3 h2 fun v4 =>
 Good prog J 73 [v4, (vint 1), (vint 8)] h2 fun v5 h6 =>
 cnd v5
(aOff v1 1 fun v7 =>
 aLoad false 1 v7 h6 fun v8 =>
 aOff v1 0 fun v9 =>
 aLoad false 1 v9 h6 fun v10 =>
 Good prog J 73 [v8, (vint 1), v10] h6 fun v11 h12 =>
 cnd v11
(aOff v1 2 fun v13 =>
 aLoad false 1 v13 h12 fun v14 =>
 aOff v1 0 fun v15 =>
 aLoad false 1 v15 h12 fun v16 =>
 Good prog J 73 [v14, (vint 1), v16] h12 fun v17 h18 =>
 Hold (W prog J 20 h.length 72 (subC [1, 0, 1] (codeOf f72)) (RG.p (RG.p (RG.p (RG.p (RG.p (RG.p (RG.p (RG.p (RG.p (RG.p (RG.p (RG.p (RG.p (RG.p (RG.p (RG.p (RG.p (RG.p (RG.p (RG.p (RG.p (RG.mk (regs [a0]) []) 1 v1) 2 (vint 0)) 3 v3) 4 v4) 5 v5) 6 v5) 6 (Value.bool true)) 7 v7) 8 v8) 9 v9) 10 v10) 11 v11) 12 v11) 13 v11) 13 (Value.bool true)) 14 v13) 15 v14) 16 v15) 17 v16) 18 v17) 19 v17) h18 (contX pl72 prog J 20 h.length 72 ct72 [1, 0, 1] (codeOf f72) [] (RetQ prog [.tmp 2] h.length K))))
(Hold (W prog J 20 h.length 72 (subC [1, 0, 1] (codeOf f72)) (RG.p (RG.p (RG.p (RG.p (RG.p (RG.p (RG.p (RG.p (RG.p (RG.p (RG.p (RG.p (RG.p (RG.p (RG.p (RG.p (RG.p (RG.p (RG.p (RG.p (RG.p (RG.mk (regs [a0]) []) 1 v1) 2 (vint 0)) 3 v3) 4 v4) 5 v5) 6 v5) 6 (Value.bool true)) 7 v7) 8 v8) 9 v9) 10 v10) 11 v11) 12 v11) 13 v11) 13 (Value.bool false)) 14 undef) 15 undef) 16 undef) 17 undef) 18 undef) 19 (Value.bool false)) h12 (contX pl72 prog J 20 h.length 72 ct72 [1, 0, 1] (codeOf f72) [] (RetQ prog [.tmp 2] h.length K)))))
(Hold (W prog J 20 h.length 72 (subC [1, 0, 1] (codeOf f72)) (RG.p (RG.p (RG.p (RG.p (RG.p (RG.p (RG.p (RG.p (RG.p (RG.p (RG.p (RG.p (RG.p (RG.p (RG.p (RG.p (RG.p (RG.p (RG.p (RG.p (RG.p (RG.mk (regs [a0]) []) 1 v1) 2 (vint 0)) 3 v3) 4 v4) 5 v5) 6 v5) 6 (Value.bool false)) 7 undef) 8 undef) 9 undef) 10 undef) 11 undef) 12 (Value.bool false)) 13 (Value.bool false)) 13 (Value.bool false)) 14 undef) 15 undef) 16 undef) 17 undef) 18 undef) 19 (Value.bool false)) h6 (contX pl72 prog J 20 h.length 72 ct72 [1, 0, 1] (codeOf f72) [] (RetQ prog [.tmp 2] h.length K))))) := top_eq pok72 ct72 (by kernel_rfl)
theorem g72 (hJ : Closed prog main J) {a0 : Value} (hs : heapOk h → W prog J 20 h.length 72 (codeOf f72) (RG.mk (regs [a0]) []) h (RetQ prog [.tmp 2] h.length K)) : Good prog J 72 [a0] h K :=
  good_of_W hJ mixed at72 body72 (by kernel_rfl) (Nat.le_of_ble_eq_true rfl) hs
theorem s72_1 {f : RG} : W prog J 20 n0 72 (subC [1, 0, 1] (codeOf f72)) f h (contX pl72 prog J 20 n0 72 ct72 [1, 0, 1] (codeOf f72) [] (RetQ prog [.tmp 2] n0 K)) =
(cnd (f.r 19)
(retL n0 K f.ds [(vint 0)] h)
(retL n0 K f.ds [(vint 1)] h)) := sub_eq pok72 ct72 (by kernel_rfl)
theorem at71 : prog.funcs[71]? = some f71 := by kernel_rfl
theorem body71 : f71.body = some (codeOf f71) := by kernel_rfl
def pl71 : Plans := []
def ct71 : Cuts := .go
theorem pok71 : plansOk prog pl71 (codeOf f71) = true := by kernel_rfl
theorem e71 {a0 a1 a2 : Value} : W prog J 15 h.length 71 (codeOf f71) (RG.mk (regs [a0, a1, a2]) []) h (RetQ prog [.tmp 6] h.length K) =
(aBin prog .lss 3 a0 a1 fun v1 =>
 cnd v1
(retL h.length K [] [(vint 7)] h)
(aBin prog .gtr 3 a0 a2 fun v2 =>
 cnd v2
(retL h.length K [] [(vint 6)] h)
(retL h.length K [] [(vint 0)] h))) := top_eq pok71 ct71 (by kernel_rfl)
theorem g71 (hJ : Closed prog main J) {a0 a1 a2 : Value} (hs : heapOk h → W prog J 15 h.length 71 (codeOf f71) (RG.mk (regs [a0, a1, a2]) []) h (RetQ prog [.tmp 6] h.length K)) : Good prog J 71 [a0, a1, a2] h K :=
  good_of_W hJ mixed at71 body71 (by kernel_rfl) (Nat.le_of_ble_eq_true rfl) hs
theorem at88 : prog.funcs[88]? = some f88 := by kernel_rfl
theorem body88 : f88.body = some (codeOf f88) := by kernel_rfl
def pl88 : Plans := []
def ct88 : Cuts := .go
theorem pok88 : plansOk prog pl88 (codeOf f88) = true := by kernel_rfl
theorem e88 {a0 : Value} : W prog J 15 h.length 88 (codeOf f88) (RG.mk (regs [a0]) []) h (RetQ prog [.tmp 2] h.length K) =
(aLenS a0 fun v1 =>
 Sem J 15 h.length 88 (subC [1, 0, 1, 0] (codeOf f88)) (RG.p (RG.p (RG.p (RG.p (RG.mk (regs [a0]) []) 2 (vint 0)) 5 a0) 6 v1) 7 (vint 0)) h (contX pl88 prog J 15 h.length 88 ct88 [1, 0, 1, 0] (codeOf f88) [] (RetQ prog [.tmp 2] h.length K))) := top_eq pok88 ct88 (by kernel_rfl)
theorem g88 (hJ : Closed prog main J) {a0 : Value} (hs : heapOk h → W prog J 15 h.length 88 (codeOf f88) (RG.mk (regs [a0]) []) h (RetQ prog [.tmp 2] h.length K)) : Good prog J 88 [a0] h K :=
  good_of_W hJ mixed at88 body88 (by kernel_rfl) (Nat.le_of_ble_eq_true rfl) hs
theorem s88_1 {f : RG} {nx0 : RG → List AObj → Prop} : W prog J 15 n0 88 (subC [1, 0, 1, 0, 0] (codeOf f88)) f h (thenK nx0 (contX pl88 prog J 15 n0 88 ct88 [1, 0, 1, 0] (codeOf f88) [] (RetQ prog [.tmp 2] n0 K))) =
(aBin prog .lss 3 (f.r 7) (f.r 6) fun v1 =>
 cnd v1
(aIdx 1 (f.r 5) (f.r 7) fun v2 =>
 aLoad false 1 v2 h fun v3 =>
 aBin prog .neq 37 v3 (vint 0) fun v4 =>
 cnd v4
(retL n0 K f.ds [v3] h)
(aBin prog .add 3 (f.r 7) (vint 1) fun v5 =>
 nx0 (RG.p (RG.p (RG.p (RG.p (RG.p (RG.p (RG.p (RG.p f 8 v1) 9 v2) 10 v3) 4 v3) 11 v3) 12 v4) 14 v5) 7 v5) h))
(retL n0 K f.ds [(vint 0)] h)) := sub_eq pok88 ct88 (by kernel_rfl)
theorem l88_1 (hJ : Closed prog main J) {S : Type} (μ : S → Nat) (I : S → RG → List AObj → Prop) (hI : ∀ s f h, I s f h → heapOk h → n0 ≤ h.length → W prog J 15 n0 88 (subC [1, 0, 1, 0, 0] (codeOf f88)) f h (thenK (Nx n0 μ I s) (contX pl88 prog J 15 n0 88 ct88 [1, 0, 1, 0] (codeOf f88) [] (RetQ prog [.tmp 2] n0 K))))
  {s : S} {f : RG} (hi : Gets n0 I s f h) : Sem J 15 n0 88 (subC [1, 0, 1, 0] (codeOf f88)) f h (contX pl88 prog J 15 n0 88 ct88 [1, 0, 1, 0] (codeOf f88) [] (RetQ prog [.tmp 2] n0 K)) :=
  loop_rule hJ mixed (b := subC [1, 0, 1, 0, 0] (codeOf f88)) (by kernel_rfl) μ I hI hi
theorem at124 : prog.funcs[124]? = some f124 := by kernel_rfl
theorem body124 : f124.body = some (codeOf f124) := by kernel_rfl
def pl124 : Plans := []
def ct124 : Cuts := .go
theorem pok124 : plansOk prog pl124 (codeOf f124) = true := by kernel_rfl
theorem e124 {a0 a1 : Value} : W prog J 26 h.length 124 (codeOf f124) (RG.mk (regs [a0, a1]) []) h (RetQ prog [.tmp 4] h.length K) =
(aLenS a0 fun v1 =>
 Good prog J 71 [v1, a1, a1] h fun v2 h3 =>
 aBin prog .neq 37 v2 (vint 0) fun v4 =>
 cnd v4
(retL h.length K [] [v2] h3)
(aLenS a0 fun v5 =>
 Sem J 26 h.length 124 (subC [1, 1, 0, 1, 0] (codeOf f124)) (RG.p (RG.p (RG.p (RG.p (RG.p (RG.p (RG.p (RG.p (RG.p (RG.p (RG.p (RG.p (RG.mk (regs [a0, a1]) []) 4 (vint 0)) 8 a0) 9 v1) 10 a1) 11 a1) 12 v2) 5 v2) 13 v2) 14 v4) 16 a0) 17 v5) 18 (vint 0)) h3 (contX pl124 prog J 26 h.length 124 ct124 [1, 1, 0, 1, 0] (codeOf f124) [] (RetQ prog [.tmp 4] h.length K)))) := top_eq pok124 ct124 (by kernel_rfl)
theorem g124 (hJ : Closed prog main J) {a0 a1 : Value} (hs : heapOk h → W prog J 26 h.length 124 (codeOf f124) (RG.mk (regs [a0, a1]) []) h (RetQ prog [.tmp 4] h.length K)) : Good prog J 124 [a0, a1] h K :=
  good_of_W hJ mixed at124 body124 (by kernel_rfl) (Nat.le_of_ble_eq_true rfl) hs
theorem s124_1 {f : RG} {nx0 : RG → List AObj → Prop} : W prog J 26 n0 124 (subC [1, 1, 0, 1, 0, 0] (codeOf f124)) f h (thenK nx0 (contX pl124 prog J 26 n0 124 ct124 [1, 1, 0, 1, 0] (codeOf f124) [] (RetQ prog [.tmp 4] n0 K))) =
(aBin prog .lss 3 (f.r 18) (f.r 17) fun v1 =>
 cnd v1
(aIdx 1 (f.r 16) (f.r 18) fun v2 =>
 aLoad false 1 v2 h fun v3 =>
 Good prog J 73 [v3, (vint 0), (vint 40)] h fun v4 h5 =>
 aUn .not v4 fun v6 =>
 cnd v6
(retL n0 K f.ds [(vint 1)] h5)
(aBin prog .add 3 (f.r 18) (vint 1) fun v7 =>
 nx0 (RG.p (RG.p (RG.p (RG.p (RG.p (RG.p (RG.p (RG.p (RG.p f 19 v1) 20 v2) 21 v3) 7 v3) 22 v3) 23 v4) 24 v6) 25 v7) 18 v7) h5))
(retL n0 K f.ds [(vint 0)] h)) := sub_eq pok124 ct124 (by kernel_rfl)
theorem l124_1 (hJ : Closed prog main J) {S : Type} (μ : S → Nat) (I : S → RG → List AObj → Prop) (hI : ∀ s f h, I s f h → heapOk h → n0 ≤ h.length → W prog J 26 n0 124 (subC [1, 1, 0, 1, 0, 0] (codeOf f124)) f h (thenK (Nx n0 μ I s) (contX pl124 prog J 26 n0 124 ct124 [1, 1, 0, 1, 0] (codeOf f124) [] (RetQ prog [.tmp 4] n0 K))))
  {s : S} {f : RG} (hi : Gets n0 I s f h) : Sem J 26 n0 124 (subC [1, 1, 0, 1, 0] (codeOf f124)) f h (contX pl124 prog J 26 n0 124 ct124 [1, 1, 0, 1, 0] (codeOf f124) [] (RetQ prog [.tmp 4] n0 K)) :=
  loop_rule hJ mixed (b := subC [1, 1, 0, 1, 0, 0] (codeOf f124)) (by kernel_rfl) μ I hI hi
theorem at125 : prog.funcs[125]? = some f125 := by kernel_rfl
theorem body125 : f125.body = some (codeOf f125) := by kernel_rfl
def pl125 : Plans := []
def ct125 : Cuts := .go
theorem pok125 : plansOk prog pl125 (codeOf f125) = true := by kernel_rfl
theorem e125 {a0 : Value} : W prog J 9 h.length 125 (codeOf f125) (RG.mk (regs [a0]) []) h (RetQ prog [.tmp 2] h.length K) =
(aBox a0 h fun v1 h2 =>
 aLoad true 6 v1 h2 fun v3 =>
 aOff v1 0 fun v4 =>
 aLoad false 1 v4 h2 fun v5 =>
 aFill [(vint 0), (vint 0)] [(0, 1, v5)] fun c6 =>
 aFill [(vint 0), (vint 0), (vint 0), (vint 0), (vint 0), (vint 0), (vint 0), (vint 0)] [(0, 6, v3), (6, 2, (Value.agg ⟨c6⟩))] fun c7 =>
 aBox (Value.agg ⟨c7⟩) h2 fun v8 h9 =>
 retL h.length K [] [v8] h9) := top_eq pok125 ct125 (by kernel_rfl)
theorem g125 (hJ : Closed prog main J) {a0 : Value} (hs : heapOk h → W prog J 9 h.length 125 (codeOf f125) (RG.mk (regs [a0]) []) h (RetQ prog [.tmp 2] h.length K)) : Good prog J 125 [a0] h K :=
  good_of_W hJ mixed at125 body125 (by kernel_rfl) (Nat.le_of_ble_eq_true rfl) hs
theorem at126 : prog.funcs[126]? = some f126 := by kernel_rfl
theorem body126 : f126.body = some (codeOf f126) := by kernel_rfl
def pl126 : Plans := [(2, true, .take 0 (.take 1 (.take 2 (.take 3 (.take 4 (.take 5 (.take 6 (.take 7 (.take 8 (.take 9 (.take 10 (.take 11 (.take 12 (.take 13 (.take 14 (.take 15 (.last 16 false (.fin)))))))))))))))))),
  (3, true, .take 0 (.take 1 (.take 2 (.take 3 (.take 4 (.take 5 (.take 6 (.take 7 (.take 8 (.take 9 (.take 10 (.take 11 (.take 12 (.take 13 (.take 14 (.take 15 (.fin))))))))))))))))),
  (10, true, .take 0 (.take 1 (.take 2 (.take 3 (.take 4 (.take 5 (.take 6 (.take 7 (.take 8 (.take 9 (.take 10 (.take 11 (.take 12 (.take 13 (.take 14 (.take 15 (.take 16 (.take 17 (.take 18 (.take 19 (.take 20 (.last 21 false (.fin))))))))))))))))))))))),
  (4, true, .take 0 (.take 1 (.take 2 (.take 3 (.take 4 (.take 5 (.take 6 (.take 7 (.take 8 (.take 9 (.take 10 (.take 11 (.take 12 (.take 13 (.take 14 (.take 15 (.take 16 (.take 17 (.take 18 (.take 19 (.take 20 (.last 21 false (.fin)))))))))))))))))))))))]
def ct126 : Cuts := .bin (.go) (.bin (.go) (.bin (.go) (.bin (.go) (.cut (.go)))))
theorem pok126 : plansOk prog pl126 (codeOf f126) = true := by kernel_rfl
theorem e126 {a0 a1 a2 : Value} : W prog J 119 h.length 126 (codeOf f126) (RG.mk (regs [a0, a1, a2]) []) h (RetQ prog [.tmp 6, .tmp 7] h.length K) =
(aNil a0 fun v1 =>
 aOff v1 6 fun v2 =>
 aOff v2 0 fun v3 =>
 aLoad false 1 v3 h fun v4 =>
 aBin prog .gtr 3 a1 v4 fun v5 =>
 aNil a0 fun v6 =>
 aOff v6 6 fun v7 =>
 aOff v7 0 fun v8 =>
 aLoad false 1 v8 h fun v9 =>
 aNil a0 fun v10 =>
 aOff v10 6 fun v11 =>
 aOff v11 0 fun v12 =>
 aLoad false 1 v12 h fun v13 =>
 aMin a1 [v13] fun v14 =>
 aBin prog .sub 3 v9 v14 fun v15 =>
 aNil a0 fun v16 =>
 aOff v16 6 fun v17 =>
 aOff v17 0 fun v18 =>
 aStore 1 v18 v15 h fun h19 =>
 aBin prog .gtr 3 a1 (vint 0) fun v20 =>
 cnd v20
(aNil a0 fun v21 =>
 aOff v21 6 fun v22 =>
 aOff v22 0 fun v23 =>
 aLoad false 1 v23 h19 fun v24 =>
 aNil a0 fun v25 =>
 aOff v25 0 fun v26 =>
 aOff v26 4 fun v27 =>
 aLoad false 1 v27 h19 fun v28 =>
 aBin prog .lss 3 v24 v28 fun v29 =>
 Hold (W prog J 119 h.length 126 (subC [1, 1, 1, 1] (codeOf f126)) (RG.p (RG.p (RG.p (RG.p (RG.p (RG.p (RG.p (RG.p (RG.p (RG.p (RG.p (RG.p (RG.p (RG.p (RG.p (RG.p (RG.p (RG.p (RG.p (RG.p (RG.p (RG.p (RG.p (RG.p (RG.p (RG.p (RG.p (RG.p (RG.p (RG.p (RG.p (RG.p (RG.p (RG.p (RG.p (RG.p (RG.p (RG.p (RG.p (RG.p (RG.p (RG.p (RG.p (RG.mk (regs [a0, a1, a2]) []) 6 (Value.bool false)) 7 (Value.bool false)) 8 a1) 9 a0) 10 v1) 11 v2) 12 v3) 13 v4) 14 v5) 6 v5) 15 a0) 16 v6) 17 v7) 18 v8) 19 v9) 20 a1) 21 a0) 22 v10) 23 v11) 24 v12) 25 v13) 26 v14) 27 v15) 28 v16) 29 v17) 30 v18) 31 a1) 32 v20) 33 v20) 33 (Value.bool true)) 34 a0) 35 v21) 36 v22) 37 v23) 38 v24) 39 a0) 40 v25) 41 v26) 42 v27) 43 v28) 44 v29) 45 v29) 7 v29) h19 (contX pl126 prog J 119 h.length 126 ct126 [1, 1, 1, 1] (codeOf f126) [] (RetQ prog [.tmp 6, .tmp 7] h.length K))))
(Hold (W prog J 119 h.length 126 (subC [1, 1, 1, 1] (codeOf f126)) (RG.p (RG.p (RG.p (RG.p (RG.p (RG.p (RG.p (RG.p (RG.p (RG.p (RG.p (RG.p (RG.p (RG.p (RG.p (RG.p (RG.p (RG.p (RG.p (RG.p (RG.p (RG.p (RG.p (RG.p (RG.p (RG.p (RG.p (RG.p (RG.p (RG.p (RG.p (RG.p (RG.p (RG.p (RG.p (RG.p (RG.p (RG.p (RG.p (RG.p (RG.p (RG.p (RG.p (RG.mk (regs [a0, a1, a2]) []) 6 (Value.bool false)) 7 (Value.bool false)) 8 a1) 9 a0) 10 v1) 11 v2) 12 v3) 13 v4) 14 v5) 6 v5) 15 a0) 16 v6) 17 v7) 18 v8) 19 v9) 20 a1) 21 a0) 22 v10) 23 v11) 24 v12) 25 v13) 26 v14) 27 v15) 28 v16) 29 v17) 30 v18) 31 a1) 32 v20) 33 v20) 33 (Value.bool false)) 34 undef) 35 undef) 36 undef) 37 undef) 38 undef) 39 undef) 40 undef) 41 undef) 42 undef) 43 undef) 44 undef) 45 (Value.bool false)) 7 (Value.bool false)) h19 (contX pl126 prog J 119 h.length 126 ct126 [1, 1, 1, 1] (codeOf f126) [] (RetQ prog [.tmp 6, .tmp 7] h.length K))))) := top_eq pok126 ct126 (by kernel_rfl)
theorem g126 (hJ : Closed prog main J) {a0 a1 a2 : Value} (hs : heapOk h → W prog J 119 h.length 126 (codeOf f126) (RG.mk (regs [a0, a1, a2]) []) h (RetQ prog [.tmp 6, .tmp 7] h.length K)) : Good prog J 126 [a0, a1, a2] h K :=
  good_of_W hJ mixed at126 body126 (by kernel_rfl) (Nat.le_of_ble_eq_true rfl) hs
theorem s126_1 {f : RG} : W prog J 119 n0 126 (subC [1, 1, 1, 1] (codeOf f126)) f h (contX pl126 prog J 119 n0 126 ct126 [1, 1, 1, 1] (codeOf f126) [] (RetQ prog [.tmp 6, .tmp 7] n0 K)) =
(cnd (f.r 7)
(aNil (f.r 0) fun v1 =>
 aOff v1 0 fun v2 =>
 aOff v2 5 fun v3 =>
 aLoad false 1 v3 h fun v4 =>
 aNil (f.r 0) fun v5 =>
 aOff v5 6 fun v6 =>
 aOff v6 1 fun v7 =>
 aStore 1 v7 v4 h fun h8 =>
 retL n0 K f.ds [(f.r 6), (f.r 7)] h8)
(aNil (f.r 0) fun v9 =>
 aOff v9 6 fun v10 =>
 aOff v10 1 fun v11 =>
 aLoad false 1 v11 h fun v12 =>
 aBin prog .gtr 3 v12 (vint 0) fun v13 =>
 cnd v13
(aNil (f.r 0) fun v14 =>
 aOff v14 6 fun v15 =>
 aOff v15 1 fun v16 =>
 aLoad false 1 v16 h fun v17 =>
 aBin prog .sub 3 v17 (vint 1) fun v18 =>
 aNil (f.r 0) fun v19 =>
 aOff v19 6 fun v20 =>
 aOff v20 1 fun v21 =>
 aStore 1 v21 v18 h fun h22 =>
 retL n0 K f.ds [(f.r 6), (f.r 7)] h22)
(cnd (f.r 2)
(aNil (f.r 0) fun v23 =>
 aOff v23 0 fun v24 =>
 aOff v24 1 fun v25 =>
 aLoad false 1 v25 h fun v26 =>
 aNil (f.r 0) fun v27 =>
 aOff v27 6 fun v28 =>
 aOff v28 0 fun v29 =>
 aLoad false 1 v29 h fun v30 =>
 aNil (f.r 0) fun v31 =>
 aOff v31 0 fun v32 =>
 aOff v32 3 fun v33 =>
 aLoad false 1 v33 h fun v34 =>
 aBin prog .add 3 v30 v34 fun v35 =>
 aMin v26 [v35] fun v36 =>
 aNil (f.r 0) fun v37 =>
 aOff v37 6 fun v38 =>
 aOff v38 0 fun v39 =>
 aStore 1 v39 v36 h fun h40 =>
 retL n0 K f.ds [(f.r 6), (f.r 7)] h40)
(aNil (f.r 0) fun v41 =>
 aOff v41 0 fun v42 =>
 aOff v42 1 fun v43 =>
 aLoad false 1 v43 h fun v44 =>
 aNil (f.r 0) fun v45 =>
 aOff v45 6 fun v46 =>
 aOff v46 0 fun v47 =>
 aLoad false 1 v47 h fun v48 =>
 aNil (f.r 0) fun v49 =>
 aOff v49 0 fun v50 =>
 aOff v50 2 fun v51 =>
 aLoad false 1 v51 h fun v52 =>
 aBin prog .add 3 v48 v52 fun v53 =>
 aMin v44 [v53] fun v54 =>
 aNil (f.r 0) fun v55 =>
 aOff v55 6 fun v56 =>
 aOff v56 0 fun v57 =>
 aStore 1 v57 v54 h fun h58 =>
 retL n0 K f.ds [(f.r 6), (f.r 7)] h58)))) := sub_eq pok126 ct126 (by kernel_rfl)
theorem at117 : prog.funcs[117]? = some f117 := by kernel_rfl
theorem body117 : f117.body = some (codeOf f117) := by kernel_rfl
def pl117 : Plans := [(6, false, .take 0 (.take 1 (.take 2 (.take 3 (.take 4 (.take 5 (.take 6 (.take 7 (.take 8 (.last 9 true (.take 10 (.fin))))))))))))]
def ct117 : Cuts := .bin (.go) (.bin (.go) (.bin (.go) (.bin (.go) (.cut (.go)))))
theorem pok117 : plansOk prog pl117 (codeOf f117) = true := by kernel_rfl
theorem e117 {a0 a1 a2 : Value} : W prog J 30 h.length 117 (codeOf f117) (RG.mk (regs [a0, a1, a2]) []) h (RetQ prog [.cell 6 109, .tmp 7] h.length K) =
(aBox a0 h fun v1 h2 =>
 aBox a1 h2 fun v3 h4 =>
 aAlloc [(Value.int .u8 0), (vint 0)] h4 fun v5 h6 =>
 aOff v1 0 fun v7 =>
 aLoad false 1 v7 h6 fun v8 =>
 aBin prog .neq 5 v8 a2 fun v9 =>
 cnd v9
(aFill [(Value.int .u8 0), (vint 0)] [(0, 1, a2), (1, 1, (vint 1))] fun c10 =>
 aStore 2 v5 (Value.agg ⟨c10⟩) h6 fun h11 =>
 RetQ prog [.cell 6 109, .tmp 7] h.length K .ret (RG.p (RG.p (RG.p (RG.p (RG.p (RG.p (RG.p (RG.p (RG.p (RG.p (RG.p (RG.mk (regs [a0, a1, a2]) []) 3 v1) 4 v3) 6 v5) 7 (Value.bool false)) 9 v7) 10 v8) 11 a2) 12 v9) 13 a2) 14 (Value.agg ⟨c10⟩)) 7 (Value.bool true)) h11)
(aOff v3 1 fun v12 =>
 aLoad false 1 v12 h6 fun v13 =>
 aBin prog .eql 5 a2 (Value.int .u8 119) fun v14 =>
 cnd v14
(aOff v3 2 fun v15 =>
 aLoad false 1 v15 h6 fun v16 =>
 Hold (W prog J 30 h.length 117 (subC [1, 1, 1, 1] (codeOf f117)) (RG.p (RG.p (RG.p (RG.p (RG.p (RG.p (RG.p (RG.p (RG.p (RG.p (RG.p (RG.p (RG.p (RG.p (RG.p (RG.p (RG.mk (regs [a0, a1, a2]) []) 3 v1) 4 v3) 6 v5) 7 (Value.bool false)) 9 v7) 10 v8) 11 a2) 12 v9) 15 v12) 16 v13) 8 v13) 17 a2) 18 v14) 19 v15) 20 v16) 8 v16) h6 (contX pl117 prog J 30 h.length 117 ct117 [1, 1, 1, 1] (codeOf f117) [] (RetQ prog [.cell 6 109, .tmp 7] h.length K))))
(Hold (W prog J 30 h.length 117 (subC [1, 1, 1, 1] (codeOf f117)) (RG.p (RG.p (RG.p (RG.p (RG.p (RG.p (RG.p (RG.p (RG.p (RG.p (RG.p (RG.p (RG.p (RG.mk (regs [a0, a1, a2]) []) 3 v1) 4 v3) 6 v5) 7 (Value.bool false)) 9 v7) 10 v8) 11 a2) 12 v9) 15 v12) 16 v13) 8 v13) 17 a2) 18 v14) h6 (contX pl117 prog J 30 h.length 117 ct117 [1, 1, 1, 1] (codeOf f117) [] (RetQ prog [.cell 6 109, .tmp 7] h.length K)))))) := top_eq pok117 ct117 (by kernel_rfl)
theorem g117 (hJ : Closed prog main J) {a0 a1 a2 : Value} (hs : heapOk h → W prog J 30 h.length 117 (codeOf f117) (RG.mk (regs [a0, a1, a2]) []) h (RetQ prog [.cell 6 109, .tmp 7] h.length K)) : Good prog J 117 [a0, a1, a2] h K :=
  good_of_W hJ mixed at117 body117 (by kernel_rfl) (Nat.le_of_ble_eq_true rfl) hs
theorem s117_1 {f : RG} : W prog J 30 n0 117 (subC [1, 1, 1, 1] (codeOf f117)) f h (contX pl117 prog J 30 n0 117 ct117 [1, 1, 1, 1] (codeOf f117) [] (RetQ prog [.cell 6 109, .tmp 7] n0 K)) =
((∃ B, aOff (f.r 3) 1 fun v1 =>
 aLoad false 1 v1 h fun v2 =>
 RdOk (some B) (ptrBlk v1) ∧ (aBin prog .add 3 v2 (vint 1) fun v3 =>
 aFill [(Value.int .u8 0), (vint 0)] [(0, 1, (f.r 2)), (1, 1, v3)] fun c4 =>
 aOff (f.r 3) 1 fun v5 =>
 aLoad false 1 v5 h fun v6 =>
 RdOk (some B) (ptrBlk v5) ∧ (aBin prog .lss 3 v6 (f.r 8) fun v7 =>
 aStore 2 (f.r 6) (Value.agg ⟨c4⟩) h fun h8 =>
 SameB (some B) h h8 ∧ (RetQ prog [.cell 6 109, .tmp 7] n0 K .ret (RG.p (RG.p (RG.p (RG.p (RG.p (RG.p (RG.p (RG.p (RG.p (RG.p f 21 (f.r 2)) 22 v1) 23 v2) 24 v3) 25 (Value.agg ⟨c4⟩)) 26 v5) 27 v6) 28 (f.r 8)) 29 v7) 7 v7) h8))))) := sub_eq pok117 ct117 (by kernel_rfl)
end
end Go.Proofs.Ythnccaajpdnndaa
namespace Go.Proofs.Ythnccaajpdnndaa
open Go.Conc Go.Proofs.Try
set_option maxRecDepth 100000
section
variable {main : Bool} {J : JT} {h H : List AObj} {K : Value → List AObj → Prop} {KV : Value → Prop} {HL : List AObj → Prop} {n0 : Nat}
theorem good73 (hJ : Closed prog main J) {n lo hi : Int} (hK : K (.bool (decide (lo ≤ n ∧ n ≤ hi))) h) : Good prog J 73 [vint n, vint lo, vint hi] h K := by
  refine g73 hJ fun ok => ?_
  rw [e73]
  refine leqI (cndI (fun h1 => leqI (retL_same (by simp [unk]) ?_)) fun h1 => retL_same (by simp [unk]) ?_)
  · simpa [pack, h1] using hK
  · simpa [pack, h1] using hK
theorem good71 (hJ : Closed prog main J) {n lo hi : Int} (hK : K (vint (cntE n lo hi)) h) : Good prog J 71 [vint n, vint lo, vint hi] h K := by
  refine g71 hJ fun ok => ?_
  rw [e71]
  refine lssI (cndI (fun h1 => retL_same (by simp [unk]) ?_) fun h1 => gtrI (cndI (fun h2 => retL_same (by simp [unk]) ?_) fun h2 => retL_same (by simp [unk]) ?_))
  · simpa [cntE, h1, pack] using hK
  · simpa [cntE, h1, h2, pack] using hK
  · simpa [cntE, h1, h2, pack] using hK
theorem good36 (hJ : Closed prog main J) {p : Pas} (hK : K (vint (pasE p)) h) : Good prog J 36 [.agg ⟨p.cells⟩] h K := by
  refine g36 hJ fun ok => ?_
  rw [e36]
  refine qBox (l := p.cells) rfl fun H1 p1 e1 S1 c1 l1 => ?_
  have fin : ∀ e : Int, pasE p = e → retL h.length K [] [vint e] H1 := fun e he => by
    subst he
    exact retX ok (Nat.le_refl _) S1 (by simp) (by simp [unk]) (by simp [pack, VOk]) hK
  have no : ∀ {q : Prop}, (pasOk p → q) → ¬ q → retL h.length K [] [vint 1] H1 := fun a b => fin 1 (by unfold pasE; rw [if_neg fun x => b (a x)])
  refine offI (ldI (v := vint p.bears) c1 rfl rfl (good73 hJ (cndI (fun h1 => ?_) fun h1 => hold.2 ?_)))
  rotate_left
  · rw [s36_1]
    exact cnd_false.2 (no (fun x => x.1) h1)
  refine offI (ldI (v := vint p.grass) c1 rfl rfl (offI (ldI (v := vint p.bears) c1 rfl rfl (good73 hJ (cndI (fun h2 => ?_) fun h2 => hold.2 ?_)))))
  rotate_left
  · rw [s36_1]
    exact cnd_false.2 (no (fun x => x.2.1) h2)
  refine offI (ldI (v := vint p.dry) c1 rfl rfl (good73 hJ (cndI (fun h3 => ?_) fun h3 => hold.2 ?_)))
  rotate_left
  · rw [s36_1]
    exact cnd_false.2 (no (fun x => x.2.2.1) h3)
  refine offI (ldI (v := vint p.wet) c1 rfl rfl (offI (ldI (v := vint p.dry) c1 rfl rfl (good73 hJ (cndI (fun h4 => ?_) fun h4 => hold.2 ?_)))))
  rotate_left
  · rw [s36_1]
    exact cnd_false.2 (no (fun x => x.2.2.2.1) h4)
  refine offI (ldI (v := vint p.stubble) c1 rfl rfl (offI (ldI (v := vint p.bears) c1 rfl rfl (good73 hJ (cndI (fun h5 => ?_) fun h5 => hold.2 ?_)))))
  rotate_left
  · rw [s36_1]
    exact cnd_false.2 (no (fun x => x.2.2.2.2.1) h5)
  refine offI (ldI (v := vint p.sleep) c1 rfl rfl (good73 hJ (hold.2 ?_)))
  rw [s36_1]
  refine cndI (fun h6 => fin 0 ?_) fun h6 => no (fun x => x.2.2.2.2.2) h6
  unfold pasE
  rw [if_pos ⟨h1, h2, h3, h4, h5, h6⟩]
theorem good72 (hJ : Closed prog main J) {s : SkyR} (hK : K (vint (skyE s)) h) : Good prog J 72 [.agg ⟨s.cells⟩] h K := by
  refine g72 hJ fun ok => ?_
  rw [e72]
  refine qBox (l := s.cells) rfl fun H1 p1 e1 S1 c1 l1 => ?_
  have fin : ∀ e : Int, skyE s = e → retL h.length K [] [vint e] H1 := fun e he => by
    subst he
    exact retX ok (Nat.le_refl _) S1 (by simp) (by simp [unk]) (by simp [pack, VOk]) hK
  have no : ∀ {q : Prop}, (skyOk s → q) → ¬ q → retL h.length K [] [vint 1] H1 := fun a b => fin 1 (by unfold skyE; rw [if_neg fun x => b (a x)])
  refine offI (ldI (v := vint s.days) c1 rfl rfl (good73 hJ (cndI (fun h1 => ?_) fun h1 => hold.2 ?_)))
  rotate_left
  · rw [s72_1]
    exact cnd_false.2 (no (fun x => x.1) h1)
  refine offI (ldI (v := vint s.drought) c1 rfl rfl (offI (ldI (v := vint s.days) c1 rfl rfl (good73 hJ (cndI (fun h2 => ?_) fun h2 => hold.2 ?_)))))
  rotate_left
  · rw [s72_1]
    exact cnd_false.2 (no (fun x => x.2.1) h2)
  refine offI (ldI (v := vint s.flood) c1 rfl rfl (offI (ldI (v := vint s.days) c1 rfl rfl (good73 hJ (hold.2 ?_)))))
  rw [s72_1]
  refine cndI (fun h3 => fin 0 ?_) fun h3 => no (fun x => x.2.2) h3
  unfold skyE
  rw [if_pos ⟨h1, h2, h3⟩]
theorem good88 (hJ : Closed prog main J) {v : Value} {a b : Int} (hs : Sli H v 1 2 [vint a, vint b]) (hK : K (vint (fst2 a b)) H) : Good prog J 88 [v] H K := by
  refine g88 hJ fun ok => ?_
  rw [e88]
  have hs' : Sli H v 1 ([a, b] : List Int).length (([a, b] : List Int).map vint) := hs
  refine lenI hs ?_
  refine l88_1 hJ (fun i : Nat => 2 - i) (fun i F H' => H' = H ∧ i ≤ 2 ∧ (1 ≤ i → a = 0) ∧ (2 ≤ i → b = 0) ∧ F.ds = [] ∧ F.r 5 = v ∧ F.r 6 = vint (2 : Nat) ∧ F.r 7 = vint (i : Nat)) ?_ (s := 0)
    (.inl ⟨rfl, by omega, by omega, by omega, rfl, rfl, rfl, rfl⟩)
  rintro i F H' ⟨rfl, hi, ha, hb, ds, r5, r6, r7⟩ okc hnc
  rw [s88_1, r5, r6, r7, ds]
  refine lssI (cndI (fun hlt => ?_) fun hge => ?_)
  rotate_left
  · have h1 := ha (by omega)
    have h2 := hb (by omega)
    refine retL_same (by simp [unk]) ?_
    unfold fst2 at hK
    rw [if_neg (by omega), h2] at hK
    exact hK
  have hil : i < 2 := by omega
  by_cases e : i = 0
  · subst e
    refine sliN hs' (i := 0) (x := a) rfl fun q => neqI (cndI (fun hne => retL_same (by simp [unk]) ?_) fun heq => addI (by omega) ⟨1, by decide, .inl ⟨rfl, by omega, fun _ => by omega, by omega, ds, r5, r6, rfl⟩⟩)
    unfold fst2 at hK
    rw [if_pos hne] at hK
    exact hK
  · have : i = 1 := by omega
    subst this
    have h1 := ha (by omega)
    refine sliN hs' (i := 1) (x := b) rfl fun q => neqI (cndI (fun hne => retL_same (by simp [unk]) ?_) fun heq => addI (by omega) ⟨2, by decide, .inl ⟨rfl, by omega, fun _ => h1, fun _ => by omega, ds, r5, r6, rfl⟩⟩)
    unfold fst2 at hK
    rw [if_neg (by omega)] at hK
    exact hK
theorem good124 (hJ : Closed prog main J) {v : Value} {hs : List Int} {n : Int} (sh : Sli H v 1 hs.length (hs.map vint)) (hl : hs.length < 1000000) (hK : K (vint (hunE hs n)) H) : Good prog J 124 [v, vint n] H K := by
  refine g124 hJ fun ok => ?_
  rw [e124]
  refine lenI sh (good71 hJ (neqI (cndI (fun h1 => retL_same (by simp [unk]) ?_) fun h1 => lenI sh ?_)))
  · unfold hunE at hK
    rw [if_pos h1] at hK
    exact hK
  refine l124_1 hJ (fun i : Nat => hs.length - i) (fun i F H' => H' = H ∧ i ≤ hs.length ∧ (∀ n ∈ hs.take i, 0 ≤ n ∧ n ≤ 40) ∧ F.ds = [] ∧ F.r 16 = v ∧ F.r 17 = vint (hs.length : Nat) ∧ F.r 18 = vint (i : Nat)) ?_ (s := 0)
    (.inl ⟨rfl, by omega, by simp, rfl, rfl, rfl, rfl⟩)
  rintro i F H' ⟨rfl, hi, hd, ds, r16, r17, r18⟩ okc hnc
  rw [s124_1, r16, r17, r18, ds]
  refine lssI (cndI (fun hlt => ?_) fun hge => ?_)
  · have hil : i < hs.length := by omega
    have hx : hs[i]? = some hs[i] := List.getElem?_eq_getElem hil
    refine sliN sh hx fun q => good73 hJ (notI (cndN (fun hno => retL_same (by simp [unk]) ?_) fun hyes => addI (by omega) ⟨i + 1, by dsimp only; omega, .inl ⟨rfl, by omega, fun n hn => ?_, ds, r16, r17, by show vint _ = vint _; congr 1⟩⟩))
    · unfold hunE at hK
      rw [if_neg h1, if_neg fun x => hno (x _ (List.getElem_mem hil))] at hK
      exact hK
    · rw [List.take_add_one, hx] at hn
      rcases List.mem_append.1 hn with hn | hn
      · exact hd n hn
      · have : n = hs[i] := by simpa using hn
        rw [this]
        exact hyes
  · have : i = hs.length := by omega
    subst this
    refine retL_same (by simp [unk]) ?_
    unfold hunE at hK
    rw [if_neg h1, if_pos (by simpa using hd)] at hK
    exact hK
theorem fillM {p : Pas} {a b : Int} {KL : List Value → Prop} (hk : KL (medC p (a, b))) : aFill [(vint 0), (vint 0), (vint 0), (vint 0), (vint 0), (vint 0), (vint 0), (vint 0)] [(0, 6, .agg ⟨p.cells⟩), (6, 2, .agg ⟨[vint a, vint b]⟩)] KL := by
  refine fillO (l := p.cells) rfl rfl rfl (by decide) (fillO (l := [vint a, vint b]) rfl rfl rfl (by rw [wrAt_length]; decide) (fillI hk))
theorem good125 (hJ : Closed prog main J) {p : Pas} (hK : ∀ H' m, m = H'.length - 1 → SameX [] H H' → H'[m]? = some (.cells (medC p (p.grass, 0)) true 0) → H.length ≤ m → K (ptr m 0) H') : Good prog J 125 [.agg ⟨p.cells⟩] H K := by
  refine g125 hJ fun ok => ?_
  rw [e125]
  refine qBox (l := p.cells) rfl fun H1 p1 e1 S1 c1 l1 => load_part (c := p.cells) c1 (by simp [Pas.cells]) rfl rfl (offI (ldI (v := vint p.grass) c1 rfl rfl ?_))
  refine fillO (l := [vint p.grass]) rfl rfl rfl (by decide) (fillI (fillM (qBox (l := medC p (p.grass, 0)) rfl fun H2 p2 e2 S2 c2 l2 => retL_same (by simp [unk]) (hK H2 p2 (by omega) (S1.trans S2) c2 (by omega)))))
theorem good126 (hJ : Closed prog main J) {p : Pas} {x : Std} {n : Int} {w : Bool} {m : Nat} (hm : H[m]? = some (.cells (medC p x) true 0)) (f : pasOk p) (o : StdOk p x) (hn : 0 ≤ n ∧ n ≤ 1000000)
    (hK : ∀ H', SameX [m] H H' → H'[m]? = some (.cells (medC p (dayR p x n w)) true 0) → K (.tuple ⟨[.bool (hungR x n), .bool (shortR p x n)]⟩) H') : Good prog J 126 [ptr m 0, vint n, .bool w] H K := by
  refine g126 hJ fun ok => ?_
  rw [e126]
  have og := o.g
  have oa := o.a
  have hb := leftR_bd o hn.1
  obtain ⟨f1, f2, f3, f4, f5, f6⟩ := f
  have mc : ∀ (a b : Int), medC p (a, b) = [vint p.grass, vint p.bears, vint p.dry, vint p.wet, vint p.stubble, vint p.sleep, vint a, vint b] := fun a b => rfl
  obtain ⟨xa, xb⟩ := x
  dsimp only at og oa
  rw [mc] at hm
  refine nilI (offI (offI (ldI (v := vint xa) hm rfl rfl (gtrI ?_))))
  refine nilI (offI (offI (ldI (v := vint xa) hm rfl rfl ?_)))
  refine nilI (offI (offI (ldI (v := vint xa) hm rfl rfl (minI (subI (by omega) ?_)))))
  refine nilI (offI (offI (qSt hm (by simp) rfl rfl fun H1 S1 c1 l1 => ?_)))
  have el : xa - min n xa = leftR (xa, xb) n := rfl
  rw [el] at c1 ⊢
  have c1 : H1[m]? = some (.cells (medC p (leftR (xa, xb) n, xb)) true 0) := c1
  -- behind the eating
  have post : ∀ {F : RG}, F.ds = [] → F.r 0 = ptr m 0 → F.r 2 = .bool w → F.r 6 = .bool (hungR (xa, xb) n) → F.r 7 = .bool (shortR p (xa, xb) n) →
      W prog J 119 H.length 126 (subC [1, 1, 1, 1] (codeOf f126)) F H1 (contX pl126 prog J 119 H.length 126 ct126 [1, 1, 1, 1] (codeOf f126) [] (RetQ prog [.tmp 6, .tmp 7] H.length K)) := by
    intro F ds r0 r2 r6 r7
    rw [s126_1, r0, r2, r6, r7, ds]
    have fin : ∀ {y : Std} {H2 : List AObj}, dayR p (xa, xb) n w = y → SameX [m] H1 H2 → H2[m]? = some (.cells (medC p y) true 0) → retL H.length K [] [.bool (hungR (xa, xb) n), .bool (shortR p (xa, xb) n)] H2 := fun hy S2 c2 => by
      subst hy
      exact retL_same (by simp [unk]) (hK _ (S1.trans S2) c2)
    rw [mc] at c1
    refine cndB (fun hs => ?_) fun hs => ?_
    · refine nilI (offI (offI (ldI (v := vint p.sleep) c1 rfl rfl (nilI (offI (offI (qSt c1 (by simp) rfl rfl fun H2 S2 c2 l2 => ?_)))))))
      refine fin (y := (leftR (xa, xb) n, p.sleep)) ?_ S2 c2
      unfold dayR
      rw [if_pos hs]
    · have hs' : ¬ shortR p (xa, xb) n = true := by rw [hs]; decide
      refine nilI (offI (offI (ldI (v := vint xb) c1 rfl rfl (gtrI (cndI (fun h0 => ?_) fun h0 => ?_)))))
      · refine nilI (offI (offI (ldI (v := vint xb) c1 rfl rfl (subI (by omega) (nilI (offI (offI (qSt c1 (by simp) rfl rfl fun H2 S2 c2 l2 => ?_))))))))
        refine fin (y := (leftR (xa, xb) n, xb - 1)) ?_ S2 c2
        unfold dayR
        rw [if_neg hs', if_pos h0]
      · refine cndB (fun hw => ?_) fun hw => ?_
        · refine nilI (offI (offI (ldI (v := vint p.bears) c1 rfl rfl (nilI (offI (offI (ldI (v := vint (leftR (xa, xb) n)) c1 rfl rfl (nilI (offI (offI (ldI (v := vint p.wet) c1 rfl rfl (addI (by omega) (minI (nilI (offI (offI (qSt c1 (by simp) rfl rfl fun H2 S2 c2 l2 => ?_)))))))))))))))))
          refine fin (y := (min p.bears (leftR (xa, xb) n + p.wet), xb)) ?_ S2 c2
          unfold dayR
          rw [if_neg hs', if_neg h0, if_pos hw]
        · refine nilI (offI (offI (ldI (v := vint p.bears) c1 rfl rfl (nilI (offI (offI (ldI (v := vint (leftR (xa, xb) n)) c1 rfl rfl (nilI (offI (offI (ldI (v := vint p.dry) c1 rfl rfl (addI (by omega) (minI (nilI (offI (offI (qSt c1 (by simp) rfl rfl fun H2 S2 c2 l2 => ?_)))))))))))))))))
          refine fin (y := (min p.bears (leftR (xa, xb) n + p.dry), xb)) ?_ S2 c2
          unfold dayR
          rw [if_neg hs', if_neg h0, if_neg (by rw [hw]; decide)]
  refine gtrI (cndI (fun h0 => ?_) fun h0 => hold.2 ?_)
  · rw [mc] at c1
    refine nilI (offI (offI (ldI (v := vint (leftR (xa, xb) n)) c1 rfl rfl (nilI (offI (offI (ldI (v := vint p.stubble) c1 rfl rfl (lssI (hold.2 ?_)))))))))
    refine post rfl rfl rfl rfl ?_
    show Value.bool _ = Value.bool _
    unfold shortR
    rw [decide_eq_true h0]
    rfl
  · refine post rfl rfl rfl rfl ?_
    show Value.bool _ = Value.bool _
    unfold shortR
    rw [decide_eq_false h0]
    rfl
theorem good117 (hJ : Closed prog main J) {s : SkyR} {x : Spl} {c : UInt8} (hx : -1 ≤ x.2 ∧ x.2 ≤ 1000000) (hK : ∀ H', SameX [] H H' → K (.tuple ⟨[.agg ⟨spC (nextX x c)⟩, .bool (nextOk s x c)]⟩) H') : Good prog J 117 [.agg ⟨spC x⟩, .agg ⟨s.cells⟩, .int .u8 c.toNat] H K := by
  refine g117 hJ fun ok => ?_
  rw [e117]
  refine qBox (l := spC x) rfl fun H1 p1 e1 S1 c1 l1 => qBox (l := s.cells) rfl fun H2 p2 e2 S2 c2 l2 => qAl fun H3 p3 e3 S3 c3 l3 => ?_
  have c13 := S3.get (S2.get c1 (by simp)) (by simp)
  have c23 := S3.get c2 (by simp)
  have T3 := (S1.trans S2).trans S3
  refine offI (ldI (v := .int .u8 x.1.toNat) c13 rfl rfl (neqU (cndI (fun hne => ?_) fun heq => ?_)))
  · refine fillO (l := [.int .u8 c.toNat]) rfl rfl rfl (by decide) (fillO (l := [vint 1]) rfl rfl rfl (by rw [wrAt_length]; decide) (fillI ?_))
    refine qStA (c := spC (c, 1)) c3 rfl rfl rfl fun H4 S4 c4 l4 => ?_
    refine retQs rfl (resW_cell (gg := true) (s := 2) (by kernel_rfl) (load_part (c := spC (c, 1)) c4 (by simp [spC]) rfl rfl (resW_tmp (by simp [unk, RG.p]) (resW_nil ?_))))
    have := hK H4 (T3.thru S4 (by simp; omega))
    unfold nextX nextOk at this
    rw [if_pos hne, if_pos hne] at this
    exact this
  · have heq : x.1 = c := Classical.not_not.1 heq
    have post : ∀ {F : RG} {most : Int}, most = (if c = 119 then s.flood else s.drought) → F.ds = [] → F.r 2 = .int .u8 c.toNat → F.r 3 = ptr p1 0 → F.r 6 = ptr p3 0 → F.r 8 = vint most →
        W prog J 30 H.length 117 (subC [1, 1, 1, 1] (codeOf f117)) F H3 (contX pl117 prog J 30 H.length 117 ct117 [1, 1, 1, 1] (codeOf f117) [] (RetQ prog [.cell 6 109, .tmp 7] H.length K)) := by
      intro F most hm ds r2 r3 r6 r8
      rw [s117_1, r2, r3, r6, r8]
      refine ⟨[p1], offI (ldI (v := vint x.2) c13 rfl rfl ⟨by simp [RdOk, ptrBlk], addI (by omega) ?_⟩)⟩
      refine fillO (l := [.int .u8 c.toNat]) rfl rfl rfl (by decide) (fillO (l := [vint (x.2 + 1)]) rfl rfl rfl (by rw [wrAt_length]; decide) (fillI ?_))
      refine offI (ldI (v := vint x.2) c13 rfl rfl ⟨by simp [RdOk, ptrBlk], lssI ?_⟩)
      refine qStA (c := spC (c, x.2 + 1)) c3 rfl rfl rfl fun H4 S4 c4 l4 => ⟨sbOne S4 (lt_of_get c13) (by simp; omega), ?_⟩
      refine retQs ds (resW_cell (gg := true) (s := 2) (by kernel_rfl) ?_)
      show aLoad true 2 (F.r 6) H4 _
      rw [r6]
      refine load_part (c := spC (c, x.2 + 1)) c4 (by simp [spC]) rfl rfl (resW_tmp (by simp [unk, RG.p]) (resW_nil ?_))
      have := hK H4 (T3.thru S4 (by simp; omega))
      unfold nextX nextOk at this
      rw [if_neg (not_not_intro heq), if_neg (not_not_intro heq), ← hm] at this
      exact this
    refine offI (ldI (v := vint s.drought) c23 rfl rfl ?_)
    have e119 : (Value.int .u8 119) = .int .u8 (119 : UInt8).toNat := rfl
    rw [e119]
    refine eqlU (cndI (fun hw => ?_) fun hw => hold.2 ?_)
    · exact offI (ldI (v := vint s.flood) c23 rfl rfl (hold.2 (post (most := s.flood) (by rw [if_pos hw]) rfl rfl rfl rfl rfl)))
    · exact post (most := s.drought) (by rw [if_neg hw]) rfl rfl rfl rfl rfl
end
def pas0 : Pas := ⟨0, 0, 0, 0, 0, 0⟩
structure Wd where
  a : Std
  b : Std
  c : Std
  sp : Spl
  deriving DecidableEq
def Wd.cells (w : Wd) : List Value := [vint w.a.1, vint w.a.2, vint w.b.1, vint w.b.2, vint w.c.1, vint w.c.2, .int .u8 w.sp.1.toNat, vint w.sp.2]
def Wd.val (w : Wd) : Value := .agg ⟨w.cells⟩
def Wd.st (w : Wd) : Nat → Std
  | 0 => w.a
  | 1 => w.b
  | _ => w.c
def Wd.lay (w : Wd) : Nat → Std → Wd
  | 0, x => { w with a := x }
  | 1, x => { w with b := x }
  | _, x => { w with c := x }
theorem Wd.st_lay (w : Wd) {k j : Nat} (x : Std) (hk : k < 3) (hj : j < 3) : (w.lay k x).st j = if j = k then x else w.st j := by
  match k, hk with
  | 0, _ => match j, hj with
    | 0, _ => rfl
    | 1, _ => rfl
    | 2, _ => rfl
  | 1, _ => match j, hj with
    | 0, _ => rfl
    | 1, _ => rfl
    | 2, _ => rfl
  | 2, _ => match j, hj with
    | 0, _ => rfl
    | 1, _ => rfl
    | 2, _ => rfl
theorem Wd.sp_lay (w : Wd) (k : Nat) (x : Std) : (w.lay k x).sp = w.sp := by
  match k with
  | 0 => rfl
  | 1 => rfl
  | _ + 2 => rfl
structure WdOk (ls : List Pas) (w : Wd) : Prop where
  std : ∀ k, k < ls.length → StdOk (ls.getD k pas0) (w.st k)
  sp : 0 ≤ w.sp.2 ∧ w.sp.2 ≤ 8
structure LsOk (ls : List Pas) : Prop where
  few : 1 ≤ ls.length ∧ ls.length ≤ 3
  ok : ∀ p ∈ ls, pasOk p
theorem LsOk.get {ls : List Pas} (L : LsOk ls) {k : Nat} (hk : k < ls.length) : pasOk (ls.getD k pas0) := by
  rw [List.getD_eq_getElem?_getD, List.getElem?_eq_getElem hk]
  exact L.ok _ (List.getElem_mem hk)
def startK (ls : List Pas) : Nat → Wd
  | 0 => ⟨(0, 0), (0, 0), (0, 0), (0, 0)⟩
  | k + 1 => (startK ls k).lay k ((ls.getD k pas0).grass, 0)
def startW (ls : List Pas) : Wd := startK ls ls.length
theorem startK_sp {ls : List Pas} : ∀ k, (startK ls k).sp = (0, 0)
  | 0 => rfl
  | k + 1 => by rw [startK, Wd.sp_lay, startK_sp]
theorem startK_st {ls : List Pas} (L : LsOk ls) : ∀ k, k ≤ ls.length → ∀ j, j < k → StdOk (ls.getD j pas0) ((startK ls k).st j)
  | 0, _, j, hj => absurd hj (Nat.not_lt_zero _)
  | k + 1, hk, j, hj => by
    have := L.few
    rw [startK, Wd.st_lay _ _ (by omega) (by omega)]
    by_cases e : j = k
    · subst e
      rw [if_pos rfl]
      exact std0_ok (L.get (by omega))
    · rw [if_neg e]
      exact startK_st L k (by omega) j (by omega)
theorem startW_ok {ls : List Pas} (L : LsOk ls) : WdOk ls (startW ls) := ⟨fun k hk => startK_st L _ (Nat.le_refl _) k hk, by
  unfold startW
  rw [startK_sp]
  decide⟩
def nAt (at_ : Nat) (heads : Int) (k : Nat) : Int := if k = at_ then heads else 0
def gzK (ls : List Pas) (at_ : Nat) (heads : Int) (wet : Bool) (w : Wd) : Nat → Wd × Bool
  | 0 => (w, true)
  | k + 1 => ((gzK ls at_ heads wet w k).1.lay k (dayR (ls.getD k pas0) ((gzK ls at_ heads wet w k).1.st k) (nAt at_ heads k) wet), (gzK ls at_ heads wet w k).2 && !hungR ((gzK ls at_ heads wet w k).1.st k) (nAt at_ heads k))
def gzW (ls : List Pas) (at_ : Nat) (heads : Int) (w : Wd) (x : Spl) : Wd := { (gzK ls at_ heads (wetB x.1) w ls.length).1 with sp := x }
def gzB (ls : List Pas) (at_ : Nat) (heads : Int) (w : Wd) (x : Spl) : Bool := (gzK ls at_ heads (wetB x.1) w ls.length).2
theorem nAt_bd {at_ : Nat} {heads : Int} {k : Nat} (h : 0 ≤ heads ∧ heads ≤ 40) : 0 ≤ nAt at_ heads k ∧ nAt at_ heads k ≤ 1000000 := by
  unfold nAt
  split <;> omega
theorem gzK_ok {ls : List Pas} (L : LsOk ls) {at_ : Nat} {heads : Int} (hh : 0 ≤ heads ∧ heads ≤ 40) {wet : Bool} {w : Wd} (o : WdOk ls w) : ∀ k, k ≤ ls.length → ∀ j, j < ls.length → StdOk (ls.getD j pas0) ((gzK ls at_ heads wet w k).1.st j)
  | 0, _, j, hj => o.std j hj
  | k + 1, hk, j, hj => by
    have hf := L.few
    show StdOk _ (((gzK ls at_ heads wet w k).1.lay k _).st j)
    rw [Wd.st_lay _ _ (by omega) (by omega)]
    by_cases e : j = k
    · subst e
      rw [if_pos rfl]
      exact dayR_ok (L.get hj) (gzK_ok L hh o j (by omega) j hj) (nAt_bd hh).1
    · rw [if_neg e]
      exact gzK_ok L hh o k (by omega) j hj
theorem gzW_ok {ls : List Pas} (L : LsOk ls) {at_ : Nat} {heads : Int} (hh : 0 ≤ heads ∧ heads ≤ 40) {w : Wd} (o : WdOk ls w) {x : Spl} (hx : 0 ≤ x.2 ∧ x.2 ≤ 8) : WdOk ls (gzW ls at_ heads w x) := by
  refine ⟨fun k hk => ?_, hx⟩
  have := gzK_ok L hh (wet := wetB x.1) (at_ := at_) o ls.length (Nat.le_refl _) k hk
  have e : (gzW ls at_ heads w x).st k = (gzK ls at_ heads (wetB x.1) w ls.length).1.st k := by
    match k with
    | 0 => rfl
    | 1 => rfl
    | _ + 2 => rfl
  rw [e]
  exact this
def letters : List UInt8 := [100, 119]
def afters (ls : List Pas) (s : SkyR) (at_ : Nat) (heads : Int) (w : Wd) : List (Wd × Bool) := letters.flatMap fun c => if nextOk s w.sp c = true then [(gzW ls at_ heads w (nextX w.sp c), gzB ls at_ heads w (nextX w.sp c))] else []
def dawnB (ls : List Pas) (s : SkyR) (at_ : Nat) (heads : Int) (L : List Wd) : Bool := L.all fun w => (afters ls s at_ heads w).all fun y => y.2
def dawnL (ls : List Pas) (s : SkyR) (at_ : Nat) (heads : Int) (L : List Wd) : List Wd := L.flatMap fun w => (afters ls s at_ heads w).map fun y => y.1
def turnA (ls : List Pas) (s : SkyR) (heads : Int) (L : List Wd) (rest : List Wd → Option (List Int)) : Nat → Option (List Int)
  | 0 => none
  | k + 1 =>
    let at_ := ls.length - (k + 1)
    if dawnB ls s at_ heads L = true then
      match rest (dawnL ls s at_ heads L) with
      | some r => some ((at_ : Int) :: r)
      | none => turnA ls s heads L rest k
    else turnA ls s heads L rest k
def turnR (ls : List Pas) (s : SkyR) (heads : Int) : Nat → List Wd → Option (List Int)
  | 0, L => turnA ls s heads L (fun _ => some []) ls.length
  | d + 1, L => turnA ls s heads L (turnR ls s heads d) ls.length
def SameW (L L' : List Wd) : Prop := ∀ w, w ∈ L ↔ w ∈ L'
theorem dawnB_same {ls : List Pas} {s : SkyR} {at_ : Nat} {heads : Int} {L L' : List Wd} (h : SameW L L') : dawnB ls s at_ heads L = dawnB ls s at_ heads L' := by
  unfold dawnB
  rw [Bool.eq_iff_iff, List.all_eq_true, List.all_eq_true]
  exact ⟨fun a w hw => a w ((h w).2 hw), fun a w hw => a w ((h w).1 hw)⟩
theorem dawnL_same {ls : List Pas} {s : SkyR} {at_ : Nat} {heads : Int} {L L' : List Wd} (h : SameW L L') : SameW (dawnL ls s at_ heads L) (dawnL ls s at_ heads L') := fun w => by
  unfold dawnL
  rw [List.mem_flatMap, List.mem_flatMap]
  exact ⟨fun ⟨a, h1, h2⟩ => ⟨a, (h a).1 h1, h2⟩, fun ⟨a, h1, h2⟩ => ⟨a, (h a).2 h1, h2⟩⟩
theorem turnA_same {ls : List Pas} {s : SkyR} {heads : Int} {L L' : List Wd} (h : SameW L L') {rest : List Wd → Option (List Int)} (hr : ∀ M M', SameW M M' → rest M = rest M') : ∀ k, turnA ls s heads L rest k = turnA ls s heads L' rest k
  | 0 => rfl
  | k + 1 => by
    simp only [turnA]
    rw [dawnB_same h, hr _ _ (dawnL_same h), turnA_same h hr k]
theorem turnR_same {ls : List Pas} {s : SkyR} {heads : Int} : ∀ (d : Nat) (L L' : List Wd), SameW L L' → turnR ls s heads d L = turnR ls s heads d L'
  | 0, _L, _L', h => turnA_same h (fun _ _ _ => rfl) _
  | d + 1, _L, _L', h => turnA_same h (fun M M' => turnR_same d M M') _
theorem nextX_bd {s : SkyR} (f : skyOk s) {x : Spl} {c : UInt8} (h : nextOk s x c = true) (hx : 0 ≤ x.2 ∧ x.2 ≤ 8) : 0 ≤ (nextX x c).2 ∧ (nextX x c).2 ≤ 8 := by
  obtain ⟨f1, f2, f3⟩ := f
  unfold nextX
  unfold nextOk at h
  split
  · exact ⟨by show (0 : Int) ≤ 1; decide, by show (1 : Int) ≤ 8; decide⟩
  · rename_i e
    rw [if_neg e] at h
    have h := of_decide_eq_true h
    dsimp only
    split at h <;> omega
theorem afters_ok {ls : List Pas} (L : LsOk ls) {s : SkyR} (f : skyOk s) {at_ : Nat} {heads : Int} (hh : 0 ≤ heads ∧ heads ≤ 40) {w : Wd} (o : WdOk ls w) : ∀ y ∈ afters ls s at_ heads w, WdOk ls y.1 := fun y hy => by
  unfold afters at hy
  rw [List.mem_flatMap] at hy
  obtain ⟨c, _, hy⟩ := hy
  split at hy
  · rename_i hc
    rw [List.mem_singleton.1 hy]
    exact gzW_ok L hh o (nextX_bd f hc o.sp)
  · cases hy
section
variable {main : Bool} {J : JT} {h H : List AObj} {K : Value → List AObj → Prop} {KV : Value → Prop} {HL : List AObj → Prop} {n0 : Nat}
theorem store2 {b k sz : Nat} {w : Wd} {x : Std} (hb : H[b]? = some (.cells w.cells true sz)) (hk : k < 3) (h1 : ∀ H', SameX [b] H H' → H'[b]? = some (.cells (w.lay k x).cells true sz) → H'.length = H.length → HL H') : aStore 2 (ptr b (k * 2)) (.agg ⟨[vint x.1, vint x.2]⟩) H HL := by
  have hlt := lt_of_get hb
  have fin : HL (H.set b (.cells (w.lay k x).cells true sz)) := h1 _ ⟨by simp, fun i hi hn => by rw [List.getElem?_set_ne (fun e => hn (by simp [e]))]⟩ (by simp [hlt]) (by simp)
  unfold aStore
  simp only [hb]
  refine ⟨rfl, rfl, ?_, ?_⟩
  · simp [Wd.cells]
    omega
  · match k, hk with
    | 0, _ => exact fin
    | 1, _ => exact fin
    | 2, _ => exact fin
theorem load2 {b k sz : Nat} {w : Wd} {wr : Bool} (hb : H[b]? = some (.cells w.cells wr sz)) (hk : k < 3) (h1 : KV (.agg ⟨[vint (w.st k).1, vint (w.st k).2]⟩)) : aLoad true 2 (ptr b (k * 2)) H KV := by
  refine load_part (c := [vint (w.st k).1, vint (w.st k).2]) hb (by simp [Wd.cells]; omega) ?_ rfl h1
  match k, hk with
  | 0, _ => rfl
  | 1, _ => rfl
  | 2, _ => rfl
theorem storeS {b sz : Nat} {w : Wd} {x : Spl} (hb : H[b]? = some (.cells w.cells true sz)) (h1 : ∀ H', SameX [b] H H' → H'[b]? = some (.cells ({ w with sp := x } : Wd).cells true sz) → H'.length = H.length → HL H') : aStore 2 (ptr b 6) (.agg ⟨spC x⟩) H HL := by
  have hlt := lt_of_get hb
  have fin : HL (H.set b (.cells ({ w with sp := x } : Wd).cells true sz)) := h1 _ ⟨by simp, fun i hi hn => by rw [List.getElem?_set_ne (fun e => hn (by simp [e]))]⟩ (by simp [hlt]) (by simp)
  unfold aStore
  simp only [hb]
  exact ⟨rfl, rfl, by simp [Wd.cells], fin⟩
theorem good78 (hJ : Closed prog main J) {ls : List Pas} {lv : Value} (L : LsOk ls) (hl : SliE H lv 6 Pas.cells ls) (hK : ∀ H', SameX [] H H' → K (startW ls).val H') : Good prog J 78 [lv] H K := by
  refine g78 hJ fun ok => ?_
  rw [e78]
  have few := L.few
  refine qAl fun H1 p1 e1 S1 c1 l1 => qAl fun H2 p2 e2 S2 c2 l2 => ?_
  rw [sliE_len hl]
  have c1' := S2.get c1 (by simp)
  refine l78_1 hJ (fun k : Nat => ls.length - k) (fun k F H' => k ≤ ls.length ∧ SameX [] H H' ∧ H'[p1]? = some (.cells [vint 0, vint 0, vint 0, vint 0, vint 0, vint 0, .int .u8 0, vint 0] true 0) ∧ H'[p2]? = some (.cells (startK ls k).cells true 0) ∧ F.ds = [] ∧ F.r 2 = ptr p1 0 ∧ F.r 3 = ptr p2 0 ∧ F.r 6 = lv ∧ F.r 7 = vint (ls.length : Nat) ∧ F.r 8 = vint (k : Nat)) ?_ (s := 0)
    (.inl ⟨by omega, S1.trans S2, c1', c2, rfl, rfl, rfl, rfl, rfl, rfl⟩)
  rintro k F H' ⟨hk, S, d1, d2, ds, r2, r3, r6, r7, r8⟩ okc hnc
  rw [s78_1, r2, r3, r6, r7, r8]
  refine lssI (cndI (fun hlt => ?_) fun hge => ?_)
  rotate_left
  · have : k = ls.length := by omega
    subst this
    refine load_part (c := (startW ls).cells) d2 (by simp [Wd.cells]) rfl rfl ?_
    refine qStA (c := (startW ls).cells) d1 rfl rfl rfl fun H4 S4 c4 l4 => ?_
    refine retQs ds (resW_cell (gg := true) (s := 8) (by kernel_rfl) ?_)
    show aLoad true 8 (F.r 2) H4 _
    rw [r2]
    refine load_part (c := (startW ls).cells) c4 (by simp [Wd.cells]) rfl rfl (resW_nil ?_)
    exact hK H4 (S.thru S4 (by simp; omega))
  have hkl : k < ls.length := by omega
  have hl' := S.sli hl (by simp)
  obtain ⟨b, o, cs, wr, sz, hidx, hb, hos, htk, hkn⟩ := sliE_elem (s := 6) (fun _ => rfl) (by decide) hl' hkl
  have eg : ls[k] = ls.getD k pas0 := by
    rw [List.getD_eq_getElem?_getD, List.getElem?_eq_getElem hkl]
    rfl
  rw [eg] at htk
  generalize hp : ls.getD k pas0 = p at htk
  refine hidx _ (load_part (c := p.cells) hb hos htk rfl (qAl fun H4 p4 e4 S4 c4 l4 => qStA (c := p.cells) c4 rfl rfl rfl fun H5 S5 c5 l5 => ?_))
  have d2' := S5.get (S4.get d2 (by simp)) (by have := lt_of_get d2; simp; omega)
  have d1' := S5.get (S4.get d1 (by simp)) (by have := lt_of_get d1; simp; omega)
  have S' := (S.trans S4).thru S5 (by have := S.1; simp; omega)
  refine offI (ldI (v := vint p.grass) c5 rfl rfl (fillO (l := [vint p.grass]) rfl rfl rfl (by decide) (fillI (offI (idxAz (by omega) (store2 (x := (p.grass, 0)) d2' (by omega) fun H6 S6 c6 l6 => ?_))))))
  refine addI (by omega) ⟨k + 1, by dsimp only; omega, .inl ⟨by omega, S'.thru S6 (by simp; omega), S6.get d1' (by simp; omega), ?_, ds, r2, r3, r6, r7, by show vint _ = vint _; congr 1⟩⟩
  rw [c6, startK, hp]
theorem good118 (hJ : Closed prog main J) {ls : List Pas} {lv : Value} {w : Wd} {x : Spl} {at_ : Nat} {heads : Int} (L : LsOk ls) (hl : SliE H lv 6 Pas.cells ls) (o : WdOk ls w) (hh : 0 ≤ heads ∧ heads ≤ 40) (hK : ∀ H', SameX [] H H' → K (.tuple ⟨[(gzW ls at_ heads w x).val, .bool (gzB ls at_ heads w x)]⟩) H') : Good prog J 118 [w.val, lv, vint (at_ : Nat), vint heads, .agg ⟨spC x⟩] H K := by
  refine g118 hJ fun ok => ?_
  rw [e118]
  have few := L.few
  refine qBox (l := w.cells) rfl fun H1 p1 e1 S1 c1 l1 => qBox (l := spC x) rfl fun H2 p2 e2 S2 c2 l2 => qAl fun H3 p3 e3 S3 c3 l3 => ?_
  rw [sliE_len hl]
  have c1' := S3.get (S2.get c1 (by simp)) (by simp)
  have c2' := S3.get c2 (by simp)
  refine l118_1 hJ (fun k : Nat => ls.length - k) (fun k F H' => k ≤ ls.length ∧ SameX [] H H' ∧ H'[p1]? = some (.cells (gzK ls at_ heads (wetB x.1) w k).1.cells true 0) ∧ H'[p2]? = some (.cells (spC x) true 0) ∧ H'[p3]? = some (.cells [vint 0, vint 0, vint 0, vint 0, vint 0, vint 0, .int .u8 0, vint 0] true 0) ∧ F.ds = [] ∧ F.r 2 = vint (at_ : Nat) ∧ F.r 3 = vint heads ∧ F.r 5 = ptr p1 0 ∧ F.r 9 = ptr p2 0 ∧ F.r 10 = ptr p3 0 ∧ F.r 12 = .bool (gzK ls at_ heads (wetB x.1) w k).2 ∧ F.r 19 = lv ∧ F.r 20 = vint (ls.length : Nat) ∧ F.r 21 = vint (k : Nat)) ?_ (s := 0)
    (.inl ⟨by omega, (S1.trans S2).trans S3, c1', c2', c3, rfl, rfl, rfl, rfl, rfl, rfl, rfl, rfl, rfl, rfl⟩)
  rintro k F H' ⟨hk, S, d1, d2, d3, ds, r2, r3, r5, r9, r10, r12, r19, r20, r21⟩ okc hnc
  rw [s118_1, r2, r3, r5, r9, r10, r12, r19, r20, r21]
  refine lssI (cndI (fun hlt => ?_) fun hge => ?_)
  rotate_left
  · have : k = ls.length := by omega
    subst this
    refine load_part (c := spC x) d2 (by simp [spC]) rfl rfl (offI (storeS d1 fun H4 S4 c4 l4 => ?_))
    have d3' := S4.get d3 (by simp; omega)
    refine load_part (c := (gzW ls at_ heads w x).cells) c4 (by simp [Wd.cells]) rfl rfl ?_
    refine qStA (c := (gzW ls at_ heads w x).cells) d3' rfl rfl rfl fun H5 S5 c5 l5 => ?_
    refine retQs ds (resW_cell (gg := true) (s := 8) (by kernel_rfl) ?_)
    show aLoad true 8 (F.r 10) H5 _
    rw [r10]
    refine load_part (c := (gzW ls at_ heads w x).cells) c5 (by simp [Wd.cells]) rfl rfl (resW_tmp (by simp [unk, RG.p]) (resW_nil ?_))
    exact hK H5 ((S.thru S4 (by simp; omega)).thru S5 (by simp; omega))
  have hkl : k < ls.length := by omega
  have hl' := S.sli hl (by simp)
  obtain ⟨b, oo, cs, wr, sz, hidx, hb, hos, htk, hkn⟩ := sliE_elem (s := 6) (fun _ => rfl) (by decide) hl' hkl
  have eg : ls[k] = ls.getD k pas0 := by
    rw [List.getD_eq_getElem?_getD, List.getElem?_eq_getElem hkl]
    rfl
  rw [eg] at htk
  have fp := L.get hkl
  have fo := gzK_ok L hh (at_ := at_) (wet := wetB x.1) o k hk k hkl
  generalize hp : ls.getD k pas0 = p at htk fp fo
  refine hidx _ (load_part (c := p.cells) hb hos htk rfl (qAl fun H4 p4 e4 S4 c4 l4 => qStA (c := p.cells) c4 rfl rfl rfl fun H5 S5 c5 l5 => eqlI ?_))
  have n4 : p4 = H'.length := e4
  have l1' := lt_of_get d1
  have l2' := lt_of_get d2
  have l3' := lt_of_get d3
  have d1' := S5.get (S4.get d1 (by simp)) (by simp; omega)
  have d2' := S5.get (S4.get d2 (by simp)) (by simp; omega)
  have d3' := S5.get (S4.get d3 (by simp)) (by simp; omega)
  have S' := (S.trans S4).thru S5 (by have := S.1; simp; omega)
  have post : ∀ {F' : RG}, F'.ds = [] → F'.r 2 = vint (at_ : Nat) → F'.r 3 = vint heads → F'.r 5 = ptr p1 0 → F'.r 9 = ptr p2 0 → F'.r 10 = ptr p3 0 → F'.r 12 = .bool (gzK ls at_ heads (wetB x.1) w k).2 → F'.r 19 = lv → F'.r 20 = vint (ls.length : Nat) → F'.r 21 = vint (k : Nat) → F'.r 13 = vint (k : Nat) → F'.r 14 = ptr p4 0 → F'.r 15 = vint (nAt at_ heads k) → 
      W prog J 55 H.length 118 (subC [1, 1, 0, 1, 0, 0, 1, 1, 0, 0, 1, 1, 1] (codeOf f118)) F' H5 (contX pl118 prog J 55 H.length 118 ct118 [1, 1, 0, 1, 0, 0, 1, 1, 0, 0, 1, 1, 1] (codeOf f118) [Nx H.length (fun k : Nat => ls.length - k) (fun k F H' => k ≤ ls.length ∧ SameX [] H H' ∧ H'[p1]? = some (.cells (gzK ls at_ heads (wetB x.1) w k).1.cells true 0) ∧ H'[p2]? = some (.cells (spC x) true 0) ∧ H'[p3]? = some (.cells [vint 0, vint 0, vint 0, vint 0, vint 0, vint 0, .int .u8 0, vint 0] true 0) ∧ F.ds = [] ∧ F.r 2 = vint (at_ : Nat) ∧ F.r 3 = vint heads ∧ F.r 5 = ptr p1 0 ∧ F.r 9 = ptr p2 0 ∧ F.r 10 = ptr p3 0 ∧ F.r 12 = .bool (gzK ls at_ heads (wetB x.1) w k).2 ∧ F.r 19 = lv ∧ F.r 20 = vint (ls.length : Nat) ∧ F.r 21 = vint (k : Nat)) k] (RetQ prog [.cell 10 111, .tmp 11] H.length K)) := by
    intro F' ds r2 r3 r5 r9 r10 r12 r19 r20 r21 r13 r14 r15
    rw [s118_2, r5, r9, r13, r14, r15, r21]
    generalize hW : (gzK ls at_ heads (wetB x.1) w k).1 = W at *
    refine ⟨[p4, p1], load_part (c := p.cells) c5 (by simp [Pas.cells]) rfl rfl ⟨by simp [RdOk, ptrBlk], offI (idxAz (by omega) (load2 d1' (by omega) ⟨by simp [RdOk, ptrBlk], fillM (qAl fun H6 p6 e6 S6 c6 l6 => ⟨sbTwo S6 (lt_of_get c5) (lt_of_get d1') (by simp) (by simp), ?_⟩)⟩))⟩⟩
    refine qStA (c := medC p (W.st k)) c6 rfl rfl rfl fun H7 S7 c7 l7 => ?_
    have d17 := S7.get (S6.get d1' (by simp)) (by have := lt_of_get d1'; simp; omega)
    have d27 := S7.get (S6.get d2' (by simp)) (by have := lt_of_get d2'; simp; omega)
    have d37 := S7.get (S6.get d3' (by simp)) (by have := lt_of_get d3'; simp; omega)
    have S7' := (S'.trans S6).thru S7 (by have := S'.1; simp; omega)
    refine offI (ldI (v := .int .u8 x.1.toNat) d27 rfl rfl ?_)
    have e119 : (Value.int .u8 119) = .int .u8 (119 : UInt8).toNat := rfl
    rw [e119]
    refine eqlU (good126 hJ c7 fp fo (nAt_bd hh) fun H8 S8 c8 => ext0 (ext1 ?_))
    have n6 : p6 = H5.length := e6
    have l5' := S5.1
    have l4' := S4.1
    have l15 := lt_of_get d1'
    have l25 := lt_of_get d2'
    have l35 := lt_of_get d3'
    have d18 := S8.get d17 (by simp; omega)
    have d28 := S8.get d27 (by simp; omega)
    have d38 := S8.get d37 (by simp; omega)
    have S8' := S7'.thru S8 (by have := S'.1; simp; omega)
    have nxt : ∀ {F2 : RG} {H9 : List AObj}, SameX [p1] H8 H9 → H9[p1]? = some (.cells (W.lay k (dayR p (W.st k) (nAt at_ heads k) (wetB x.1))).cells true 0) → F2.ds = [] → F2.r 2 = vint (at_ : Nat) → F2.r 3 = vint heads → F2.r 5 = ptr p1 0 → F2.r 9 = ptr p2 0 → F2.r 10 = ptr p3 0 → F2.r 12 = .bool ((gzK ls at_ heads (wetB x.1) w k).2 && !hungR (W.st k) (nAt at_ heads k)) → F2.r 19 = lv → F2.r 20 = vint (ls.length : Nat) → F2.r 21 = vint ((k : Int) + 1) → 
        Nx H.length (fun k : Nat => ls.length - k) (fun k F H' => k ≤ ls.length ∧ SameX [] H H' ∧ H'[p1]? = some (.cells (gzK ls at_ heads (wetB x.1) w k).1.cells true 0) ∧ H'[p2]? = some (.cells (spC x) true 0) ∧ H'[p3]? = some (.cells [vint 0, vint 0, vint 0, vint 0, vint 0, vint 0, .int .u8 0, vint 0] true 0) ∧ F.ds = [] ∧ F.r 2 = vint (at_ : Nat) ∧ F.r 3 = vint heads ∧ F.r 5 = ptr p1 0 ∧ F.r 9 = ptr p2 0 ∧ F.r 10 = ptr p3 0 ∧ F.r 12 = .bool (gzK ls at_ heads (wetB x.1) w k).2 ∧ F.r 19 = lv ∧ F.r 20 = vint (ls.length : Nat) ∧ F.r 21 = vint (k : Nat)) k F2 H9 := by
      intro F2 H9 S9 c9 ds r2 r3 r5 r9 r10 r12 r19 r20 r21
      refine ⟨k + 1, by dsimp only; omega, .inl ⟨by omega, S8'.thru S9 (by simp; omega), ?_, S9.get d28 (by simp; omega), S9.get d38 (by simp; omega), ds, r2, r3, r5, r9, r10, ?_, r19, r20, by rw [r21]; congr 1⟩⟩
      · rw [c9, gzK, hW, hp]
      · rw [r12, gzK, hW]
    have c8' : H8[p6]? = some (.cells (medC p (dayR p (W.st k) (nAt at_ heads k) (wetB x.1))) true 0) := c8
    have ld : ∀ {KV : Value → Prop}, KV (.agg ⟨[vint (dayR p (W.st k) (nAt at_ heads k) (wetB x.1)).1, vint (dayR p (W.st k) (nAt at_ heads k) (wetB x.1)).2]⟩) → aLoad true 2 (ptr p6 (0 + 6)) H8 KV := fun hk => load_part (c := [vint (dayR p (W.st k) (nAt at_ heads k) (wetB x.1)).1, vint (dayR p (W.st k) (nAt at_ heads k) (wetB x.1)).2]) c8' (by simp [medC, Pas.cells]) rfl rfl hk
    refine cndB (fun hy => ?_) fun hn => ?_
    · refine offI (ld (offI (idxAz (by omega) (store2 (x := dayR p (W.st k) (nAt at_ heads k) (wetB x.1)) d18 (by omega) fun H9 S9 c9 l9 => addI (by omega) (nxt S9 c9 ds r2 r3 r5 r9 r10 ?_ r19 r20 rfl)))))
      rw [hy, Bool.not_true, Bool.and_false]
      rfl
    · refine offI (ld (offI (idxAz (by omega) (store2 (x := dayR p (W.st k) (nAt at_ heads k) (wetB x.1)) d18 (by omega) fun H9 S9 c9 l9 => addI (by omega) (nxt S9 c9 ds r2 r3 r5 r9 r10 ?_ r19 r20 rfl)))))
      rw [hn, Bool.not_false, Bool.and_true]
      exact r12
  refine cndI (fun he => hold.2 ?_) fun he => hold.2 ?_
  · refine post ds r2 r3 r5 r9 r10 r12 r19 r20 r21 rfl rfl ?_
    show vint heads = _
    rw [nAt, if_pos (by omega)]
  · refine post ds r2 r3 r5 r9 r10 r12 r19 r20 r21 rfl rfl ?_
    show vint 0 = _
    rw [nAt, if_neg (by omega)]
end
def mB (x y : Option Bool) : Option Bool := match x with
  | some true => y
  | some false => some false
  | none => none
theorem mB_some (a b : Bool) : mB (some a) (some b) = some (a && b) := by cases a <;> rfl
def mF (a b c d : Int) : Option Bool := mB (some (a == b)) (mB (some (c == d)) (some true))
theorem teqW (w w' : Wd) : teq prog 10000 111 w.val w'.val = mB (mB (mF w.a.1 w'.a.1 w.a.2 w'.a.2) (mB (mF w.b.1 w'.b.1 w.b.2 w'.b.2) (mB (mF w.c.1 w'.c.1 w.c.2 w'.c.2) (some true)))) (mB (mF (w.sp.1.toNat : Int) (w'.sp.1.toNat : Int) w.sp.2 w'.sp.2) (some true)) := by kernel_rfl
theorem val_inj {w w' : Wd} (h : w.val = w'.val) : w = w' := by
  obtain ⟨⟨a1, a2⟩, ⟨b1, b2⟩, ⟨c1, c2⟩, ⟨s1, s2⟩⟩ := w
  obtain ⟨⟨a1', a2'⟩, ⟨b1', b2'⟩, ⟨c1', c2'⟩, ⟨s1', s2'⟩⟩ := w'
  simp only [Wd.val, Wd.cells, vint, Value.agg.injEq, Array.mk.injEq, List.cons.injEq, Value.int.injEq, true_and, and_true] at h
  obtain ⟨rfl, rfl, rfl, rfl, rfl, rfl, e, rfl⟩ := h
  have : s1 = s1' := UInt8.toNat_inj.1 (by omega)
  rw [this]
theorem teq_val {w w' : Wd} [i : Decidable (w.val = w'.val)] : teq prog 10000 111 (Wd.val w) (Wd.val w') = some (decide (w.val = w'.val)) := by
  rw [teqW]
  simp only [mF, mB_some, Option.some.injEq]
  rw [Bool.eq_iff_iff]
  simp only [Bool.and_eq_true, beq_iff_eq, decide_eq_true_eq, and_true]
  constructor
  · rintro ⟨⟨⟨h1, h2⟩, ⟨h3, h4⟩, h5, h6⟩, h7, h8⟩
    simp only [Wd.val, Wd.cells, h1, h2, h3, h4, h5, h6, h7, h8]
  · intro h
    rw [val_inj h]
    simp
theorem kOk_val (w : Wd) : kOk prog 10000 111 w.val = true := by kernel_rfl
theorem same_val (w : Wd) : Instr.sameBits 10000 w.val w.val = true := by
  simp [Instr.sameBits, Wd.val, Wd.cells, vint]
def entW (w : Wd) : Value × Value := (w.val, .bool true)
theorem updL_val {w : Wd} : ∀ N : List Wd, updL w.val (.bool true) (N.map entW) = (if w ∈ N then N else N ++ [w]).map entW
  | [] => by simp [updL, entW]
  | x :: N => by
    simp only [List.map_cons, entW, updL]
    by_cases e : w = x
    · subst e
      simp [entW]
    · rw [if_neg fun h => e (val_inj h)]
      have := updL_val (w := w) N
      unfold entW at this ⊢
      rw [this]
      by_cases hm : w ∈ N
      · simp [hm, e]
      · simp [hm, e]
section
variable {main : Bool} {J : JT} {h H : List AObj} {K : Value → List AObj → Prop} {KV : Value → Prop} {HL : List AObj → Prop} {n0 : Nat}
theorem updW {b : Nat} {N : List Wd} {w : Wd} (hb : H[b]? = some (.map (N.map entW) true)) (nd : N.Nodup) (hk : ∀ (H' : List AObj) (N' : List Wd), SameX [b] H H' → H'[b]? = some (.map (N'.map entW) true) → N'.Nodup → (∀ y, y ∈ N' ↔ y ∈ N ∨ y = w) → H'.length = H.length → HL H') : aUpdX prog 102 (.map (some b)) w.val (.bool true) H HL := by
  have hlt := lt_of_get hb
  unfold aUpdX
  rw [show prog.underlying 102 = some (.map 111 4) by kernel_rfl]
  simp only [hb]
  refine ⟨kOk_val w, by simp [Wd.val, Wd.cells, vint, VOk, AOk, LOk], same_val w, fun e he => ?_, ?_⟩
  · obtain ⟨x, _, rfl⟩ := List.mem_map.1 he
    exact @teq_val _ _ (Classical.propDecidable _)
  · rw [updL_val]
    refine hk _ (if w ∈ N then N else N ++ [w]) ⟨by simp, fun i hi hn => by rw [List.getElem?_set_ne (fun e => hn (by simp [e]))]⟩ (by simp [hlt]) ?_ (fun y => ?_) (by simp)
    · split
      · exact nd
      · rename_i hn
        rw [List.nodup_append]
        exact ⟨nd, by simp, fun a ha b hb => by
          rw [List.mem_singleton.1 hb]
          exact fun e => hn (e ▸ ha)⟩
    · split
      · rename_i hm
        exact ⟨.inl, fun h => h.elim id fun e => e ▸ hm⟩
      · simp
def MapW (h : List AObj) (v : Value) (L : List Wd) : Prop := ∃ b wr, v = .map (some b) ∧ h[b]? = some (.map (L.map entW) wr) ∧ L.Nodup
theorem nextW {b m : Nat} {M : List Wd} {wr : Bool} {sn : List Nat} (hb : H[b]? = some (.iter m M.length sn)) (hm : H[m]? = some (.map (M.map entW) wr)) (hne : b ≠ m)
    (h1 : ∀ (i : Nat) (w : Wd) (H' : List AObj), M[i]? = some w → i ∉ sn → SameX [b] H H' → H'[b]? = some (.iter m M.length (sn ++ [i])) → H'[m]? = some (.map (M.map entW) wr) → H'.length = H.length → K (.tuple ⟨[.bool true, w.val, .bool true]⟩) H') (h2 : (∀ i, i < M.length → i ∈ sn) → K (.tuple ⟨[.bool false]⟩) H) : aNext (ptr b 0) H K := by
  have hlt := lt_of_get hb
  unfold aNext
  simp only [ptr, hb, hm]
  refine ⟨by simp, fun i a u hi hn => ?_, h2⟩
  rw [List.getElem?_map] at hi
  obtain ⟨w, hw, e⟩ := Option.map_eq_some_iff.1 hi
  cases e
  exact h1 i w _ hw hn ⟨by simp, fun j hj hx => by rw [List.getElem?_set_ne (fun e => hx (by simp [e]))]⟩ (by simp [hlt]) (by rw [List.getElem?_set_ne hne]; exact hm) (by simp)
theorem entryW {b m i : Nat} {M : List Wd} {wr : Bool} {sn : List Nat} {w : Wd} (hb : H[b]? = some (.iter m M.length (sn ++ [i]))) (hm : H[m]? = some (.map (M.map entW) wr)) (hw : M[i]? = some w) (hk : KV (.tuple ⟨[w.val, .bool true]⟩)) : aEntry (ptr b 0) H KV := by
  unfold aEntry
  have e : (M.map entW)[i]? = some (w.val, .bool true) := by
    rw [List.getElem?_map, hw]
    rfl
  simp only [ptr, hb, hm, List.getLast?_append, List.getLast?_singleton, Option.some_or, e]
  exact ⟨by simp, hk⟩
theorem rangeW {m : Nat} {M : List Wd} {wr : Bool} (hm : H[m]? = some (.map (M.map entW) wr)) (hk : ∀ H' p, p = H.length → SameX [] H H' → H'[p]? = some (.iter m M.length []) → H'.length = p + 1 → K (ptr p 0) H') : aRange prog 102 (.map (some m)) H K := by
  unfold aRange
  rw [show prog.underlying 102 = some (.map 111 4) by kernel_rfl]
  simp only [hm, List.length_map]
  exact hk _ H.length rfl SameX.refl.app (by simp) (by simp)
end
theorem nodup_le : ∀ (n : Nat) (l : List Nat), l.Nodup → (∀ i ∈ l, i < n) → l.length ≤ n
  | 0, l, _, h => by
    cases l with
    | nil => simp
    | cons x l => exact absurd (h x (by simp)) (Nat.not_lt_zero _)
  | n + 1, l, nd, h => by
    by_cases hm : n ∈ l
    · have h1 := List.length_erase_of_mem hm
      have h2 := nodup_le n (l.erase n) (nd.erase n) fun i hi => by
        obtain ⟨hne, hi⟩ := nd.mem_erase_iff.1 hi
        have := h i hi
        omega
      omega
    · have := nodup_le n l nd fun i hi => by
        have := h i hi
        have : i ≠ n := fun e => hm (e ▸ hi)
        omega
      omega
def afC (ls : List Pas) (s : SkyR) (at_ : Nat) (heads : Int) (w : Wd) (c : UInt8) : List (Wd × Bool) := if nextOk s w.sp c = true then [(gzW ls at_ heads w (nextX w.sp c), gzB ls at_ heads w (nextX w.sp c))] else []
def afJ (ls : List Pas) (s : SkyR) (at_ : Nat) (heads : Int) (w : Wd) (j : Nat) : List (Wd × Bool) := (letters.take j).flatMap (afC ls s at_ heads w)
theorem afJ_all {ls : List Pas} {s : SkyR} {at_ : Nat} {heads : Int} {w : Wd} : afJ ls s at_ heads w 2 = afters ls s at_ heads w := rfl
theorem afJ_step {ls : List Pas} {s : SkyR} {at_ : Nat} {heads : Int} {w : Wd} {j : Nat} {c : UInt8} (hc : letters[j]? = some c) : afJ ls s at_ heads w (j + 1) = afJ ls s at_ heads w j ++ afC ls s at_ heads w c := by
  unfold afJ
  rw [List.take_add_one, hc]
  simp
structure Dawned (ls : List Pas) (s : SkyR) (at_ : Nat) (heads : Int) (M : List Wd) (sn : List Nat) (E : List (Wd × Bool)) (N : List Wd) : Prop where
  mem : ∀ y, y ∈ N ↔ (∃ i w0, i ∈ sn ∧ M[i]? = some w0 ∧ ∃ z ∈ afters ls s at_ heads w0, z.1 = y) ∨ ∃ z ∈ E, z.1 = y
  fed : ∀ i ∈ sn, ∀ w0, M[i]? = some w0 → ∀ z ∈ afters ls s at_ heads w0, z.2 = true
  fedE : ∀ z ∈ E, z.2 = true
theorem Dawned.more {ls : List Pas} {s : SkyR} {at_ : Nat} {heads : Int} {M : List Wd} {sn : List Nat} {w : Wd} {i : Nat} {N : List Wd} (D : Dawned ls s at_ heads M sn (afters ls s at_ heads w) N) (hi : M[i]? = some w) : Dawned ls s at_ heads M (sn ++ [i]) [] N := by
  refine ⟨fun y => ?_, fun j hj w0 hw => ?_, fun z hz => by cases hz⟩
  · rw [D.mem y]
    constructor
    · rintro (⟨j, w0, h1, h2, h3⟩ | h)
      · exact .inl ⟨j, w0, by simp [h1], h2, h3⟩
      · exact .inl ⟨i, w, by simp, hi, h⟩
    · rintro (⟨j, w0, h1, h2, h3⟩ | ⟨z, hz, _⟩)
      · rcases List.mem_append.1 h1 with h1 | h1
        · exact .inl ⟨j, w0, h1, h2, h3⟩
        · rw [List.mem_singleton.1 h1, hi] at h2
          cases h2
          exact .inr h3
      · cases hz
  · rcases List.mem_append.1 hj with h1 | h1
    · exact D.fed j h1 w0 hw
    · rw [List.mem_singleton.1 h1, hi] at hw
      cases hw
      exact D.fedE
theorem Dawned.done {ls : List Pas} {s : SkyR} {at_ : Nat} {heads : Int} {M : List Wd} {sn : List Nat} {N : List Wd} (D : Dawned ls s at_ heads M sn [] N) (hs : ∀ i, i < M.length → i ∈ sn) : dawnB ls s at_ heads M = true ∧ SameW N (dawnL ls s at_ heads M) := by
  constructor
  · unfold dawnB
    rw [List.all_eq_true]
    intro w hw
    rw [List.all_eq_true]
    intro z hz
    obtain ⟨i, hi⟩ := List.getElem?_of_mem hw
    exact D.fed i (hs i (List.getElem?_eq_some_iff.1 hi).1) w hi z hz
  · intro y
    rw [D.mem y]
    unfold dawnL
    rw [List.mem_flatMap]
    constructor
    · rintro (⟨j, w0, h1, h2, z, hz, rfl⟩ | ⟨z, hz, _⟩)
      · exact ⟨w0, List.mem_of_getElem? h2, List.mem_map.2 ⟨z, hz, rfl⟩⟩
      · cases hz
    · rintro ⟨w0, hw, hy⟩
      obtain ⟨z, hz, e⟩ := List.mem_map.1 hy
      obtain ⟨i, hi⟩ := List.getElem?_of_mem hw
      exact .inl ⟨i, w0, hs i (List.getElem?_eq_some_iff.1 hi).1, hi, z, hz, e⟩
section
variable {main : Bool} {J : JT} {h H : List AObj} {K : Value → List AObj → Prop} {KV : Value → Prop} {HL : List AObj → Prop} {n0 : Nat}
theorem extO {b : Bool} (hk : KV (.bool b)) : aExt (.tuple ⟨[.bool b]⟩) 0 KV := ⟨rfl, hk⟩
def lettersV : Value := .agg ⟨[.int .u8 100, .int .u8 119]⟩
theorem letterI {j : Nat} {c : UInt8} (hc : letters[j]? = some c) (hk : KV (.int .u8 c.toNat)) : aIdxV 2 1 false lettersV (vint (j : Nat)) KV := by
  match j, hc with
  | 0, hc =>
    cases hc
    exact ⟨by decide, hk⟩
  | 1, hc =>
    cases hc
    exact ⟨by decide, hk⟩
theorem good77 (hJ : Closed prog main J) {ls : List Pas} {lv mv : Value} {s : SkyR} {M : List Wd} {at_ : Nat} {heads : Int} (L : LsOk ls) (_f : skyOk s) (hl : SliE H lv 6 Pas.cells ls) (hh : 0 ≤ heads ∧ heads ≤ 40) (hm : MapW H mv M) (o : ∀ w ∈ M, WdOk ls w)
    (hK1 : dawnB ls s at_ heads M = true → ∀ H' mv' M', SameX [] H H' → MapW H' mv' M' → SameW M' (dawnL ls s at_ heads M) → K (.tuple ⟨[mv', .bool true]⟩) H')
    (hK0 : dawnB ls s at_ heads M = false → ∀ H', SameX [] H H' → K (.tuple ⟨[.map none, .bool false]⟩) H') : Good prog J 77 [mv, lv, .agg ⟨s.cells⟩, vint (at_ : Nat), vint heads] H K := by
  obtain ⟨m, wr, rfl, hm, ndM⟩ := hm
  have hml := lt_of_get hm
  refine g77 hJ fun ok => ?_
  rw [e77]
  refine qBox (l := s.cells) rfl fun H1 ps e1 S1 c1 l1 => qNewM fun H2 po e2 S2 c2 l2 => rangeW (M := M) (wr := wr) (S2.get (S1.get hm (by simp)) (by simp)) fun H3 pi e3 S3 c3 l3 => ?_
  have c13 := S3.get (S2.get c1 (by simp)) (by simp)
  have c23 := S3.get c2 (by simp)
  have b1 := S1.1
  have b2 := S2.1
  have b3 := S3.1
  refine l77_1 hJ (fun sn : List Nat => M.length - sn.length) (fun sn F H' => sn.Nodup ∧ (∀ i ∈ sn, i < M.length) ∧ SameX [] H H' ∧ H'[ps]? = some (.cells s.cells true 0) ∧ H'[pi]? = some (.iter m M.length sn) ∧ (∃ N, H'[po]? = some (.map (N.map entW) true) ∧ N.Nodup ∧ Dawned ls s at_ heads M sn [] N) ∧ F.ds = [] ∧ F.r 1 = lv ∧ F.r 3 = vint (at_ : Nat) ∧ F.r 4 = vint heads ∧ F.r 7 = ptr ps 0 ∧ F.r 12 = .map (some po) ∧ F.r 22 = ptr pi 0) ?_ (s := [])
    (.inl ⟨List.nodup_nil, by simp, (S1.trans S2).trans S3, c13, c3, ⟨[], c23, List.nodup_nil, ⟨fun y => by simp, by simp, by simp⟩⟩, rfl, rfl, rfl, rfl, rfl, rfl, rfl⟩)
  rintro sn F H' ⟨nd, hb, S, d1, d3, ⟨N, d2, ndN, D⟩, ds, r1, r3, r4, r7, r12, r22⟩ okc hnc
  rw [s77_1, r22, r12, ds]
  have dm := S.get hm (by simp)
  refine nextW d3 dm (by omega) (fun i w H4 hw hi S4 c4 m4 l4 => ext30 (cnd_true.2 ?_)) fun hall => extO (cnd_false.2 ?_)
  rotate_left
  · obtain ⟨hB, hS⟩ := D.done hall
    exact retL_same (by simp [unk]) (hK1 hB H' _ N S ⟨po, true, rfl, d2, ndN⟩ hS)
  have ow := o w (List.mem_of_getElem? hw)
  refine entryW c4 m4 hw (ext0 (qAl fun H5 pw e5 S5 c5 l5 => qStA (c := w.cells) c5 rfl rfl rfl fun H6 S6 c6 l6 => fillO (l := [.int .u8 100]) rfl rfl rfl (by decide) (fillO (l := [.int .u8 119]) rfl rfl rfl (by decide) (fillI ?_))))
  have g1 := lt_of_get d1
  have g2 := lt_of_get d2
  have g3 := lt_of_get d3
  have g4 := S4.1
  have g5 := S5.1
  have t1 := S6.get (S5.get (S4.get d1 (by simp; omega)) (by simp)) (by simp; omega)
  have t2 := S6.get (S5.get (S4.get d2 (by simp; omega)) (by simp)) (by simp; omega)
  have t3 := S6.get (S5.get c4 (by simp)) (by simp; omega)
  have T := ((S.thru S4 (by simp; omega)).trans S5).thru S6 (by have := S.1; simp; omega)
  -- the letters
  refine l77_2 hJ (fun j : Nat => 2 - j) (fun j F H' => j ≤ 2 ∧ SameX [] H H' ∧ H'[ps]? = some (.cells s.cells true 0) ∧ H'[pi]? = some (.iter m M.length (sn ++ [i])) ∧ H'[pw]? = some (.cells w.cells true 0) ∧ (∃ N, H'[po]? = some (.map (N.map entW) true) ∧ N.Nodup ∧ Dawned ls s at_ heads M sn (afJ ls s at_ heads w j) N) ∧ F.ds = [] ∧ F.r 1 = lv ∧ F.r 3 = vint (at_ : Nat) ∧ F.r 4 = vint heads ∧ F.r 7 = ptr ps 0 ∧ F.r 12 = .map (some po) ∧ F.r 22 = ptr pi 0 ∧ F.r 13 = ptr pw 0 ∧ F.r 27 = lettersV ∧ F.r 28 = vint (j : Nat)) ?_ (s := 0)
    (.inl ⟨by omega, T, t1, t3, c6, ⟨N, t2, ndN, D⟩, ds, r1, r3, r4, r7, r12, r22, rfl, rfl, rfl⟩)
  clear t1 t2 t3 T D ndN d2 N d1 d3
  rintro j F2 H7 ⟨hj, T, t1, t3, t4, ⟨N, t2, ndN, D⟩, ds, r1, r3, r4, r7, r12, r22, r13, r27, r28⟩ okc2 hnc2
  rw [s77_2, r1, r3, r4, r7, r12, r13, r27, r28, ds]
  refine lssI (cndI (fun hlt => ?_) fun hge => ?_)
  rotate_left
  · have : j = 2 := by omega
    subst this
    rw [afJ_all] at D
    have nd' : (sn ++ [i]).Nodup := by
      rw [List.nodup_append]
      exact ⟨nd, by simp, fun a ha b hb e => hi (by rw [List.mem_singleton.1 hb] at e; exact e ▸ ha)⟩
    have hb' : ∀ x ∈ sn ++ [i], x < M.length := fun x hx => by
      rcases List.mem_append.1 hx with hx | hx
      · exact hb x hx
      · rw [List.mem_singleton.1 hx]
        exact (List.getElem?_eq_some_iff.1 hw).1
    have hle := nodup_le M.length _ nd' hb'
    rw [List.length_append] at hle
    exact ⟨sn ++ [i], by dsimp only; rw [List.length_append]; simp at hle ⊢; omega, .inl ⟨nd', hb', T, t1, t3, ⟨N, t2, ndN, D.more hw⟩, ds, r1, r3, r4, r7, r12, r22⟩⟩
  obtain ⟨c, hc⟩ : ∃ c, letters[j]? = some c := ⟨_, List.getElem?_eq_getElem (show j < letters.length by show j < 2; omega)⟩
  have hstep := afJ_step (ls := ls) (s := s) (at_ := at_) (heads := heads) (w := w) hc
  refine letterI hc (offI (load_part (c := spC w.sp) t4 (by simp [Wd.cells]) rfl rfl (load_part (c := s.cells) t1 (by simp [SkyR.cells]) rfl rfl ?_)))
  have q1 := lt_of_get t1
  have q2 := lt_of_get t2
  have q3 := lt_of_get t3
  have q4 := lt_of_get t4
  refine good117 hJ (by have := ow.sp; omega) fun H8 S8 => ext0 (ext1 (qAl fun H9 px e9 S9 c9 l9 => qStA (c := spC (nextX w.sp c)) c9 rfl rfl rfl fun H10 S10 c10 l10 => notI ?_))
  have v8 := S8.1
  have u1 := S10.get (S9.get (S8.get t1 (by simp)) (by simp)) (by simp; omega)
  have u2 := S10.get (S9.get (S8.get t2 (by simp)) (by simp)) (by simp; omega)
  have u3 := S10.get (S9.get (S8.get t3 (by simp)) (by simp)) (by simp; omega)
  have u4 := S10.get (S9.get (S8.get t4 (by simp)) (by simp)) (by simp; omega)
  have U := ((T.trans S8).trans S9).thru S10 (by have := T.1; simp; omega)
  have k1 := lt_of_get u1
  have k2 := lt_of_get u2
  have k3 := lt_of_get u3
  have k4 := lt_of_get u4
  cases hnx : nextOk s w.sp c with
  | false =>
    have e0 : afJ ls s at_ heads w (j + 1) = afJ ls s at_ heads w j := by
      rw [hstep, afC, hnx]
      simp
    refine cnd_true.2 (addI (by omega) ⟨j + 1, by dsimp only; omega, .inl ⟨by omega, U, u1, u3, u4, ⟨N, u2, ndN, by rw [e0]; exact D⟩, ds, r1, r3, r4, r7, r12, r22, r13, r27, rfl⟩⟩)
  | true =>
    have e0 : afJ ls s at_ heads w (j + 1) = afJ ls s at_ heads w j ++ [(gzW ls at_ heads w (nextX w.sp c), gzB ls at_ heads w (nextX w.sp c))] := by
      rw [hstep, afC, hnx]
      simp
    refine cnd_false.2 (load_part (c := w.cells) u4 (by simp [Wd.cells]) rfl rfl (load_part (c := spC (nextX w.sp c)) c10 (by simp [spC]) rfl rfl ?_))
    refine good118 hJ L (U.sli hl (by simp)) ow hh fun H11 S11 => ext0 (ext1 (qAl fun H12 py e12 S12 c12 l12 => qStA (c := (gzW ls at_ heads w (nextX w.sp c)).cells) c12 rfl rfl rfl fun H13 S13 c13 l13 => notI ?_))
    have v11 := S11.1
    have w1 := S13.get (S12.get (S11.get u1 (by simp)) (by simp)) (by simp; omega)
    have w2 := S13.get (S12.get (S11.get u2 (by simp)) (by simp)) (by simp; omega)
    have w3 := S13.get (S12.get (S11.get u3 (by simp)) (by simp)) (by simp; omega)
    have w4 := S13.get (S12.get (S11.get u4 (by simp)) (by simp)) (by simp; omega)
    have Wt := ((U.trans S11).trans S12).thru S13 (by have := U.1; simp; omega)
    cases hfd : gzB ls at_ heads w (nextX w.sp c) with
    | false =>
      refine cnd_true.2 (retL_same (by simp [unk]) (hK0 ?_ H13 Wt))
      rw [← Bool.not_eq_true]
      intro hB
      unfold dawnB at hB
      rw [List.all_eq_true] at hB
      have h1 := hB w (List.mem_of_getElem? hw)
      rw [List.all_eq_true] at h1
      have h2 := h1 (gzW ls at_ heads w (nextX w.sp c), gzB ls at_ heads w (nextX w.sp c)) (List.mem_flatMap.2 ⟨c, List.mem_of_getElem? hc, by rw [hnx]; simp⟩)
      rw [hfd] at h2
      cases h2
    | true =>
      refine cnd_false.2 (load_part (c := (gzW ls at_ heads w (nextX w.sp c)).cells) c13 (by simp [Wd.cells]) rfl rfl ⟨⟨by simp [VOk], rfl⟩, updW w2 ndN fun H14 N' S14 c14 nd14 m14 l14 => ?_⟩)
      refine addI (by omega) ⟨j + 1, by dsimp only; omega, .inl ⟨by omega, Wt.thru S14 (by simp; omega), S14.get w1 (by simp; omega), S14.get w3 (by simp; omega), S14.get w4 (by simp; omega), ⟨N', c14, nd14, ⟨fun y => ?_, D.fed, fun z hz => ?_⟩⟩, ds, r1, r3, r4, r7, r12, r22, r13, r27, rfl⟩⟩
      · rw [m14, D.mem y, e0]
        simp only [List.mem_append, List.mem_singleton]
        constructor
        · rintro ((h | ⟨z, hz, e⟩) | rfl)
          · exact .inl h
          · exact .inr ⟨z, .inl hz, e⟩
          · exact .inr ⟨_, .inr rfl, rfl⟩
        · rintro (h | ⟨z, hz | rfl, e⟩)
          · exact .inl (.inl h)
          · exact .inl (.inr ⟨z, hz, e⟩)
          · exact .inr e.symm
      · rw [e0] at hz
        rcases List.mem_append.1 hz with hz | hz
        · exact D.fedE z hz
        · rw [List.mem_singleton.1 hz]
          exact hfd
end
theorem turnA_len {ls : List Pas} {s : SkyR} {heads : Int} {L : List Wd} {rest : List Wd → Option (List Int)} {n : Nat} (hr : ∀ M l, rest M = some l → l.length = n) : ∀ k l, turnA ls s heads L rest k = some l → l.length = n + 1
  | 0, l, h => by cases h
  | k + 1, l, h => by
    simp only [turnA] at h
    split at h
    · split at h
      · rename_i r hr'
        cases h
        rw [List.length_cons, hr _ _ hr']
      · exact turnA_len hr k l h
    · exact turnA_len hr k l h
theorem turnR_len {ls : List Pas} {s : SkyR} {heads : Int} : ∀ (d : Nat) (L : List Wd) (l : List Int), turnR ls s heads d L = some l → l.length = d + 1
  | 0, L, l, h => turnA_len (n := 0) (fun _ _ h => by cases h; rfl) _ _ h
  | d + 1, L, l, h => turnA_len (n := d + 1) (fun M l h => turnR_len d M l h) _ _ h
def restR (ls : List Pas) (s : SkyR) (heads : Int) : Nat → List Wd → Option (List Int)
  | 0 => fun _ => some []
  | d + 1 => turnR ls s heads d
theorem turnR_is {ls : List Pas} {s : SkyR} {heads : Int} (d : Nat) (L : List Wd) : turnR ls s heads d L = turnA ls s heads L (restR ls s heads d) ls.length := by cases d <;> rfl
section
variable {main : Bool} {J : JT} {h H : List AObj} {K : Value → List AObj → Prop} {KV : Value → Prop} {HL : List AObj → Prop} {n0 : Nat}
theorem sli_kn {v : Value} {s n : Nat} {cs : List Value} (h1 : Sli H v s n cs) : kn cs = true := by
  obtain ⟨_, _, _, ⟨_, h⟩, _⟩ := h1
  exact h
theorem sli_ln {v : Value} {s n : Nat} {cs : List Value} (h1 : Sli H v s n cs) : cs.length = n * s := by
  obtain ⟨_, _, _, ⟨h, _⟩, _⟩ := h1
  exact h
theorem appF {m p : Nat} {x y : Value} {ys : List Value} (hp : H[p]? = some (.cells [x] true 0)) (hx : kn1 x = true) (hm : 1 ≤ m ∧ m < 1000000) (hy : Sli H y 1 m ys)
    (hk : OwnX (H ++ [.cells (x :: ys) true 1]) 1 (x :: ys) (1 + m) (.slice (some ⟨H.length, 0, none⟩) (1 + m) fz) (some H.length) → K (.slice (some ⟨H.length, 0, none⟩) (1 + m) fz) (H ++ [.cells (x :: ys) true 1])) : aApp 1 (.slice (some ⟨p, 0, none⟩) 1 1) y H K := by
  have hr : room = 1073741824 := rfl
  have hf : fz = 1180591620717411303424 := rfl
  have hkn := sli_kn hy
  have hln := sli_ln hy
  have hy' := hy
  obtain ⟨yb, yc, rfl, _⟩ := hy
  unfold aApp
  simp only [hp]
  refine ⟨by omega, src_sli hy' (by decide) ⟨⟨by simp, by simp [kn, hx]⟩, fun _ => ⟨fun h => absurd h (by omega), fun _ => ?_⟩, fun h => absurd h (by omega)⟩⟩
  refine hk ⟨by simp [hln]; omega, ?_, .inr ⟨H.length, fz, 1, rfl, rfl, by simp, .inl ⟨rfl, rfl⟩⟩⟩
  unfold kn at hkn ⊢
  simp [hx, hkn]
def TurnV (H : List AObj) (v : Value) : Option (List Int) → Prop
  | none => v = .slice none 0 0
  | some l => ∃ o, OwnX H 1 (l.map vint) l.length v (some o)
theorem turn_step (hJ : Closed prog main J) {ls : List Pas} {lv : Value} {s : SkyR} {heads : Int} (L : LsOk ls) (f : skyOk s) (hh : 0 ≤ heads ∧ heads ≤ 40) (d : Nat)
    (hrec : ∀ d', d = d' + 1 → ∀ {H : List AObj} {mv : Value} {M : List Wd} {K : Value → List AObj → Prop}, SliE H lv 6 Pas.cells ls → MapW H mv M → (∀ w ∈ M, WdOk ls w) → (∀ H' v, SameX [] H H' → TurnV H' v (turnR ls s heads d' M) → K v H') → Good prog J 79 [mv, lv, .agg ⟨s.cells⟩, vint heads, vint ((d' : Int) + 1)] H K)
    {H : List AObj} {mv : Value} {M : List Wd} {K : Value → List AObj → Prop} (hd : d ≤ 100) (hl : SliE H lv 6 Pas.cells ls) (hm : MapW H mv M) (o : ∀ w ∈ M, WdOk ls w)
    (hK : ∀ H' v, SameX [] H H' → TurnV H' v (turnR ls s heads d M) → K v H') : Good prog J 79 [mv, lv, .agg ⟨s.cells⟩, vint heads, vint ((d : Int) + 1)] H K := by
  refine g79 hJ fun ok => ?_
  rw [e79]
  have few := L.few
  refine qBox (l := s.cells) rfl fun H1 ps e1 S1 c1 l1 => ?_
  rw [sliE_len hl]
  rw [turnR_is] at hK
  refine l79_1 hJ (fun k : Nat => ls.length - k) (fun k F H' => k ≤ ls.length ∧ SameX [] H H' ∧ H'[ps]? = some (.cells s.cells true 0) ∧ turnA ls s heads M (restR ls s heads d) ls.length = turnA ls s heads M (restR ls s heads d) (ls.length - k) ∧ F.ds = [] ∧ F.r 0 = mv ∧ F.r 1 = lv ∧ F.r 3 = vint heads ∧ F.r 4 = vint ((d : Int) + 1) ∧ F.r 7 = ptr ps 0 ∧ F.r 16 = vint (ls.length : Nat) ∧ F.r 17 = vint (k : Nat)) ?_ (s := 0)
    (.inl ⟨by omega, S1, c1, rfl, rfl, rfl, rfl, rfl, rfl, rfl, rfl, rfl⟩)
  rintro k F H' ⟨hk, S, d1, ht, ds, r0, r1, r3, r4, r7, r16, r17⟩ okc hnc
  rw [s79_1, r0, r1, r3, r4, r7, r16, r17, ds]
  refine lssI (cndI (fun hlt => ?_) fun hge => ?_)
  rotate_left
  · have : k = ls.length := by omega
    subst this
    rw [Nat.sub_self] at ht
    refine retL_same (by simp [unk]) (hK H' _ S ?_)
    rw [ht]
    rfl
  have hkl : k < ls.length := by omega
  have hat : ls.length - k = (ls.length - k - 1) + 1 := by omega
  have hak : ls.length - ((ls.length - k - 1) + 1) = k := by omega
  rw [hat] at ht
  simp only [turnA] at ht
  rw [hak] at ht
  have hk1 : ls.length - k - 1 = ls.length - (k + 1) := by omega
  rw [hk1] at ht
  have q1 := lt_of_get d1
  refine load_part (c := s.cells) d1 (by simp [SkyR.cells]) rfl rfl ?_
  have hm' : MapW H' mv M := by
    obtain ⟨m, wr, e, h1, h2⟩ := hm
    exact ⟨m, wr, e, S.get h1 (by simp), h2⟩
  refine good77 hJ L f (S.sli hl (by simp)) hh hm' o (fun hB H4 mv' M' S4 hmv hsame => ?_) fun hB H4 S4 => ?_
  rotate_left
  · refine ext0 (ext1 (notI (cnd_true.2 (addI (by omega) ⟨k + 1, by dsimp only; omega, .inl ⟨by omega, S.trans S4, S4.get d1 (by simp), ?_, ds, r0, r1, r3, r4, r7, r16, rfl⟩⟩))))
    rw [hB] at ht
    simpa using ht
  have oM : ∀ w ∈ M', WdOk ls w := fun w hw => by
    have := (hsame w).1 hw
    unfold dawnL at this
    rw [List.mem_flatMap] at this
    obtain ⟨w0, h0, h1⟩ := this
    obtain ⟨z, hz, rfl⟩ := List.mem_map.1 h1
    exact afters_ok L f hh (o w0 h0) z hz
  rw [hB, if_pos rfl] at ht
  have ST := S.trans S4
  refine ext0 (ext1 (notI (cnd_false.2 (eqlI (cndI (fun h1 => ?_) fun h1 => ?_)))))
  · have : d = 0 := by omega
    subst this
    refine ⟨⟨by decide, by decide, rfl⟩, fillO (l := [vint (k : Nat)]) rfl rfl rfl (by decide) (fillI (qNew fun H5 p5 e5 S5 c5 l5 => retL_same (by simp [unk]) (hK H5 _ (ST.trans S5) ?_)))⟩
    rw [ht]
    exact ⟨p5, ownX_new (l := [vint (k : Nat)]) c5 rfl rfl⟩
  · obtain ⟨d', rfl⟩ : ∃ d', d = d' + 1 := ⟨d - 1, by omega⟩
    refine load_part (c := s.cells) (S4.get d1 (by simp)) (by simp [SkyR.cells]) rfl rfl (subI (by omega) ?_)
    have e : ((d' + 1 : Nat) : Int) + 1 - 1 = (d' : Int) + 1 := by omega
    rw [e]
    refine hrec d' rfl (ST.sli hl (by simp)) hmv oM fun H5 v S5 hv => ?_
    have hr : restR ls s heads (d' + 1) (dawnL ls s k heads M) = turnR ls s heads d' M' := (turnR_same d' _ _ hsame).symm
    rw [hr] at ht
    cases hR : turnR ls s heads d' M' with
    | none =>
      rw [hR] at hv ht
      have hv : v = .slice none 0 0 := hv
      subst hv
      refine neqNilZ (e := 3) (by kernel_rfl) (by kernel_rfl) (cnd_false.2 (addI (by omega) ⟨k + 1, by dsimp only; omega, .inl ⟨by omega, ST.trans S5, S5.get (S4.get d1 (by simp)) (by simp), ht, ds, r0, r1, r3, r4, r7, r16, rfl⟩⟩))
    | some l =>
      rw [hR] at hv ht
      have hlen := turnR_len _ _ _ hR
      obtain ⟨ob, O⟩ := hv
      obtain ⟨_, _, hO | ⟨i, c, sz, hi, rfl, _, _⟩⟩ := id O
      · cases hO.2.2
      refine neqNilZ (e := 3) (by kernel_rfl) (by kernel_rfl) (cnd_true.2 ⟨⟨by decide, by decide, rfl⟩, fillO (l := [vint (k : Nat)]) rfl rfl rfl (by decide) (fillI (qNew fun H6 p6 e6 S6 c6 l6 => ?_))⟩)
      refine ⟨⟨rfl, by decide, by decide, by decide⟩, appF c6 rfl (by omega) (S6.sli (ownX_sli O) (by simp)) fun O7 => retL_same (by simp [unk]) (hK _ _ (((ST.trans S5).trans S6).trans SameX.refl.app) ?_)⟩
      rw [ht]
      refine ⟨H6.length, ?_⟩
      have : l.length + 1 = 1 + l.length := by omega
      show OwnX _ 1 (((k : Int) :: l).map vint) ((k : Int) :: l).length _ _
      rw [List.length_cons, this]
      exact O7
theorem good79 (hJ : Closed prog main J) {ls : List Pas} {lv : Value} {s : SkyR} {heads : Int} (L : LsOk ls) (f : skyOk s) (hh : 0 ≤ heads ∧ heads ≤ 40) : ∀ (d : Nat) {H : List AObj} {mv : Value} {M : List Wd} {K : Value → List AObj → Prop}, d ≤ 100 → SliE H lv 6 Pas.cells ls → MapW H mv M → (∀ w ∈ M, WdOk ls w) →
    (∀ H' v, SameX [] H H' → TurnV H' v (turnR ls s heads d M) → K v H') → Good prog J 79 [mv, lv, .agg ⟨s.cells⟩, vint heads, vint ((d : Int) + 1)] H K
  | 0, H, mv, M, K, hd, hl, hm, o, hK => turn_step hJ L f hh 0 (fun d' e => by omega) hd hl hm o hK
  | d + 1, H, mv, M, K, hd, hl, hm, o, hK => turn_step hJ L f hh (d + 1) (fun d' e => by
    cases e
    intro H mv M K hl hm o hK
    exact good79 hJ L f hh d (by omega) hl hm o hK) hd hl hm o hK
end
end Go.Proofs.Ythnccaajpdnndaa
