/- WellTraded answers true at every input, and its arguments read behind the call as they read before. No conditions. -/
import Derived.Test.YtindillghipjjaaK2
import Derived.Test.YtindillghipjjaaK5
import Derived.Test.YtindillghipjjaaK4
import Derived.Test.YtindillghipjjaaK3
import Derived.Below
import Derived.Test.YtindillghipjjaaRows
import Derived.Conc.LeavingOf
import Derived.ChangeSlices
import Derived.OpenShut
import Derived.Carry
import Derived.Deep.Slices
namespace Go.Proofs.Ytindillghipjjaa
open Go.Conc Go.Proofs.Try
set_option maxRecDepth 100000
set_option maxHeartbeats 4000000
set_option linter.unusedVariables false
section
variable {main : Bool} {J : JT} {n0 : Nat} {h : List AObj} {K : Value → List AObj → Prop}
theorem at122 : prog.funcs[122]? = some f122 := by kernel_rfl
theorem body122 : f122.body = some (codeOf f122) := by kernel_rfl
def pl122 : Plans := []
def ct122 : Cuts := .go
theorem pok122 : plansOk prog pl122 (codeOf f122) = true := by kernel_rfl
theorem e122 {a0 : Value} : W prog J 36 h.length 122 (codeOf f122) (RG.mk (regs [a0]) []) h (RetQ prog [.tmp 2] h.length K) =
(aLenS a0 fun v1 =>
Sem J 36 h.length 122 (subC [1, 1, 0, 1, 0] (codeOf f122)) (RG.p (RG.p (RG.p (RG.p (RG.p (RG.mk (regs [a0]) []) 2 (Value.slice none 0 0)) 3 (vint 0)) 9 a0) 10 v1) 11 (vint 0)) h (contX pl122 prog J 36 h.length 122 ct122 [1, 1, 0, 1, 0] (codeOf f122) [] (RetQ prog [.tmp 2] h.length K))) := top_eq pok122 ct122 (by kernel_rfl)
theorem g122 (hJ : Closed prog main J) {a0 : Value} (hs : heapOk h → W prog J 36 h.length 122 (codeOf f122) (RG.mk (regs [a0]) []) h (RetQ prog [.tmp 2] h.length K)) : Good prog J 122 [a0] h K :=
  good_of_W hJ mixed at122 body122 (by kernel_rfl) (Nat.le_of_ble_eq_true rfl) hs
theorem s122_1 {f : RG} {nx0 : RG → List AObj → Prop} : W prog J 36 n0 122 (subC [1, 1, 0, 1, 0, 0] (codeOf f122)) f h (thenK nx0 (contX pl122 prog J 36 n0 122 ct122 [1, 1, 0, 1, 0] (codeOf f122) [] (RetQ prog [.tmp 2] n0 K))) =
(aBin prog .lss 3 (f.r 11) (f.r 10) fun v1 =>
cnd v1
(aIdx 1 (f.r 9) (f.r 11) fun v2 =>
aLoad false 1 v2 h fun v3 =>
aLenS v3 fun v4 =>
aBin prog .add 3 (f.r 3) v4 fun v5 =>
aBin prog .lss 3 v5 (vint 0) fun v6 =>
cnd v6
(False)
(aBin prog .add 3 (f.r 11) (vint 1) fun v7 =>
nx0 (RG.p (RG.p (RG.p (RG.p (RG.p (RG.p (RG.p (RG.p (RG.p (RG.p (RG.p (RG.p (RG.p f 12 v1) 13 v2) 14 v3) 5 v3) 15 (f.r 3)) 16 v3) 17 v4) 18 v5) 3 v5) 19 v5) 20 v6) 22 v7) 11 v7) h))
(Good prog J 132 [(Value.slice none 0 0), (f.r 3)] h fun v8 h9 =>
aLenS (f.r 0) fun v10 =>
Sem J 36 n0 122 (subC [1, 1, 1, 1, 0, 1, 0] (codeOf f122)) (RG.p (RG.p (RG.p (RG.p (RG.p (RG.p (RG.p f 12 v1) 23 (f.r 3)) 24 v8) 6 v8) 25 (f.r 0)) 26 v10) 27 (vint 0)) h9 (contX pl122 prog J 36 n0 122 ct122 [1, 1, 1, 1, 0, 1, 0] (codeOf f122) [] (RetQ prog [.tmp 2] n0 K)))) := sub_eq pok122 ct122 (by kernel_rfl)
theorem l122_1 (hJ : Closed prog main J) {S : Type} (μ : S → Nat) (I : S → RG → List AObj → Prop) (hI : ∀ s f h, I s f h → heapOk h → n0 ≤ h.length → W prog J 36 n0 122 (subC [1, 1, 0, 1, 0, 0] (codeOf f122)) f h (thenK (Nx n0 μ I s) (contX pl122 prog J 36 n0 122 ct122 [1, 1, 0, 1, 0] (codeOf f122) [] (RetQ prog [.tmp 2] n0 K))))
  {s : S} {f : RG} (hi : Gets n0 I s f h) : Sem J 36 n0 122 (subC [1, 1, 0, 1, 0] (codeOf f122)) f h (contX pl122 prog J 36 n0 122 ct122 [1, 1, 0, 1, 0] (codeOf f122) [] (RetQ prog [.tmp 2] n0 K)) :=
  loop_rule hJ mixed (b := subC [1, 1, 0, 1, 0, 0] (codeOf f122)) (by kernel_rfl) μ I hI hi
theorem s122_2 {f : RG} {nx0 : RG → List AObj → Prop} : W prog J 36 n0 122 (subC [1, 1, 1, 1, 0, 1, 0, 0] (codeOf f122)) f h (thenK nx0 (contX pl122 prog J 36 n0 122 ct122 [1, 1, 1, 1, 0, 1, 0] (codeOf f122) [] (RetQ prog [.tmp 2] n0 K))) =
(aBin prog .lss 3 (f.r 27) (f.r 26) fun v1 =>
cnd v1
(aIdx 1 (f.r 25) (f.r 27) fun v2 =>
aLoad false 1 v2 h fun v3 =>
((List.length [(vint 0)] = 1 ∧ 0 < (1 : Nat) ∧ 0 < (8 : Nat) ∧ (8 : Nat) ≤ 1024) ∧ aApp 1 (f.r 6) v3 h fun v4 h5 =>
aBin prog .add 3 (f.r 27) (vint 1) fun v6 =>
nx0 (RG.p (RG.p (RG.p (RG.p (RG.p (RG.p (RG.p (RG.p (RG.p (RG.p f 28 v1) 29 v2) 30 v3) 8 v3) 31 (f.r 6)) 32 v3) 33 v4) 6 v4) 34 v6) 27 v6) h5))
(retL n0 K f.ds [(f.r 6)] h)) := sub_eq pok122 ct122 (by kernel_rfl)
theorem l122_2 (hJ : Closed prog main J) {S : Type} (μ : S → Nat) (I : S → RG → List AObj → Prop) (hI : ∀ s f h, I s f h → heapOk h → n0 ≤ h.length → W prog J 36 n0 122 (subC [1, 1, 1, 1, 0, 1, 0, 0] (codeOf f122)) f h (thenK (Nx n0 μ I s) (contX pl122 prog J 36 n0 122 ct122 [1, 1, 1, 1, 0, 1, 0] (codeOf f122) [] (RetQ prog [.tmp 2] n0 K))))
  {s : S} {f : RG} (hi : Gets n0 I s f h) : Sem J 36 n0 122 (subC [1, 1, 1, 1, 0, 1, 0] (codeOf f122)) f h (contX pl122 prog J 36 n0 122 ct122 [1, 1, 1, 1, 0, 1, 0] (codeOf f122) [] (RetQ prog [.tmp 2] n0 K)) :=
  loop_rule hJ mixed (b := subC [1, 1, 1, 1, 0, 1, 0, 0] (codeOf f122)) (by kernel_rfl) μ I hI hi
theorem at132 : prog.funcs[132]? = some f132 := by kernel_rfl
theorem body132 : f132.body = some (codeOf f132) := by kernel_rfl
def pl132 : Plans := []
def ct132 : Cuts := .go
theorem pok132 : plansOk prog pl132 (codeOf f132) = true := by kernel_rfl
theorem e132 {a0 a1 : Value} : W prog J 27 h.length 132 (codeOf f132) (RG.mk (regs [a0, a1]) []) h (RetQ prog [.tmp 4] h.length K) =
(aBin prog .lss 3 a1 (vint 0) fun v1 =>
cnd v1
(False)
(aCapS a0 fun v2 =>
aLenS a0 fun v3 =>
aBin prog .sub 3 v2 v3 fun v4 =>
aBin prog .sub 3 a1 v4 fun v5 =>
aBin prog .gtr 3 v5 (vint 0) fun v6 =>
cnd v6
(aCapS a0 fun v7 =>
aSl2 1 a0 none (some v7) h fun v8 =>
((List.length [(vint 0)] = 1 ∧ 0 < (1 : Nat) ∧ 0 < (8 : Nat) ∧ (8 : Nat) ≤ 1024) ∧ aAppZ 1 [(vint 0)] v8 v5 h fun v9 h10 =>
aLenS a0 fun v11 =>
aSl2 1 v9 none (some v11) h10 fun v12 =>
retL h.length K [] [v12] h10))
(retL h.length K [] [a0] h))) := top_eq pok132 ct132 (by kernel_rfl)
theorem g132 (hJ : Closed prog main J) {a0 a1 : Value} (hs : heapOk h → W prog J 27 h.length 132 (codeOf f132) (RG.mk (regs [a0, a1]) []) h (RetQ prog [.tmp 4] h.length K)) : Good prog J 132 [a0, a1] h K :=
  good_of_W hJ mixed at132 body132 (by kernel_rfl) (Nat.le_of_ble_eq_true rfl) hs
end
end Go.Proofs.Ytindillghipjjaa
namespace Go.Proofs.Ytindillghipjjaa
open Go.Conc Go.Proofs.Try
set_option maxRecDepth 100000
theorem gapG_skip {r : List Int} {f : Int} {a : Nat} : ∀ {b : Nat}, a ≤ b → (∀ j, a ≤ j → j < b → ¬ occ r f j) → gapG r f b = gapG r f a
  | 0, h, _ => by rw [show a = 0 from by omega]
  | b + 1, h, hn => by
    rcases Nat.lt_or_ge b a with x | x
    · rw [show b + 1 = a from by omega]
    · have e : gapG r f (b + 1) = gapG r f b := by
        conv => lhs; unfold gapG
        rw [if_neg (hn b x (by omega))]
      rw [e]
      exact gapG_skip x fun j h1 h2 => hn j h1 (by omega)
theorem turn_twice {r : List Int} {i : Nat} (hr : 0 < r.length) (hi : i < r.length + r.length) : (r ++ r)[i]? = some (turnOf r i) := by
  unfold turnOf
  rw [List.getD_eq_getElem?_getD]
  rcases Nat.lt_or_ge i r.length with x | x
  · rw [List.getElem?_append_left x, Nat.mod_eq_of_lt x, List.getElem?_eq_getElem x]
    rfl
  · have e : i % r.length = i - r.length := by
      rw [Nat.mod_eq_sub_mod x, Nat.mod_eq_of_lt (by omega)]
    rw [List.getElem?_append_right x, e, List.getElem?_eq_getElem (by omega)]
    rfl
def unfTo (t : Tro) (r : List Int) (i : Nat) : List Int := ((List.range i).filter fun (i : Nat) => decide (gapR r i = 0 ∨ gapR r i > (droAt t i).every)).map Int.ofNat
def unfL (t : Tro) (r : List Int) : List Int := unfTo t r t.flocks.length
theorem unfTo_succ {t : Tro} {r : List Int} {i : Nat} : unfTo t r (i + 1) = if gapR r i = 0 ∨ gapR r i > (droAt t i).every then unfTo t r i ++ [(i : Int)] else unfTo t r i := by
  unfold unfTo
  rw [List.range_succ, List.filter_append]
  by_cases h : gapR r i = 0 ∨ gapR r i > (droAt t i).every
  · simp [h]
  · simp [h]
theorem unfL_eq {t : Tro} {r : List Int} : unfL t r = (unfairR t r).map Int.ofNat := rfl
theorem unfTo_len {t : Tro} {r : List Int} (n : Nat) : (unfTo t r n).length ≤ n := by
  unfold unfTo
  rw [List.length_map]
  have := List.length_filter_le (fun (i : Nat) => decide (gapR r i = 0 ∨ gapR r i > (droAt t i).every)) (List.range n)
  simpa using this
theorem gapR_bd {r : List Int} (hr : r ≠ []) (f : Int) : 0 ≤ gapR r f ∧ gapR r f ≤ r.length := by
  refine ⟨gapR_nonneg, ?_⟩
  rw [gapR_le hr (by omega)]
  intro i ho
  have hp : 0 < r.length := by cases r <;> simp at hr ⊢
  exact ⟨r.length, hp, Int.le_refl _, (occ_mod f i).2 ho⟩
section
variable {main : Bool} {J : JT} {h H : List AObj} {K : Value → List AObj → Prop} {KV : Value → Prop} {n0 : Nat}
theorem capI {b : Option Addr} {n c : Nat} (h : c < fz) (hk : KV (vint c)) : aCapS (.slice b n c) KV := ⟨h, hk⟩
theorem len0 {K' : Value → Prop} (hk : K' (vint 0)) : aLenS (.slice none 0 0) K' := hk
theorem sl2nil {K' : Value → Prop} (hk : K' (.slice none 0 0)) : aSl2 1 (.slice none 0 0) none (some (vint 0)) h K' := ⟨Nat.le_refl _, ⟨rfl, rfl⟩, hk⟩
theorem sl2zero {b n : Nat} {cs : List Value} {wr : Bool} {K' : Value → Prop} (hb : h[b]? = some (.cells cs wr 1)) (hk : K' (.slice (some ⟨b, 0, none⟩) 0 fz)) : aSl2 1 (.slice (some ⟨b, 0, none⟩) n fz) none (some (vint 0)) h K' := by
  refine ⟨Nat.le_refl _, fun hx => absurd hx (Nat.lt_irrefl _), fun _ => ?_⟩
  rw [hb]
  exact ⟨⟨rfl, rfl, by decide, by simp, .inl rfl⟩, hk⟩
theorem good132 (hJ : Closed prog main J) {n : Nat} (hn : 0 < n ∧ n ≤ 1000) (hK : ∀ H' b cs, SameX [] H H' → H'[b]? = some (.cells cs true 1) → H.length ≤ b → K (.slice (some ⟨b, 0, none⟩) 0 fz) H') : Good prog J 132 [.slice none 0 0, vint (n : Nat)] H K := by
  have hz : (0 : Nat) < fz := by decide
  have hr : room = 1073741824 := rfl
  refine g132 hJ fun ok => ?_
  rw [e132]
  refine lssI (cndI (fun hx => absurd hx (by omega)) fun _ => capI hz ?_)
  show aBin prog .sub 3 (vint 0) (vint 0) _
  refine subI (by omega) (subI (by omega) (gtrI (cndI (fun _ => capI hz (sl2nil ⟨by decide, ?_⟩)) fun hx => absurd hx (by omega))))
  have e : vint ((n : Int) - (0 - 0)) = vint (n : Nat) := by congr 1
  rw [e]
  refine ⟨⟨rfl, rfl, by omega, by omega⟩, fun hx => absurd hx (by omega), fun _ => ?_⟩
  refine len0 (sl2zero (cs := zrep [vint 0] n) (wr := true) (by simp) (retL_same (by simp [unk]) ?_))
  exact hK _ H.length (zrep [vint 0] n) SameX.refl.app (by simp) (Nat.le_refl _)
theorem good122 (hJ : Closed prog main J) {av rv : Value} {r : List Int} (ha : Sli H av 1 2 [rv, rv]) (hr : Sli H rv 1 r.length (r.map vint)) (hl : 0 < r.length ∧ r.length ≤ 100)
    (hK : ∀ H' v, SameX [] H H' → Sli H' v 1 (r ++ r).length ((r ++ r).map vint) → K v H') : Good prog J 122 [av] H K := by
  have hroom : room = 1073741824 := rfl
  refine g122 hJ fun ok => ?_
  rw [e122]
  refine lenI ha ?_
  refine l122_1 hJ (fun i : Nat => 2 - i) (fun i F H' => H' = H ∧ i ≤ 2 ∧ F.ds = [] ∧ F.r 0 = av ∧ F.r 3 = vint ((i * r.length : Nat) : Int) ∧ F.r 9 = av ∧ F.r 10 = vint (2 : Nat) ∧ F.r 11 = vint (i : Nat)) ?_ (s := 0)
    (.inl ⟨rfl, by omega, rfl, rfl, by show vint 0 = vint _; congr 1; omega, rfl, rfl, rfl⟩)
  rintro i F H' ⟨rfl, hi, ds, r0, r3, r9, r10, r11⟩ okc hnc
  rw [s122_1, r0, r3, r9, r10, r11]
  refine lssI (cndI (fun hlt => ?_) fun hge => ?_)
  · have hx : ([rv, rv] : List Value)[((i : Nat) : Int).toNat]? = some rv := by
      have : i = 0 ∨ i = 1 := by omega
      rcases this with rfl | rfl <;> rfl
    refine idx_load ha ⟨by omega, by omega⟩ hx fun p => lenI hr (addI ?_ (lssI (cndI (fun hx => ?_) fun _ => addI (by omega) ?_)))
    · have : i = 0 ∨ i = 1 := by omega
      rcases this with rfl | rfl <;> omega
    · have : 0 ≤ ((i * r.length : Nat) : Int) := Int.natCast_nonneg _
      omega
    · refine ⟨i + 1, by dsimp only; omega, .inl ⟨rfl, by omega, ds, r0, ?_, r9, r10, by show vint _ = vint _; congr 1⟩⟩
      show vint _ = vint _
      congr 1
      rw [Nat.succ_mul]
      omega
  · have hi2 : i = 2 := by omega
    subst hi2
    refine good132 hJ (n := 2 * r.length) (by omega) fun H2 b cs S2 cb gb => lenI (S2.sli ha (by simp)) ?_
    refine l122_2 hJ (fun i : Nat => 2 - i) (fun i F H3 => i ≤ 2 ∧ SameX [] H' H3 ∧ F.ds = [] ∧ F.r 25 = av ∧ F.r 26 = vint (2 : Nat) ∧ F.r 27 = vint (i : Nat) ∧ ∃ b cs, H'.length ≤ b ∧ H3[b]? = some (.cells cs true 1) ∧ F.r 6 = .slice (some ⟨b, 0, none⟩) (i * r.length) fz ∧ i * r.length ≤ cs.length ∧ cs.take (i * r.length) = ((r ++ r).take (i * r.length)).map vint) ?_ (s := 0)
      (.inl ⟨by omega, S2, ds, rfl, rfl, rfl, b, cs, gb, cb, by show Value.slice _ _ _ = _; rw [Nat.zero_mul], by omega, by rw [Nat.zero_mul]; rfl⟩)
    rintro j F3 H3 ⟨hj, S3, ds3, r25, r26, r27, b3, cs3, g3, c3, r6, hl3, ht3⟩ okc3 hnc3
    rw [s122_2, r25, r26, r27, r6, ds3]
    refine lssI (cndI (fun hlt => ?_) fun hge => ?_)
    · have hj2 : j = 0 ∨ j = 1 := by omega
      have hx : ([rv, rv] : List Value)[((j : Nat) : Int).toNat]? = some rv := by
        rcases hj2 with rfl | rfl <;> rfl
      have hkn : kn (cs3.take (j * r.length * 1)) = true := by
        rw [Nat.mul_one, ht3]
        exact kn_ints _
      refine idx_load (S3.sli ha (by simp)) ⟨by omega, by omega⟩ hx fun p => ⟨by decide, ?_⟩
      refine app_own (m := r.length) c3 (by omega) hkn (by decide) (S3.sli hr (by simp)) (by rcases hj2 with rfl | rfl <;> omega) (addI (by omega) ?_)
      have hb3 := lt_of_get c3
      have e1 : (j + 1) * r.length = j * r.length + r.length := Nat.succ_mul _ _
      refine ⟨j + 1, by dsimp only; omega, .inl ⟨by omega, ?_, ds3, r25, r26, by show vint _ = vint _; congr 1, H3.length, cs3.take (j * r.length * 1) ++ r.map vint, by have := S3.1; omega, ?_, by show Value.slice _ _ _ = _; rw [e1], ?_, ?_⟩⟩
      · exact (S3.set (.inr g3)).app
      · rw [List.getElem?_append_right (by simp)]
        simp
      · simp
        omega
      · have h1 : (cs3.take (j * r.length * 1)).length = j * r.length := by simp; omega
        rw [List.take_of_length_le (by simp; omega), Nat.mul_one, ht3]
        rw [e1, ← List.map_append]
        congr 1
        rcases hj2 with rfl | rfl
        · simp
        · rw [Nat.one_mul, List.take_left, List.take_of_length_le (by simp)]
    · have hj2 : j = 2 := by omega
      subst hj2
      refine retL_same (by simp [unk]) (hK H3 _ S3 ?_)
      have e : (r ++ r).length = 2 * r.length := by simp; omega
      rw [e]
      refine ⟨_, _, rfl, ⟨by simp; omega, kn_ints _⟩, .inr ⟨b3, 0, rfl, .inr ⟨cs3, true, 1, c3, ?_⟩⟩⟩
      rw [List.drop_zero, Nat.mul_one, ht3, List.take_of_length_le (by omega)]
theorem good95 (hJ : Closed prog main J) {rv : Value} {r : List Int} {f : Int} (hr : Sli H rv 1 r.length (r.map vint)) (hl : 0 < r.length ∧ r.length ≤ 100)
    (hK : ∀ H', SameX [] H H' → K (vint (gapR r f)) H') : Good prog J 95 [rv, vint f] H K := by
  have hrne : r ≠ [] := by intro e; rw [e] at hl; simp at hl
  refine g95 hJ fun ok => ?_
  rw [e95]
  have rvo := sli_val hr
  refine ⟨by decide, fill_one (l := [rv]) (by rw [rvo.1]) rfl (by simp [rvo.2.1]) (by decide) (fill_one (l := [rv]) (by rw [rvo.1]) rfl (by simp [rvo.2.1]) (Nat.le_of_ble_eq_true rfl) (fillI (qNew fun H1 p1 e1 S1 c1 l1 => ?_)))⟩
  have c1 : H1[p1]? = some (.cells [rv, rv] true 0) := c1
  have s1 : Sli H1 (.slice (some ⟨p1, 0, none⟩) 2 2) 1 2 [rv, rv] := ownX_sli (ownX_new (s := 1) (n := 2) (l := [rv, rv]) c1 rfl (by simp [kn, rvo.2.2]))
  refine good122 hJ s1 (S1.sli hr (by simp)) hl fun H2 cv S2 C2 => lenI C2 ?_
  have e2 : (r ++ r).length = r.length + r.length := List.length_append
  have T2 : SameX [] H H2 := S1.trans S2
  refine l95_1 hJ (fun i : Nat => (r ++ r).length - i) (fun i F H' => H' = H2 ∧ i ≤ (r ++ r).length ∧ F.ds = [] ∧ F.r 1 = vint f ∧ F.r 12 = cv ∧ F.r 13 = vint ((r ++ r).length : Nat) ∧ F.r 14 = vint (i : Nat) ∧
      ((F.r 5 = vint (-1) ∧ F.r 6 = vint 0 ∧ ∀ j, j < i → ¬ occ r f j) ∨ ∃ l : Nat, F.r 5 = vint (l : Nat) ∧ F.r 6 = vint (gapG r f l) ∧ l < i ∧ occ r f l ∧ ∀ j, l < j → j < i → ¬ occ r f j)) ?_ (s := 0)
    (.inl ⟨rfl, by omega, rfl, rfl, rfl, rfl, rfl, .inl ⟨rfl, rfl, by simp⟩⟩)
  rintro i F H' ⟨rfl, hi, ds, r1, r12, r13, r14, hst⟩ okc hnc
  have hgb := gapR_bd hrne f
  rw [s95_1, r1, r12, r13, r14, ds]
  refine lssI (cndI (fun hlt => ?_) fun hge => ?_)
  · have hturn := turn_twice hl.1 (i := i) (by omega)
    refine sli_num' C2 hturn fun q => neqI (cndI (fun hne => addI (by omega) ?_) fun heq => ?_)
    · refine ⟨i + 1, by dsimp only; omega, .inl ⟨rfl, by omega, ds, r1, r12, r13, by show vint _ = vint _; congr 1, ?_⟩⟩
      have hno : ¬ occ r f i := hne
      rcases hst with ⟨a, b, c⟩ | ⟨l, a, b, c, d, e⟩
      · refine .inl ⟨a, b, fun j hj => ?_⟩
        rcases Nat.lt_or_ge j i with x | x
        · exact c j x
        · rwa [show j = i from by omega]
      · refine .inr ⟨l, a, b, by omega, d, fun j h1 h2 => ?_⟩
        rcases Nat.lt_or_ge j i with x | x
        · exact e j h1 x
        · rwa [show j = i from by omega]
    · have ho : occ r f i := Decidable.of_not_not heq
      rcases hst with ⟨a, b, c⟩ | ⟨l, a, b, c, d, e⟩
      · rw [a, b]
        refine geqI (cndI (fun hx => absurd hx (by decide)) fun _ => addI (by omega) ?_)
        refine ⟨i + 1, by dsimp only; omega, .inl ⟨rfl, by omega, ds, r1, r12, r13, by show vint _ = vint _; congr 1, .inr ⟨i, rfl, ?_, by omega, ho, fun j h1 h2 => by omega⟩⟩⟩
        rw [gapG_none c]
        exact b
      · have hgl : 0 ≤ gapG r f l := gapG_nonneg l
        rw [a, b]
        refine geqI (cndI (fun _ => subI (by omega) (maxI (addI (by omega) ?_))) fun hx => absurd (by omega) hx)
        have hnd : nextD r f l = ((i - l : Nat) : Int) := nextD_at hrne d (by omega) (by rw [show l + (i - l) = i from by omega]; exact ho) fun x h1 h2 => e _ (by omega) (by omega)
        have hg : gapG r f i = max (gapG r f l) ((i : Int) - l) := by
          rw [gapG_skip (a := l + 1) (b := i) (by omega) fun j h1 h2 => e j (by omega) h2]
          conv => lhs; unfold gapG
          rw [if_pos d, hnd]
          congr 1
          omega
        exact ⟨i + 1, by dsimp only; omega, .inl ⟨rfl, by omega, ds, r1, r12, r13, by show vint _ = vint _; congr 1, .inr ⟨i, rfl, by rw [hg]; rfl, by omega, ho, fun j h1 h2 => by omega⟩⟩⟩
  · have hi2 : i = r.length + r.length := by omega
    have hres : F.r 6 = vint (gapR r f) := by
      rcases hst with ⟨a, b, c⟩ | ⟨l, a, b, c, d, e⟩
      · rw [b]
        congr 1
        exact (gapG_none (n := r.length) fun j hj => c j (by omega)).symm
      · rw [b]
        congr 1
        refine gapG_more hrne ?_
        rcases Nat.lt_or_ge l r.length with x | x
        · exact absurd ((occ_mod f l).2 d) (e _ (by omega) (by omega))
        · exact x
    rw [hres]
    exact retL_same (by simp [unk]) (hK _ T2)
theorem good94 (hJ : Closed prog main J) {v fv rv : Value} {t : Tro} {r : List Int} (ht : TroAt H v t fv) (hr : Sli H rv 1 r.length (r.map vint)) (f : TroFine t) (g : RotaFine t r)
    (hK : ∀ H' lv, SameX [] H H' → Sli H' lv 1 (unfL t r).length ((unfL t r).map vint) → K lv H') : Good prog J 94 [v, rv] H K := by
  refine g94 hJ fun ok => ?_
  rw [e94, ht.val]
  have fl := f.len
  have gl := g.len
  have kf := (sli_val ht.fl).2.2
  refine qBox (tro_one ht) fun H1 p1 e1 S1 c1 l1 => offI (ldI (v := fv) c1 rfl kf (lenI (S1.sli ht.fl (by simp)) ?_))
  refine l94_1 hJ (fun i : Nat => t.flocks.length - i) (fun i F H' => SameX [] H H' ∧ i ≤ t.flocks.length ∧ F.ds = [] ∧ F.r 1 = rv ∧ F.r 10 = fv ∧ F.r 11 = vint (t.flocks.length : Nat) ∧ F.r 12 = vint (i : Nat) ∧ ∃ o, OwnX H' 1 ((unfTo t r i).map vint) (unfTo t r i).length (F.r 5) o ∧ ∀ j, o = some j → H.length ≤ j) ?_ (s := 0)
    (.inl ⟨S1, by omega, rfl, rfl, rfl, rfl, rfl, none, ⟨rfl, rfl, .inl ⟨rfl, rfl, rfl⟩⟩, by simp⟩)
  rintro i F H' ⟨S, hi, ds, r1, r10, r11, r12, o, O, ho⟩ okc hnc
  rw [s94_1, r1, r10, r11, r12, ds]
  refine lssI (cndI (fun hlt => ?_) fun hge => ?_)
  · have hil : i < t.flocks.length := by omega
    obtain ⟨b, of, cs, wr, sz, hidx, hb, hol, hft, hkn⟩ := sliE_elem dro_len (by omega) (S.sli ht.fl (by simp)) hil
    refine hidx _ (load_part hb hol hft hkn ?_)
    refine qAl fun H2 p2 e2 S2 c2 l2 => qStA (c := t.flocks[i].cells) c2 rfl rfl rfl fun H3 S3 c3 l3 => ?_
    have S13 : SameX [] H' H3 := S2.thru S3 (by simp; omega)
    refine good95 hJ ((S.trans S13).sli hr (by simp)) (by omega) fun H4 S4 => ?_
    have S14 : SameX [] H' H4 := S13.trans S4
    have T4 : SameX [] H H4 := S.trans S14
    have hev : (droAt t i).every = t.flocks[i].every := by rw [droAt_mem hil]
    -- the end of a round
    have last : ∀ {F' : RG}, F'.ds = [] → F'.r 1 = rv → F'.r 10 = fv → F'.r 11 = vint (t.flocks.length : Nat) → F'.r 12 = vint (i : Nat) → F'.r 5 = F.r 5 → F'.r 6 = vint (i : Nat) → F'.r 27 = .bool (decide (gapR r i = 0 ∨ gapR r i > (droAt t i).every)) →
        W prog J 34 H.length 94 (subC [1, 1, 0, 1, 0, 0, 1, 1, 0, 0, 1, 1, 1] (codeOf f94)) F' H4 (contX pl94 prog J 34 H.length 94 ct94 [1, 1, 0, 1, 0, 0, 1, 1, 0, 0, 1, 1, 1] (codeOf f94) [Nx H.length (fun i : Nat => t.flocks.length - i) (fun i F H' => SameX [] H H' ∧ i ≤ t.flocks.length ∧ F.ds = [] ∧ F.r 1 = rv ∧ F.r 10 = fv ∧ F.r 11 = vint (t.flocks.length : Nat) ∧ F.r 12 = vint (i : Nat) ∧ ∃ o, OwnX H' 1 ((unfTo t r i).map vint) (unfTo t r i).length (F.r 5) o ∧ ∀ j, o = some j → H.length ≤ j) i] (RetQ prog [.tmp 4] H.length K)) := by
      intro F' ds r1 r10 r11 r12 r5 r6 r27
      have O4 := ownX_keep O S14 (by simp)
      have hul := unfTo_len (t := t) (r := r) i
      rw [s94_2, r27, r5, r6, r12]
      refine cndI (fun hc => ?_) fun hc => ?_
      · refine ⟨by decide, fill_one rfl rfl rfl (by decide) (fillI (qNew fun H5 p5 e5 S5 c5 l5 => ⟨by decide, ?_⟩))⟩
        have c5 : H5[p5]? = some (.cells [vint (i : Nat)] true 0) := c5
        refine ownX_more (ownX_keep O4 S5 (by simp)) (by omega) (by omega) (ownX_sli (ownX_new (s := 1) (n := 1) (l := [vint (i : Nat)]) c5 rfl rfl)) fun lv' H6 p6 e6 O6 S6 => addI (by omega) ?_
        have e1 : unfTo t r (i + 1) = unfTo t r i ++ [(i : Int)] := by rw [unfTo_succ, if_pos hc]
        refine ⟨i + 1, by dsimp only; omega, .inl ⟨(T4.trans S5).thru S6 fun y hy => .inr (ho y (by simpa using hy)), by omega, ds, r1, r10, r11, by show vint _ = vint _; congr 1, some p6, ?_, fun j hj => by cases hj; have := T4.1; have := S5.1; omega⟩⟩
        rw [e1, List.map_append, List.length_append]
        exact O6
      · have e1 : unfTo t r (i + 1) = unfTo t r i := by rw [unfTo_succ, if_neg hc]
        refine addI (by omega) ⟨i + 1, by dsimp only; omega, .inl ⟨T4, by omega, ds, r1, r10, r11, by show vint _ = vint _; congr 1, o, ?_, ho⟩⟩
        rw [e1]
        show OwnX H4 1 _ _ (F'.r 5) o
        rw [r5]
        exact O4
    refine eqlI (cndI (fun hz => hold.2 ?_) fun hz => ?_)
    · refine last ds r1 r10 r11 r12 rfl rfl ?_
      show Value.bool _ = _
      rw [decide_eq_true (show gapR r i = 0 ∨ gapR r i > (droAt t i).every from .inl hz)]
    · refine offI (ldI (v := vint t.flocks[i].every) (S4.get c3 (by simp)) rfl rfl (gtrI (hold.2 ?_)))
      refine last ds r1 r10 r11 r12 rfl rfl ?_
      show Value.bool (decide _) = _
      congr 1
      rw [hev]
      exact decide_eq_decide.2 ⟨.inr, fun h => h.resolve_left hz⟩
  · have : i = t.flocks.length := by omega
    subst this
    refine retL_same ?_ (hK H' _ S (ownX_sli O))
    intro v hv
    have : v = F.r 5 := by simpa using hv
    subst this
    intro e
    have := (ownX_val O).2.2
    rw [e] at this
    cases this
def unfA (t : Tro) (r : List Int) : List Int := if rotaE t r = 0 then unfL t r else []
theorem good52 (hJ : Closed prog main J) {v fv rv : Value} {t : Tro} {r : List Int} (ht : TroAt H v t fv) (hr : Sli H rv 1 r.length (r.map vint)) (hl : t.flocks.length ≤ 1000000)
    (hK : ∀ H' lv, SameX [] H H' → Sli H' lv 1 (unfA t r).length ((unfA t r).map vint) → K (.tuple ⟨[lv, vint (rotaE t r)]⟩) H') : Good prog J 52 [v, rv] H K := by
  refine g52 hJ fun ok => ?_
  rw [e52, ht.val]
  refine qBox (tro_one ht) fun H1 p1 e1 S1 c1 l1 => ?_
  have tk := tro_kn ht
  refine load_part (c := troCells t fv) c1 (by simp [troCells]) rfl tk (good86 hJ ⟨rfl, S1.sli ht.fl (by simp)⟩ (S1.sli hr (by simp)) hl (neqI (cndI (fun g1 => ?_) fun g1 => ?_)))
  · refine retL_same (by simp [unk]) ?_
    exact hK H1 (.slice none 0 0) S1 (by unfold unfA; rw [if_neg g1]; exact sli_nil)
  · have g0 : rotaE t r = 0 := by omega
    obtain ⟨f, g⟩ := rotaE_fine g0
    refine load_part (c := troCells t fv) c1 (by simp [troCells]) rfl tk (good94 hJ ⟨rfl, S1.sli ht.fl (by simp)⟩ (S1.sli hr (by simp)) f g fun H2 lv S2 L2 => ?_)
    have kl := (sli_val L2).2.2
    refine retL_same ?_ ?_
    · intro v hv
      rcases List.mem_cons.1 hv with rfl | hv
      · intro e
        rw [e] at kl
        cases kl
      · have : v = vint 0 := by simpa using hv
        subst this
        simp [unk]
    · have := hK H2 lv (S1.trans S2) (by unfold unfA; rw [if_pos g0]; exact L2)
      rw [g0] at this
      exact this
theorem good99 (hJ : Closed prog main J) {v fv rv : Value} {t : Tro} {r : List Int} (ht : TroAt H v t fv) (hr : Sli H rv 1 r.length (r.map vint)) (f : TroFine t) (g : RotaFine t r)
    (hK : ∀ H', SameX [] H H' → K (.bool (goodB t r)) H') : Good prog J 99 [v, rv] H K := by
  refine g99 hJ fun ok => ?_
  rw [e99, ht.val]
  refine qBox (tro_one ht) fun H1 p1 e1 S1 c1 l1 => ?_
  have tk := tro_kn ht
  refine load_part (c := troCells t fv) c1 (by simp [troCells]) rfl tk (good94 hJ ⟨rfl, S1.sli ht.fl (by simp)⟩ (S1.sli hr (by simp)) f g fun H2 lv S2 L2 => lenI L2 ?_)
  have T2 := S1.trans S2
  have el : (unfL t r).length = (unfairR t r).length := by rw [unfL_eq, List.length_map]
  refine eqlI (cndI (fun hz => ?_) fun hz => ?_)
  · refine load_part (c := troCells t fv) (S2.get c1 (by simp)) (by simp [troCells]) rfl tk (good89 hJ ⟨rfl, T2.sli ht.fl (by simp)⟩ (T2.sli hr (by simp)) f g fun H3 S3 => lssI ?_)
    have e : goodB t r = decide (lastsR t r < 0) := by
      unfold goodB
      rw [List.isEmpty_iff.2 (List.length_eq_zero_iff.1 (by omega : (unfairR t r).length = 0)), Bool.true_and]
    rw [← e]
    exact retL_same (by simp [unk]) (hK H3 (T2.trans S3))
  · have e : goodB t r = false := by
      unfold goodB
      have : (unfairR t r).isEmpty = false := by
        cases hx : (unfairR t r).isEmpty with
        | false => rfl
        | true =>
          have := List.isEmpty_iff.1 hx
          rw [this] at el
          have el : (unfL t r).length = 0 := el
          exact absurd (by omega) hz
      rw [this, Bool.false_and]
    rw [← e]
    exact retL_same (by simp [unk]) (hK H2 T2)
end
def firstN {α : Type} (f : Nat → Option α) : Nat → Option α
  | 0 => none
  | n + 1 => (firstN f n).or (f n)
theorem firstN_none {α : Type} {f : Nat → Option α} : ∀ {n : Nat}, (∀ i, i < n → f i = none) → firstN f n = none
  | 0, _ => rfl
  | n + 1, h => by
    unfold firstN
    rw [firstN_none fun i hi => h i (by omega), h n (by omega)]
    rfl
theorem firstN_some {α : Type} {f : Nat → Option α} {k : Nat} {r : α} : ∀ {n : Nat}, k < n → (∀ i, i < k → f i = none) → f k = some r → firstN f n = some r
  | 0, h, _, _ => absurd h (Nat.not_lt_zero _)
  | n + 1, h, h0, hr => by
    unfold firstN
    by_cases e : k = n
    · subst e
      rw [firstN_none h0, hr]
      rfl
    · rw [firstN_some (by omega) h0 hr]
      rfl
theorem firstN_nil {α : Type} {f : Nat → Option α} {n : Nat} (h : firstN f n = none) : ∀ i, i < n → f i = none := by
  induction n with
  | zero => exact fun i hi => absurd hi (Nat.not_lt_zero _)
  | succ n ih =>
    unfold firstN at h
    cases e : firstN f n with
    | some x => rw [e] at h; cases h
    | none =>
      rw [e] at h
      intro i hi
      by_cases e2 : i = n
      · subst e2; exact h
      · exact ih e i (by omega)
theorem firstN_iff {α : Type} {f : Nat → Option α} {r : α} : ∀ {n : Nat}, firstN f n = some r → ∃ k, k < n ∧ (∀ i, i < k → f i = none) ∧ f k = some r
  | 0, h => by cases h
  | n + 1, h => by
    unfold firstN at h
    cases e : firstN f n with
    | some x =>
      rw [e] at h
      obtain ⟨k, h1, h2, h3⟩ := firstN_iff e
      exact ⟨k, by omega, h2, by rw [h3]; exact h⟩
    | none =>
      rw [e] at h
      exact ⟨n, by omega, firstN_nil e, h⟩
def growR (t : Tro) : Nat → List Int → Option (List Int)
  | 0, l => bif goodB t l then some l else none
  | left + 1, l => firstN (fun i => growR t left (l ++ [(i : Int) - 1])) (t.flocks.length + 1)
def rotF (t : Tro) : Option (List Int) := firstN (fun i => growR t (i + 1) []) 5
theorem growR_is {t : Tro} : ∀ {left : Nat} {l r : List Int}, growR t left l = some r → goodB t r = true ∧ r.length = l.length + left ∧ ((∀ n ∈ l, -1 ≤ n ∧ n < t.flocks.length) → ∀ n ∈ r, -1 ≤ n ∧ n < t.flocks.length)
  | 0, l, r, h => by
    unfold growR at h
    cases e : goodB t l with
    | false => rw [e] at h; cases h
    | true =>
      rw [e] at h
      injection h with h
      subst h
      exact ⟨e, rfl, fun h => h⟩
  | left + 1, l, r, h => by
    unfold growR at h
    obtain ⟨k, h1, _, h3⟩ := firstN_iff h
    obtain ⟨a, b, c⟩ := growR_is h3
    refine ⟨a, by rw [b, List.length_append, List.length_singleton]; omega, fun h => c fun n hn => ?_⟩
    rcases List.mem_append.1 hn with hn | hn
    · exact h n hn
    · rw [List.mem_singleton.1 hn]
      omega
theorem rotF_is {t : Tro} {r : List Int} (h : rotF t = some r) : goodB t r = true ∧ RotaFine t r := by
  obtain ⟨k, h1, _, h3⟩ := firstN_iff h
  obtain ⟨a, b, c⟩ := growR_is h3
  have b : r.length = 0 + (k + 1) := b
  exact ⟨a, by omega, c (by simp)⟩
def Found (n : Nat) (H : List AObj) (v : Value) : Option (List Int) → Prop
  | none => v = .slice none 0 0
  | some r => ∃ o, OwnX H 1 (r.map vint) r.length v (some o) ∧ n ≤ o
theorem Found.val {n : Nat} {H : List AObj} {v : Value} {o : Option (List Int)} (a : Found n H v o) : ∃ b k c, v = .slice b k c ∧ b.isNone = o.isNone := by
  cases o with
  | none => exact ⟨none, 0, 0, a, rfl⟩
  | some r =>
    obtain ⟨o, O, _⟩ := a
    obtain ⟨h1, h2, ⟨_, _, h3⟩ | ⟨i, c, sz, hi, rfl, h5, h6⟩⟩ := O
    · cases h3
    · exact ⟨_, _, _, rfl, rfl⟩
theorem Found.unk {n : Nat} {H : List AObj} {v : Value} {o : Option (List Int)} (a : Found n H v o) : v ≠ unk := by
  obtain ⟨b, k, c, rfl, _⟩ := a.val
  intro e
  cases e
theorem Found.to {n m : Nat} {H H' : List AObj} {v : Value} {o : Option (List Int)} (a : Found n H v o) (hm : m ≤ n) {X : List Nat} (S : SameX X H H') (hX : ∀ x ∈ X, x < n) : Found m H' v o := by
  cases o with
  | none => exact a
  | some r =>
    obtain ⟨o, O, h⟩ := a
    exact ⟨o, ownX_keep O S fun i hi => by cases hi; exact fun hx => absurd (hX _ hx) (by omega), by omega⟩
section
variable {main : Bool} {J : JT} {h H : List AObj} {K : Value → List AObj → Prop} {KV : Value → Prop} {HL : List AObj → Prop} {n0 : Nat}
def rotaA (t : Tro) : Option (List Int) := if troE t = 0 then rotF t else none
def rotaX (t : Tro) : Int := if troE t ≠ 0 then troE t else if (rotF t).isNone then 11 else 0
end
theorem growR_nil {t : Tro} : ∀ {left : Nat} {l : List Int}, growR t left l = none → ∀ w : List Int, w.length = left → (∀ n ∈ w, -1 ≤ n ∧ n < t.flocks.length) → goodB t (l ++ w) = false
  | 0, l, h, w, hw, _ => by
    have : w = [] := List.length_eq_zero_iff.1 hw
    subst this
    unfold growR at h
    rw [List.append_nil]
    cases e : goodB t l with
    | false => rfl
    | true => rw [e] at h; cases h
  | left + 1, l, h, w, hw, hb => by
    cases w with
    | nil => cases hw
    | cons n w =>
      unfold growR at h
      have hn := hb n List.mem_cons_self
      have h1 := firstN_nil h (n + 1).toNat (by omega)
      have e : (((n + 1).toNat : Nat) : Int) - 1 = n := by omega
      rw [e] at h1
      have := growR_nil h1 w (by simpa using hw) fun m hm => hb m (List.mem_cons_of_mem _ hm)
      simpa using this
theorem rotF_some {t : Tro} : (rotF t).isNone = false ↔ ∃ r, RotaFine t r ∧ goodB t r = true := by
  constructor
  · intro h
    cases e : rotF t with
    | none => rw [e] at h; cases h
    | some r => exact ⟨r, (rotF_is e).2, (rotF_is e).1⟩
  · rintro ⟨r, g, hr⟩
    cases e : rotF t with
    | some r => rfl
    | none =>
      have gl := g.len
      have h1 := firstN_nil e (r.length - 1) (by omega)
      have := growR_nil h1 r (by omega) g.who
      rw [List.nil_append, hr] at this
      cases this
section
variable {main : Bool} {J : JT} {h H : List AObj} {K : Value → List AObj → Prop} {KV : Value → Prop} {n0 : Nat}
theorem good25X (hJ : Closed prog main J) {av : Value} {xs : List Int} (ha : Sli H av 1 xs.length (xs.map vint)) (hl : xs.length < 1000000)
    (hK : ∀ H' v o, SameX [] H H' → OwnX H' 1 (xs.map vint) xs.length v (some o) → H.length ≤ o → K v H') : Good prog J 25 [av] H K := by
  refine g25 hJ fun ok => ?_
  rw [e25]
  refine ⟨by decide, fillI (qNew fun H1 p1 e1 S1 c1 l1 => ⟨by decide, ?_⟩)⟩
  have c1 : H1[p1]? = some (.cells [] true 0) := c1
  refine appX c1 (by omega) hl (S1.sli ha (by simp)) fun v' H2 p' O S hp => retL_same ?_ (hK H2 v' p' (S1.trans S) O (by omega))
  intro v hv
  have : v = v' := by simpa using hv
  subst this
  intro e
  have := (ownX_val O).2.2
  rw [e] at this
  cases this
end
def wordsR (F : Nat) : Nat → List (List Int)
  | 0 => [[]]
  | n + 1 => (List.range F).flatMap fun (i : Nat) => (wordsR F n).map ((i : Int) :: ·)
theorem wordsR_len {F : Nat} : ∀ n, (wordsR F n).length = F ^ n
  | 0 => rfl
  | n + 1 => by
    have h : ∀ i, ((List.range i).flatMap fun (i : Nat) => (wordsR F n).map ((i : Int) :: ·)).length = i * F ^ n := by
      intro i
      induction i with
      | zero => simp
      | succ i ih => rw [List.range_succ, List.flatMap_append, List.length_append, ih]; simp [wordsR_len n, Nat.add_mul]
    show ((List.range F).flatMap _).length = _
    rw [h, Nat.pow_succ, Nat.mul_comm]
theorem words_of {F : Nat} : ∀ {n : Nat} {w : List Int}, w ∈ wordsR F n → w.length = n ∧ ∀ x ∈ w, 0 ≤ x ∧ x < F
  | 0, w, h => by
    have : w = [] := by simpa [wordsR] using h
    subst this
    simp
  | n + 1, w, h => by
    unfold wordsR at h
    obtain ⟨i, hi, h⟩ := List.mem_flatMap.1 h
    obtain ⟨u, hu, rfl⟩ := List.mem_map.1 h
    have hi := List.mem_range.1 hi
    obtain ⟨a, b⟩ := words_of hu
    refine ⟨by simp [a], fun x hx => ?_⟩
    rcases List.mem_cons.1 hx with rfl | hx
    · omega
    · exact b x hx
def decR (w : List Int) : List Int := w.map (· - 1)
theorem firstN_range {α : Type} {f : Nat → Option α} : ∀ n, firstN f n = (List.range n).findSome? f
  | 0 => rfl
  | n + 1 => by
    rw [List.range_succ, List.findSome?_append, ← firstN_range n]
    show (firstN f n).or (f n) = _
    cases h : f n <;> simp [List.findSome?, h]
theorem growR_words {t : Tro} : ∀ (left : Nat) (l : List Int), growR t left l = ((wordsR (t.flocks.length + 1) left).map fun w => l ++ decR w).find? (goodB t)
  | 0, l => by
    unfold growR wordsR decR
    cases h : goodB t l <;> simp [List.find?, h]
  | left + 1, l => by
    unfold growR wordsR
    rw [firstN_range, List.map_flatMap, List.find?_flatMap]
    congr 1
    funext i
    rw [growR_words left, List.map_map]
    congr 1
    refine List.map_congr_left fun w _ => ?_
    simp [decR]
theorem growR_at {t : Tro} {n i : Nat} {w : List Int} (hw : (wordsR (t.flocks.length + 1) n)[i]? = some w) (hg : goodB t (decR w) = true) (hn : ∀ j u, j < i → (wordsR (t.flocks.length + 1) n)[j]? = some u → goodB t (decR u) = false) : growR t n [] = some (decR w) := by
  rw [growR_words]
  obtain ⟨hi, rfl⟩ := List.getElem?_eq_some_iff.1 hw
  rw [List.find?_eq_some_iff_getElem]
  refine ⟨by simpa using hg, i, by simpa using hi, by simp, fun j hj => ?_⟩
  have := hn j _ hj (List.getElem?_eq_getElem (by omega))
  simpa using this
theorem growR_no {t : Tro} {n : Nat} (hn : ∀ (j : Nat) u, (wordsR (t.flocks.length + 1) n)[j]? = some u → goodB t (decR u) = false) : growR t n [] = none := by
  rw [growR_words, List.find?_eq_none]
  intro x hx
  obtain ⟨u, hu, rfl⟩ := List.mem_map.1 hx
  obtain ⟨j, hj⟩ := List.getElem?_of_mem hu
  have := hn j u hj
  simpa using this
def OwnL (n : Nat) (H : List AObj) (v : Value) (ls : List (List Int)) (o : Option Nat) : Prop :=
  (∀ j, o = some j → n ≤ j) ∧ ∃ cs, OwnX H 1 cs ls.length v o ∧ ∀ (i : Nat) l, ls[i]? = some l → ∃ lv b, cs[i]? = some lv ∧ OwnX H 1 (l.map vint) l.length lv b ∧ ∀ j, b = some j → some j ≠ o ∧ n ≤ j
theorem OwnL.keep {n : Nat} {H H' : List AObj} {v : Value} {ls : List (List Int)} {o : Option Nat} (a : OwnL n H v ls o) (S : SameX [] H H') : OwnL n H' v ls o := by
  obtain ⟨h1, cs, O, he⟩ := a
  refine ⟨h1, cs, ownX_keep O S (by simp), fun i l hl => ?_⟩
  obtain ⟨lv, b, e1, e2, e3⟩ := he i l hl
  exact ⟨lv, b, e1, ownX_keep e2 S (by simp), e3⟩
section
variable {main : Bool} {J : JT} {h H : List AObj} {K : Value → List AObj → Prop} {KV : Value → Prop} {HL : List AObj → Prop} {n0 : Nat}
theorem OwnL.get {n i : Nat} {v : Value} {ls : List (List Int)} {o : Option Nat} (a : OwnL n H v ls o) {l : List Int} (hl : ls[i]? = some l) {K2 : Value → Value → Prop} (hK : ∀ p lv b, OwnX H 1 (l.map vint) l.length lv b → (∀ j, b = some j → n ≤ j) → K2 p lv) : aIdx 1 v (vint (i : Nat)) fun p => aLoad false 1 p H (K2 p) := by
  obtain ⟨h1, cs, O, he⟩ := a
  obtain ⟨lv, b, e1, e2, e3⟩ := he i l hl
  have hi := (List.getElem?_eq_some_iff.1 hl).1
  exact idx_load (ownX_sli O) ⟨by omega, by omega⟩ (by rw [Int.toNat_natCast]; exact e1) fun p => hK p lv b e2 fun j hj => (e3 j hj).2
theorem app_zero {x y : Value} {p : Nat} (hp : H[p]? = some (.cells [x] true 0)) (hk : kn1 x = true) (hy : Sli H y 1 0 []) (hK : K (.slice (some ⟨p, 0, none⟩) 1 1) H) : aApp 1 (.slice (some ⟨p, 0, none⟩) 1 1) y H K := by
  have hfz : (1000 : Nat) < fz := by decide
  have hrm : (2000 : Nat) < room := by decide
  obtain ⟨yb, yc, rfl, hyk, hh⟩ := id hy
  refine ⟨by omega, src_sli hy (by omega) ?_⟩
  simp only [hp]
  refine ⟨⟨by simp, by simp [kn]; exact hk⟩, fun _ => ⟨fun _ => ⟨trivial, by simp, ?_⟩, fun h => absurd h (by omega)⟩, fun h => absurd h (by omega)⟩
  have e : H.set p (.cells (wrAt [x] (0 + 1 * 1) []) true 0) = H := by
    apply List.ext_getElem?
    intro i
    rw [List.getElem?_set]
    split
    · rename_i e
      subst e
      rw [if_pos (lt_of_get hp)]
      simpa [wrAt] using hp.symm
    · rfl
  rw [e]
  exact hK
theorem goodB_eq {t : Tro} {r : List Int} : goodB t r = (decide (((unfL t r).length : Int) = 0) && decide (lastsR t r < 0)) := by
  unfold goodB
  rw [unfL_eq, List.length_map]
  cases unfairR t r with
  | nil => rfl
  | cons a l =>
    have : ¬ (((a :: l).length : Nat) : Int) = 0 := by rw [List.length_cons]; omega
    rw [decide_eq_false this]
    rfl
theorem good44 (hJ : Closed prog main J) {v fv rv : Value} {t : Tro} {r : List Int} (ht : TroAt H v t fv) (hr : Sli H rv 1 r.length (r.map vint)) (f : TroFine t) (g : RotaFine t r)
    (hK : ∀ H', SameX [] H H' → K (.tuple ⟨[.bool (goodB t r), .bool true]⟩) H') : Good prog J 44 [v, rv] H K := by
  refine g44 hJ fun ok => ?_
  rw [e44, ht.val]
  refine qBox (tro_one ht) fun H1 p1 e1 S1 c1 l1 => ?_
  have kt := tro_kn ht
  have fl := f.len
  have er := fine_rotaE f g
  have eU : unfA t r = unfL t r := by unfold unfA; rw [if_pos er]
  have hE : lastE t r = if lastsR t r < 0 then 11 else 0 := by unfold lastE; rw [if_neg (by omega)]
  refine load_part (c := troCells t fv) c1 (by simp [troCells]) rfl kt (good52 hJ ⟨rfl, S1.sli ht.fl (by simp)⟩ (S1.sli hr (by simp)) (by omega) fun H2 uv S2 U2 => ext0 (ext1 ?_))
  have T2 := S1.trans S2
  refine load_part (c := troCells t fv) (S2.get c1 (by simp)) (by simp [troCells]) rfl kt (good38 hJ ⟨rfl, T2.sli ht.fl (by simp)⟩ (T2.sli hr (by simp)) (by omega) fun H3 S3 => ext0 (ext1 ?_))
  rw [eU] at U2
  have fin := hK H3 (T2.trans S3)
  rw [goodB_eq] at fin
  rw [er, hE]
  refine lenI (S3.sli U2 (by simp)) (eqlI (cndI (fun h0 => eqlI (eqlI (cndI (fun _ => ?_) fun hx => absurd rfl hx))) fun h0 => eqlI (cndI (fun _ => ?_) fun hx => absurd rfl hx)))
  · rw [decide_eq_true h0, Bool.true_and] at fin
    by_cases hx : lastsR t r < 0
    · rw [decide_eq_true hx] at fin
      rw [if_pos hx]
      exact eqlI (cndI (fun hy => absurd hy (by decide)) fun _ => eqlI (retL_same (by simp [unk]) fin))
    · rw [decide_eq_false hx] at fin
      rw [if_neg hx]
      exact eqlI (cndI (fun _ => retL_same (by simp [unk]) fin) fun hy => absurd rfl hy)
  · rw [decide_eq_false h0, Bool.false_and] at fin
    by_cases hx : lastsR t r < 0
    · rw [if_pos hx]
      exact eqlI (cndI (fun hy => absurd hy (by decide)) fun _ => eqlI (retL_same (by simp [unk]) fin))
    · rw [if_neg hx]
      exact eqlI (cndI (fun _ => retL_same (by simp [unk]) fin) fun hy => absurd rfl hy)
end
end Go.Proofs.Ytindillghipjjaa
namespace Go.Proofs.Ytindillghipjjaa
open Go.Conc Go.Proofs.Try
structure Ref where
  now : Int
  next : Nat
  out : List Int
def partG (hd : Nat → Int) (g : Nat → List (List Int)) (i k : Nat) : List (List Int) := ((List.range i).flatMap fun j => (g j).map (hd j :: ·)) ++ ((g i).take k).map (hd i :: ·)
section
variable {hd : Nat → Int} {g : Nat → List (List Int)} {i k : Nat}
theorem partG_zero : partG hd g i 0 = (List.range i).flatMap fun j => (g j).map (hd j :: ·) := by unfold partG; simp
theorem partG_all : partG hd g i (g i).length = partG hd g (i + 1) 0 := by
  rw [partG_zero]
  unfold partG
  rw [List.take_length, List.range_succ, List.flatMap_append]
  simp
theorem partG_succ {w : List Int} (hw : (g i)[k]? = some w) : partG hd g i (k + 1) = partG hd g i k ++ [hd i :: w] := by
  unfold partG
  rw [List.take_add_one, hw, List.map_append, List.append_assoc]
  rfl
theorem partG_le {B : Nat} (hB : ∀ j, (g j).length ≤ B) : (partG hd g i k).length ≤ (i + 1) * B := by
  have h : ∀ i, ((List.range i).flatMap fun j => (g j).map (hd j :: ·)).length ≤ i * B := by
    intro i
    induction i with
    | zero => simp
    | succ i ih =>
      rw [List.range_succ, List.flatMap_append, List.length_append, Nat.succ_mul]
      have := hB i
      simp only [List.flatMap_cons, List.flatMap_nil, List.append_nil, List.length_map]
      omega
  have h1 := h i
  have h2 := hB i
  unfold partG
  rw [List.length_append, List.length_map, List.length_take, Nat.succ_mul]
  have := Nat.min_le_right k (g i).length
  omega
end
theorem bound_more {t : Tro} {r : List Int} (f : TroFine t) {n : Nat} (hn : (n : Int) = (t.well.holds + 3) * r.length) : bound t r ≤ n := by
  have hb : ((bound t r : Nat) : Int) = (t.well.holds + 1) * r.length := by
    unfold bound
    rw [Int.natCast_mul]
    congr 1
    have := f.holds
    omega
  have h1 : (t.well.holds + 3) * (r.length : Int) = (t.well.holds + 1) * (r.length : Int) + 2 * (r.length : Int) := by
    rw [← Int.add_mul]
    congr 1
    omega
  omega
theorem dry_head {t : Tro} {r : List Int} (f : TroFine t) (hr : r ≠ []) {n : Nat} (hn : bound t r ≤ n) : (dryR t r n = [] ∧ lastsR t r = -1) ∨ (0 ≤ lastsR t r ∧ (dryR t r n)[0]? = some (lastsR t r)) := by
  rcases Int.lt_or_le (lastsR t r) 0 with h | h
  · obtain ⟨h1, h2⟩ := lasts_neg f hr h
    exact .inl ⟨dry_nil fun i _ => h2 i, h1⟩
  · obtain ⟨k, h1, h2, h3, h4⟩ := lasts_pos h
    refine .inr ⟨h, ?_⟩
    rw [h1]
    exact dry_first h3 h4 (by omega)
def rotasR (F n : Nat) : List (List Int) := (wordsR F n).map decR
theorem rotasR_len (F n : Nat) : (rotasR F n).length = F ^ n := by
  unfold rotasR
  rw [List.length_map, wordsR_len]
theorem rotas_bd {F n : Nat} (hF : F ≤ 4) (hn : n ≤ 5) : F ^ n ≤ 1024 := by
  have h1 : F ^ n ≤ 4 ^ n := Nat.pow_le_pow_left hF n
  have h2 : 4 ^ n ≤ 4 ^ 5 := Nat.pow_le_pow_right (by decide) hn
  have h3 : 4 ^ 5 = 1024 := rfl
  omega
theorem rotas_end {F n : Nat} : partG (fun j => (j : Int) - 1) (fun _ => rotasR F n) F 0 = rotasR F (n + 1) := by
  rw [partG_zero]
  unfold rotasR
  conv => rhs; unfold wordsR
  rw [List.map_flatMap]
  congr 1
  funext i
  rw [List.map_map, List.map_map]
  rfl
theorem rotas_of {F n : Nat} {w : List Int} (h : w ∈ rotasR F n) : w.length = n ∧ ∀ x ∈ w, -1 ≤ x ∧ x < (F : Int) - 1 := by
  obtain ⟨u, hu, rfl⟩ := List.mem_map.1 h
  obtain ⟨a, b⟩ := words_of hu
  refine ⟨by simp [decR, a], fun x hx => ?_⟩
  obtain ⟨y, hy, rfl⟩ := List.mem_map.1 hx
  have := b y hy
  omega
theorem rotas_at {t : Tro} {n i : Nat} {w : List Int} (hw : (rotasR (t.flocks.length + 1) n)[i]? = some w) (hg : goodB t w = true) (hn : ∀ j u, j < i → (rotasR (t.flocks.length + 1) n)[j]? = some u → goodB t u = false) : growR t n [] = some w := by
  unfold rotasR at hw hn
  rw [List.getElem?_map] at hw
  obtain ⟨u, hu, rfl⟩ := Option.map_eq_some_iff.1 hw
  refine growR_at hu hg fun j v hj hv => hn j _ hj ?_
  rw [List.getElem?_map, hv]
  rfl
theorem rotas_no {t : Tro} {n : Nat} (hn : ∀ (j : Nat) u, (rotasR (t.flocks.length + 1) n)[j]? = some u → goodB t u = false) : growR t n [] = none := by
  unfold rotasR at hn
  refine growR_no fun j v hv => hn j _ ?_
  rw [List.getElem?_map, hv]
  rfl
end Go.Proofs.Ytindillghipjjaa
namespace Go.Proofs.Ytindillghipjjaa
open Go.Conc Go.Proofs.Try
set_option maxRecDepth 100000
section
variable {h H : List AObj} {K : Value → List AObj → Prop}
theorem app_cons {He : List AObj} {pe : Nat} {x : Int} {w : List Int} {lv : Value} (ce : He[pe]? = some (.cells [vint x] true 0)) (hw : Sli He lv 1 w.length (w.map vint)) (hwl : w.length < 900)
    (hK : ∀ H' wv b, SameX [pe] He H' → OwnX H' 1 ((x :: w).map vint) (x :: w).length wv (some b) → (b = pe ∨ He.length ≤ b) → K wv H') : aApp 1 (.slice (some ⟨pe, 0, none⟩) 1 1) lv He K := by
  have Op := ownX_new (s := 1) (n := 1) (l := [vint x]) ce rfl rfl
  by_cases h0 : w.length = 0
  · have : w = [] := List.length_eq_zero_iff.1 h0
    subst this
    exact app_zero ce rfl hw (hK He _ pe SameX.refl Op (.inl rfl))
  · refine ownX_app Op (by omega) (by omega) (by omega) hw fun v8 H9 p9 e9 O9 S9 l9 => hK H9 v8 p9 S9 ?_ (.inr (by omega))
    have e1 : (x :: w).length = 1 + w.length := by simp; omega
    rw [e1]
    exact O9
theorem OwnL.more {lo : Nat} {H : List AObj} {ls : List (List Int)} {o : Option Nat} {v y wv : Value} {l : List Int} {bf : Nat} {K : Value → List AObj → Prop}
    (L : OwnL lo H v ls o) (hlo : lo ≤ H.length) (hpl : ls.length < 90000) (Of : OwnX H 1 (l.map vint) l.length wv (some bf)) (hbf : lo ≤ bf) (hne : some bf ≠ o) (hyv : Sli H y 1 1 [wv])
    (hK : ∀ v' H' o', SameX o.toList H H' → OwnL lo H' v' (ls ++ [l]) (some o') → H.length ≤ o' → v' ≠ unk → K v' H') : aApp 1 v y H K := by
  obtain ⟨hl0, cs, Oc, he⟩ := L
  have bfl := ownX_lt Of bf rfl
  refine ownX_more Oc (by omega) (by omega) hyv fun v' Hh ph eh Oh Sh => ?_
  have hno : ∀ j, some j ≠ o → j ∉ o.toList := fun j hj hm => hj (by rw [Option.mem_toList.1 hm])
  refine hK v' Hh ph Sh ⟨fun j hj => by cases hj; omega, cs ++ [wv], by rw [List.length_append]; exact Oh, fun m l' hl => ?_⟩ (by omega) ?_
  · have hcl : cs.length = ls.length := by have := Oc.1; omega
    rcases Nat.lt_or_ge m ls.length with hm | hm
    · rw [List.getElem?_append_left hm] at hl
      obtain ⟨lv2, b2, e2, e3, e4⟩ := he m l' hl
      refine ⟨lv2, b2, by rw [List.getElem?_append_left (by omega)]; exact e2, ownX_keep e3 Sh fun j hj => hno j (e4 j hj).1, fun j hj => ⟨?_, (e4 j hj).2⟩⟩
      have := ownX_lt e3 j hj
      intro e
      injection e with e
      omega
    · rw [List.getElem?_append_right hm] at hl
      have hm0 : m - ls.length = 0 := by
        have := (List.getElem?_eq_some_iff.1 hl).1
        simp at this
        omega
      rw [hm0] at hl
      have : l' = l := by simpa using hl.symm
      subst this
      refine ⟨wv, some bf, by rw [List.getElem?_append_right (by omega), hcl, hm0]; rfl, ownX_keep Of Sh fun j hj => ?_, fun j hj => ?_⟩
      · cases hj
        exact hno _ hne
      · cases hj
        refine ⟨fun e => ?_, hbf⟩
        injection e with e
        omega
  · have := (ownX_val Oh).2.2
    intro e
    rw [e] at this
    cases this
theorem one_nil {lo : Nat} {p : Nat} (c : H[p]? = some (.cells [.slice none 0 0] true 0)) (hp : lo ≤ p) : OwnL lo H (.slice (some ⟨p, 0, none⟩) 1 1) [[]] (some p) := by
  refine ⟨fun j hj => by cases hj; exact hp, _, ownX_new (s := 1) (n := 1) c rfl rfl, fun i l hl => ?_⟩
  cases i with
  | zero =>
    have : l = [] := by simpa using hl.symm
    subst this
    exact ⟨_, none, rfl, ⟨rfl, rfl, .inl ⟨rfl, rfl, rfl⟩⟩, by simp⟩
  | succ i => simp at hl
theorem OwnL.nil {lo : Nat} : OwnL lo H (.slice none 0 0) [] none := ⟨by simp, [], ⟨rfl, rfl, .inl ⟨rfl, rfl, rfl⟩⟩, by simp⟩
theorem OwnL.lo {n m : Nat} {v : Value} {ls : List (List Int)} {o : Option Nat} (a : OwnL n H v ls o) (h : m ≤ n) : OwnL m H v ls o := by
  obtain ⟨a1, cs, a2, a3⟩ := a
  exact ⟨fun j hj => by have := a1 j hj; omega, cs, a2, fun i l hl => by
    obtain ⟨lv, b, q1, q2, q3⟩ := a3 i l hl
    exact ⟨lv, b, q1, q2, fun j hj => ⟨(q3 j hj).1, by have := (q3 j hj).2; omega⟩⟩⟩
theorem OwnL.lt {n : Nat} {v : Value} {ls : List (List Int)} {o : Option Nat} (a : OwnL n H v ls o) : ∀ j, o = some j → n ≤ j ∧ j < H.length := fun j hj => ⟨a.1 j hj, ownX_lt a.2.choose_spec.1 j hj⟩
theorem OwnL.sli {n : Nat} {v : Value} {ls : List (List Int)} {o : Option Nat} (a : OwnL n H v ls o) : ∃ cs, Sli H v 1 ls.length cs := ⟨_, ownX_sli a.2.choose_spec.1⟩
theorem OwnL.nunk {n : Nat} {v : Value} {ls : List (List Int)} {o : Option Nat} (a : OwnL n H v ls o) : v ≠ unk := by
  have := (ownX_val a.2.choose_spec.1).2.2
  intro e
  rw [e] at this
  cases this
end
section
variable {main : Bool} {J : JT} {h H : List AObj} {K : Value → List AObj → Prop} {KV : Value → Prop} {HL : List AObj → Prop} {n0 : Nat} {nx0 : RG → List AObj → Prop}
variable {t : Tro} {cs : List Int} {os : List Nat} {fv cv ov : Value} {p1 p4 hh : Nat} {s : Ref} {F : RG}
theorem nuA {a b : Value} (ha : a ≠ unk) (hb : b ≠ unk) : ∀ v ∈ [a, b], v ≠ unk := by
  intro v hv
  simp only [List.mem_cons, List.not_mem_nil, or_false] at hv
  rcases hv with rfl | rfl <;> assumption
end
theorem own_nunkV {H : List AObj} {s len : Nat} {cs : List Value} {v : Value} {o : Option Nat} (O : OwnX H s cs len v o) : v ≠ unk := by
  obtain ⟨_, _, rfl, _⟩ := ownX_sli O
  simp [unk]
section
variable {main : Bool} {J : JT} {h H : List AObj} {K : Value → List AObj → Prop} {KV : Value → Prop} {HL : List AObj → Prop} {n0 : Nat}
theorem good101 (hJ : Closed prog main J) {rv : Value} {r : List Int} {f : Int} (hs : Sli H rv 1 r.length (r.map vint)) (hr : r ≠ []) (hl : r.length ≤ 100) (hK : K (vint (gapR r f)) H) : Good prog J 101 [rv, vint f] H K := by
  refine g101 hJ fun ok => ?_
  rw [e101]
  have hp : 0 < r.length := by cases r <;> simp at hr ⊢
  have turn : ∀ k, r[k % r.length]? = some (turnOf r k) := fun k => by
    have hmod := Nat.mod_lt k hp
    unfold turnOf
    rw [List.getD_eq_getElem?_getD, List.getElem?_eq_getElem hmod]
    rfl
  refine lenI hs ?_
  refine l101_1 hJ (fun i : Nat => r.length - i) (fun i F H' => H' = H ∧ i ≤ r.length ∧ F.ds = [] ∧ F.r 0 = rv ∧ F.r 1 = vint f ∧ F.r 5 = vint (gapG r f i) ∧ F.r 6 = vint (r.length : Nat) ∧ F.r 7 = vint (i : Nat)) ?_ (s := 0)
    (.inl ⟨rfl, by omega, rfl, rfl, rfl, rfl, rfl, rfl⟩)
  rintro i F H' ⟨rfl, hi, ds, r0, r1, r5, r6, r7⟩ okc hnc
  rw [s101_1, r0, r1, r5, r6, r7, ds]
  refine lssI (cndI (fun hlt => ?_) fun hge => ?_)
  rotate_left
  · have : i = r.length := by omega
    subst this
    exact retL_same (by simp [unk]) hK
  have hil : i < r.length := by omega
  have ht := turn i
  rw [Nat.mod_eq_of_lt hil] at ht
  refine sli_num' hs ht fun q => neqI (cndI (fun hne => ?_) fun heq => ?_)
  · have hno : ¬ occ r f i := hne
    refine addI (by omega) ⟨i + 1, by dsimp only; omega, .inl ⟨rfl, by omega, ds, r0, r1, ?_, r6, by show vint _ = vint _; congr 1⟩⟩
    show F.r 5 = _
    rw [r5]
    unfold gapG
    rw [if_neg hno]
    cases i <;> rfl
  · have ho : occ r f i := Classical.not_not.1 heq
    obtain ⟨d, e1, d1, d2, d3, d4⟩ := nextD_spec hr ho
    refine l101_2 hJ (fun k : Nat => d + 1 - k) (fun k F H'' => H'' = H' ∧ 1 ≤ k ∧ k ≤ d ∧ F.ds = [] ∧ F.r 0 = rv ∧ F.r 1 = vint f ∧ F.r 5 = vint (gapG r f i) ∧ F.r 6 = vint (r.length : Nat) ∧ F.r 7 = vint (i : Nat) ∧ F.r 8 = vint (k : Nat)) ?_ (s := 1)
      (.inl ⟨rfl, by omega, by omega, ds, r0, r1, r5, r6, r7, rfl⟩)
    clear ds r0 r1 r5 r6 r7 okc hnc
    rintro k F H'' ⟨rfl, hk1, hk2, ds, r0, r1, r5, r6, r7, r8⟩ okc hnc
    rw [s101_2, r0, r1, r5, r6, r7, r8]
    refine addI (by omega) ?_
    rw [show ((i : Int) + (k : Int)) = ((i + k : Nat) : Int) by omega]
    refine remI (by omega) hp (sli_num' hs (turn (i + k)) fun q => neqI (cndI (fun hne => ?_) fun heq => ?_))
    · have hkd : k ≠ d := fun e => hne (e ▸ d3)
      exact addI (by omega) ⟨k + 1, by dsimp only; omega, .inl ⟨rfl, by omega, by omega, ds, r0, r1, r5, r6, r7, by show vint _ = vint _; congr 1⟩⟩
    · have hoc : occ r f (i + k) := Classical.not_not.1 heq
      have hkd : k = d := by
        rcases Nat.lt_or_ge k d with y | y
        · exact absurd hoc (d4 k hk1 y)
        · omega
      have hg : gapG r f (i + 1) = max (gapG r f i) (k : Int) := by
        conv => lhs; unfold gapG
        rw [if_pos ho, e1, hkd]
      refine maxI (addI (by omega) ⟨i + 1, by dsimp only; omega, .inl ⟨rfl, by omega, ds, r0, r1, ?_, r6, by show vint _ = vint _; congr 1⟩⟩)
      rw [hg]
      rfl
theorem good102 (hJ : Closed prog main J) {v fv rv : Value} {t : Tro} {r : List Int} (ht : TroAt H v t fv) (hr : Sli H rv 1 r.length (r.map vint)) (hne : r ≠ []) (hl : r.length ≤ 100) (hfl : t.flocks.length ≤ 100)
    (hK : ∀ H' w o, SameX [] H H' → OwnX H' 1 ((unfL t r).map vint) (unfL t r).length w o → K w H') : Good prog J 102 [v, rv] H K := by
  refine g102 hJ fun ok => ?_
  rw [e102, ht.val]
  have kf := (sli_val ht.fl).2.2
  refine qBox (tro_one ht) fun H1 p1 e1 S1 c1 l1 => ?_
  refine l102_1 hJ (fun i : Nat => t.flocks.length - i) (fun i F H' => SameX [] H1 H' ∧ i ≤ t.flocks.length ∧ (∃ o, OwnX H' 1 ((unfTo t r i).map vint) (unfTo t r i).length (F.r 5) o ∧ ∀ j, o = some j → H1.length ≤ j) ∧ F.ds = [] ∧ F.r 1 = rv ∧ F.r 2 = ptr p1 0 ∧ F.r 6 = vint (i : Nat)) ?_ (s := 0)
    (.inl ⟨SameX.refl, by omega, ⟨none, ⟨rfl, rfl, .inl ⟨rfl, rfl, rfl⟩⟩, by simp⟩, rfl, rfl, rfl, rfl⟩)
  rintro i F H' ⟨S, hi, ⟨o, O, hb⟩, ds, r1, r2, r6⟩ okc hnc
  generalize hv : F.r 5 = wv at O
  rw [s102_1, r1, r2, hv, r6, ds]
  have T := S1.trans S
  have c' := S.get c1 (by simp)
  have st : SliE H' fv 2 Dro.cells t.flocks := T.sli ht.fl (by simp)
  refine offI (ldI (v := fv) c' rfl kf (lenI st (lssI (cndI (fun hlt => ?_) fun hge => ?_))))
  rotate_left
  · have : i = t.flocks.length := by omega
    subst this
    exact retL_same (by simpa using own_nunkV O) (hK H' wv o T O)
  have hil : i < t.flocks.length := by omega
  have hg := gapR_bd hne (i : Int)
  have hul := unfTo_len (t := t) (r := r) i
  -- the next flock
  have next : ∀ {F2 : RG} {b : Bool}, F2.ds = [] → F2.r 1 = rv → F2.r 2 = ptr p1 0 → F2.r 5 = wv → F2.r 6 = vint (i : Nat) → F2.r 29 = .bool b → b = decide (gapR r i = 0 ∨ gapR r i > (droAt t i).every) →
      W prog J 35 H.length 102 (subC [1, 1, 0, 1, 0, 0, 1, 0, 0, 1, 1] (codeOf f102)) F2 H' (contX pl102 prog J 35 H.length 102 ct102 [1, 1, 0, 1, 0, 0, 1, 0, 0, 1, 1] (codeOf f102) [Nx H.length (fun i : Nat => t.flocks.length - i) (fun i F H' => SameX [] H1 H' ∧ i ≤ t.flocks.length ∧ (∃ o, OwnX H' 1 ((unfTo t r i).map vint) (unfTo t r i).length (F.r 5) o ∧ ∀ j, o = some j → H1.length ≤ j) ∧ F.ds = [] ∧ F.r 1 = rv ∧ F.r 2 = ptr p1 0 ∧ F.r 6 = vint (i : Nat)) i] (RetQ prog [.tmp 4] H.length K)) := by
    intro F2 b q0 q1 q2 q5 q6 q29 hbb
    rw [s102_2, q29, q5, q6]
    cases b with
    | true =>
      have hc := of_decide_eq_true hbb.symm
      refine cnd_true.2 ⟨by decide, fill_one (l := [vint i]) rfl rfl rfl (by decide) (fillI (qNew fun H7 p7 e7 S7 c7 l7 => ⟨by decide, ?_⟩))⟩
      have c7 : H7[p7]? = some (.cells [vint i] true 0) := c7
      refine ownX_more (ownX_keep O S7 (by simp)) (by omega) (by omega) (ownX_sli (ownX_new (s := 1) (n := 1) c7 rfl rfl)) fun v8 H8 p8 e8 O8 S8 => addI (by omega) ⟨i + 1, by dsimp only; omega, .inl ⟨(S.trans S7).thru S8 (fun y hy => .inr (hb y (Option.mem_toList.1 hy))), by omega, ⟨some p8, ?_, fun j hj => ?_⟩, q0, q1, q2, by show vint _ = vint _; congr 1⟩⟩
      · rw [unfTo_succ, if_pos hc, List.map_append, List.length_append]
        exact O8
      · cases hj
        have := S.1
        have := S7.1
        omega
    | false =>
      have hc := of_decide_eq_false hbb.symm
      refine cnd_false.2 (addI (by omega) ⟨i + 1, by dsimp only; omega, .inl ⟨S, by omega, ⟨o, ?_, hb⟩, q0, q1, q2, by show vint _ = vint _; congr 1⟩⟩)
      rw [unfTo_succ, if_neg hc]
      show OwnX H' 1 _ _ (F2.r 5) o
      rw [q5]
      exact O
  refine good101 hJ (T.sli hr (by simp)) hne hl (eqlI (cndI (fun h0 => ?_) fun h0 => ?_))
  · exact hold.2 (next ds r1 r2 hv r6 rfl (decide_eq_true (.inl h0)).symm)
  · obtain ⟨b, of, cells, wr, sz, hidx, hbk, hol', hft, hkn⟩ := sliE_elem dro_len (by omega) st hil
    have hd : droAt t i = t.flocks[i] := droAt_mem hil
    have hx : cells[of + 1]? = some (vint t.flocks[i].every) := part_get hft rfl
    refine offI (ldI (v := fv) c' rfl kf (hidx _ (offI (ldI (v := vint t.flocks[i].every) hbk hx rfl (gtrI (hold.2 ?_))))))
    refine next ds r1 r2 hv r6 rfl (decide_eq_decide.2 ?_)
    rw [hd]
    exact ⟨fun e => .inr e, fun e => e.resolve_left h0⟩
theorem good103 (hJ : Closed prog main J) {v fv rv : Value} {t : Tro} {r : List Int} (ht : TroAt H v t fv) (hr : Sli H rv 1 r.length (r.map vint)) (f : TroFine t) (g : RotaFine t r)
    (hK : ∀ H', SameX [] H H' → K (vint (lastsR t r)) H') : Good prog J 103 [v, rv] H K := by
  refine g103 hJ fun ok => ?_
  rw [e103, ht.val]
  have fh := f.holds
  have gl := g.len
  have hne : r ≠ [] := by intro e; rw [e] at gl; simp at gl
  refine qBox (tro_one ht) fun H1 p1 e1 S1 c1 l1 => load_part (c := troCells t fv) c1 (by simp [troCells]) rfl (tro_kn ht) ?_
  have t1 : TroAt H1 (.agg ⟨troCells t fv⟩) t fv := ⟨rfl, S1.sli ht.fl (by simp)⟩
  refine offI (offI (ldI (v := vint t.well.holds) c1 rfl rfl (addI (by omega) (lenI (S1.sli hr (by simp)) ?_))))
  have hn : (((t.well.holds + 3).toNat * r.length : Nat) : Int) = (t.well.holds + 3) * (r.length : Int) := by
    rw [Int.natCast_mul]
    congr 1
    omega
  have hn2 : (t.well.holds + 3).toNat * r.length ≤ 43 * 5 := Nat.mul_le_mul (by omega) (by omega)
  have hbm := bound_more f (r := r) hn
  refine mulI (by omega) ?_
  rw [← hn]
  refine good92 hJ t1 (S1.sli hr (by simp)) f g (by omega) fun H2 lv dv S2 L2 D2 => ext0 (ext1 (lenI D2 (gtrI (cndI (fun hgt => ?_) fun hle => ?_))))
  · rcases dry_head f hne hbm with ⟨h1, _⟩ | ⟨h1, h2⟩
    · rw [h1] at hgt
      exact absurd hgt (by simp)
    · exact sli_num' (i := 0) D2 h2 fun q => retL_same (by simp [unk]) (hK H2 (S1.trans S2))
  · rcases dry_head f hne hbm with ⟨_, h1⟩ | ⟨h1, h2⟩
    · have := hK H2 (S1.trans S2)
      rw [h1] at this
      exact retL_same (by simp [unk]) this
    · have := (List.getElem?_eq_some_iff.1 h2).1
      omega
theorem good104 (hJ : Closed prog main J) {v fv rv : Value} {t : Tro} {r : List Int} (ht : TroAt H v t fv) (hr : Sli H rv 1 r.length (r.map vint)) (f : TroFine t) (g : RotaFine t r)
    (hK : ∀ H', SameX [] H H' → K (.bool (goodB t r)) H') : Good prog J 104 [v, rv] H K := by
  refine g104 hJ fun ok => ?_
  rw [e104, ht.val]
  have gl := g.len
  have fl := f.len
  have hne : r ≠ [] := by intro e; rw [e] at gl; simp at gl
  refine qBox (tro_one ht) fun H1 p1 e1 S1 c1 l1 => load_part (c := troCells t fv) c1 (by simp [troCells]) rfl (tro_kn ht) ?_
  have t1 : TroAt H1 (.agg ⟨troCells t fv⟩) t fv := ⟨rfl, S1.sli ht.fl (by simp)⟩
  refine good102 hJ t1 (S1.sli hr (by simp)) hne (by omega) (by omega) fun H2 w o S2 O2 => lenI (ownX_sli O2) (eqlI (cndI (fun h0 => ?_) fun h0 => ?_))
  · refine load_part (c := troCells t fv) (S2.get c1 (by simp)) (by simp [troCells]) rfl (tro_kn ht) ?_
    refine good103 hJ (troAt_same t1 S2 (by simp)) ((S1.trans S2).sli hr (by simp)) f g fun H3 S3 => lssI (retL_same (by simp [unk]) ?_)
    have := hK H3 ((S1.trans S2).trans S3)
    rw [goodB_eq, decide_eq_true h0] at this
    exact this
  · have := hK H2 (S1.trans S2)
    rw [goodB_eq, decide_eq_false h0] at this
    exact retL_same (by simp [unk]) this
end
section
variable {main : Bool} {J : JT} {h H : List AObj} {K : Value → List AObj → Prop} {KV : Value → Prop} {HL : List AObj → Prop} {n0 : Nat}
theorem good123 (hJ : Closed prog main J) {F : Nat} (hF : F ≤ 3) : ∀ (n : Nat) {H : List AObj} {K : Value → List AObj → Prop}, n ≤ 5 →
    (∀ H' v o, SameX [] H H' → OwnL H.length H' v (rotasR (F + 1) n) o → v ≠ unk → K v H') → Good prog J 123 [vint (F : Nat), vint (n : Nat)] H K
  | 0, H, K, _, hK => by
    refine g123 hJ fun ok => ?_
    rw [e123]
    refine eqlI (cndI (fun _ => ?_) fun hx => absurd rfl hx)
    refine ⟨by decide, fill_one (l := [.slice none 0 0]) rfl rfl rfl (by decide) (fillI (qNew fun H1 p1 e1 S1 c1 l1 => retL_same (by simp [unk]) ?_))⟩
    have L : OwnL H.length H1 (.slice (some ⟨p1, 0, none⟩) 1 1) (rotasR (F + 1) 0) (some p1) := one_nil (lo := H.length) (p := p1) c1 (by omega)
    exact hK H1 _ _ S1 L L.nunk
  | n + 1, H, K, hn, hK => by
    refine g123 hJ fun ok => ?_
    rw [e123]
    refine eqlI (cndI (fun hx => absurd hx (by omega)) fun _ => subI (by omega) ?_)
    rw [show (((n + 1 : Nat) : Int) - 1) = ((n : Nat) : Int) by omega]
    have hbd := rotas_bd (F := F + 1) (n := n) (by omega) (by omega)
    have hlen := rotasR_len (F + 1) n
    refine good123 hJ hF n (by omega) fun H1 av ao S1 A1 _ => ?_
    refine l123_1 hJ (fun i : Nat => F + 1 - i) (fun i Fr H' => ∃ v o, SameX [] H1 H' ∧ i ≤ F + 1 ∧ OwnL H1.length H' v (partG (fun j => (j : Int) - 1) (fun _ => rotasR (F + 1) n) i 0) o ∧ Fr.ds = [] ∧ Fr.r 0 = vint (F : Nat) ∧ Fr.r 5 = v ∧ Fr.r 6 = av ∧ Fr.r 7 = vint ((i : Int) - 1)) ?_ (s := 0)
      (.inl ⟨.slice none 0 0, none, SameX.refl, by omega, by rw [partG_zero]; exact OwnL.nil, rfl, rfl, rfl, rfl, rfl⟩)
    rintro i Fr Hc ⟨v, o, Sc, hi, Lc, ds, r0, r5, r6, r7⟩ okc hnc
    rw [s123_1, r0, r5, r7, ds]
    refine lssI (cndI (fun hlt => ?_) fun hge => ?_)
    rotate_left
    · have : i = F + 1 := by omega
      subst this
      rw [rotas_end] at Lc
      exact retL_same (by simpa using Lc.nunk) (hK Hc v o (S1.trans Sc) (Lc.lo S1.1) Lc.nunk)
    have hiF : i < F + 1 := by omega
    refine l123_2 hJ (fun k : Nat => (rotasR (F + 1) n).length - k) (fun k Fr H' => ∃ v o, SameX [] H1 H' ∧ k ≤ (rotasR (F + 1) n).length ∧ OwnL H1.length H' v (partG (fun j => (j : Int) - 1) (fun _ => rotasR (F + 1) n) i k) o ∧ Fr.ds = [] ∧ Fr.r 0 = vint (F : Nat) ∧ Fr.r 5 = v ∧ Fr.r 6 = av ∧ Fr.r 7 = vint ((i : Int) - 1) ∧ Fr.r 8 = vint (k : Nat)) ?_ (s := 0)
      (.inl ⟨v, o, Sc, by omega, Lc, ds, r0, r5, r6, r7, rfl⟩)
    clear ds r0 r5 r6 r7 okc hnc
    rintro k Fr Hd ⟨v, o, Sd, hk, Ld, ds, r0, r5, r6, r7, r8⟩ okd hnd
    have Ad := A1.keep Sd
    obtain ⟨ac, sA⟩ := Ad.sli
    rw [s123_2, r5, r6, r7, r8]
    refine lenI sA (lssI (cndI (fun hlt3 => ?_) fun hge3 => ?_))
    rotate_left
    · have hke : k = (rotasR (F + 1) n).length := by omega
      subst hke
      refine addI (by omega) ⟨i + 1, by dsimp only; omega, .inl ⟨v, o, Sd, by omega, ?_, ds, r0, r5, r6, ?_⟩⟩
      · have e := partG_all (hd := fun j => (j : Int) - 1) (g := fun _ => rotasR (F + 1) n) (i := i)
        rw [← e]
        exact Ld
      · show vint _ = vint _
        congr 1
        omega
    have hkl : k < (rotasR (F + 1) n).length := by omega
    obtain ⟨w, hw⟩ : ∃ w, (rotasR (F + 1) n)[k]? = some w := ⟨_, List.getElem?_eq_getElem hkl⟩
    have hwl := (rotas_of (List.mem_of_getElem? hw)).1
    have hSd := Sd.1
    have hld := Ld.lt
    refine ⟨by decide, fill_one (l := [vint ((i : Int) - 1)]) rfl rfl rfl (by decide) (fillI (qNew fun He pe ee Se ce le => ?_))⟩
    have ce : He[pe]? = some (.cells [vint ((i : Int) - 1)] true 0) := ce
    refine (Ad.keep Se).get hw fun q wv bw Ow _ => ⟨by decide, app_cons ce (ownX_sli Ow) (by omega) fun Hf wv2 bf Sf Of hbf => ?_⟩
    have hSe := Se.1
    have Tf : SameX [] Hd Hf := Se.thru Sf (by simp; omega)
    have hbfl := ownX_lt Of bf rfl
    obtain ⟨w1, w2, w3⟩ := ownX_val Of
    refine ⟨by decide, fill_one (l := [wv2]) (by rw [w1]) rfl (by simp [w2]) (by decide) (fillI (qNew fun Hg pg eg Sg cg lg => ⟨by decide, ?_⟩))⟩
    have cg : Hg[pg]? = some (.cells [wv2] true 0) := cg
    have Tg := Tf.trans Sg
    have hpl := partG_le (hd := fun j => (j : Int) - 1) (g := fun _ => rotasR (F + 1) n) (i := i) (k := k) (B := 1024) (fun _ => by omega)
    refine ((Ld.keep Tg).more (by have := Tg.1; omega) (by omega) (ownX_keep Of Sg (by simp)) (by omega) (fun e => by have := hld bf e.symm; omega) (ownX_sli (ownX_new (s := 1) (n := 1) (l := [wv2]) cg rfl (by simp [kn]; exact w3))) fun v' Hh o' Sh Lh ho' _ => ?_)
    refine addI (by omega) ⟨k + 1, by dsimp only; omega, .inl ⟨v', some o', (Sd.trans Tg).thru Sh (fun y hy => .inr (hld y (Option.mem_toList.1 hy)).1), by omega, ?_, ds, r0, rfl, r6, r7, by show vint _ = vint _; congr 1⟩⟩
    have e := partG_succ (hd := fun j => (j : Int) - 1) (g := fun _ => rotasR (F + 1) n) (i := i) (k := k) hw
    rw [e]
    exact Lh
theorem good96 (hJ : Closed prog main J) {v fv : Value} {t : Tro} (ht : TroAt H v t fv) (f : TroFine t)
    (hK : ∀ H' w, SameX [] H H' → Found H.length H' w (rotF t) → K (.tuple ⟨[w, .bool (!(rotF t).isNone)]⟩) H') : Good prog J 96 [v] H K := by
  refine g96 hJ fun ok => ?_
  rw [e96, ht.val]
  have kf := (sli_val ht.fl).2.2
  have fl := f.len
  refine qBox (tro_one ht) fun H1 p1 e1 S1 c1 l1 => ?_
  have t1 : TroAt H1 (.agg ⟨troCells t fv⟩) t fv := ⟨rfl, S1.sli ht.fl (by simp)⟩
  refine l96_1 hJ (fun m : Nat => 5 - m) (fun m F H' => SameX [] H1 H' ∧ m ≤ 5 ∧ (∀ j, j < m → growR t (j + 1) [] = none) ∧ F.ds = [] ∧ F.r 1 = ptr p1 0 ∧ F.r 4 = vint ((m + 1 : Nat) : Int)) ?_ (s := 0)
    (.inl ⟨SameX.refl, by omega, fun j hj => absurd hj (Nat.not_lt_zero _), rfl, rfl, rfl⟩)
  rintro m F H' ⟨S, hm, hno, ds, r1, r4⟩ okc hnc
  have c' := S.get c1 (by simp)
  have t' := troAt_same t1 S (by simp)
  rw [s96_1, r1, r4, ds]
  refine leqI (cndI (fun hle => ?_) fun hgt => ?_)
  rotate_left
  · have hO : rotF t = none := firstN_none fun i hi => hno i (by omega)
    refine retL_same (nuA (by simp [unk]) (by simp [unk])) ?_
    have := hK H' (.slice none 0 0) (S1.trans S) (by rw [hO]; rfl)
    rw [hO] at this
    exact this
  refine offI (ldI (v := fv) c' rfl kf (lenI t'.fl ?_))
  refine good123 hJ (F := t.flocks.length) (by omega) (m + 1) (by omega) fun H2 av o S2 L _ => ?_
  have hlen := rotasR_len (t.flocks.length + 1) (m + 1)
  have hbd := rotas_bd (F := t.flocks.length + 1) (n := m + 1) (by omega) (by omega)
  refine l96_2 hJ (fun i : Nat => (rotasR (t.flocks.length + 1) (m + 1)).length - i) (fun i F H' => SameX [] H2 H' ∧ i ≤ (rotasR (t.flocks.length + 1) (m + 1)).length ∧ (∀ j u, j < i → (rotasR (t.flocks.length + 1) (m + 1))[j]? = some u → goodB t u = false) ∧ F.ds = [] ∧ F.r 1 = ptr p1 0 ∧ F.r 4 = vint ((m + 1 : Nat) : Int) ∧ F.r 5 = av ∧ F.r 6 = vint (i : Nat)) ?_ (s := 0)
    (.inl ⟨SameX.refl, by omega, fun j u hj => absurd hj (Nat.not_lt_zero _), ds, r1, r4, rfl, rfl⟩)
  clear ds r1 r4 okc hnc
  rintro i F H3 ⟨S3, hi, hni, ds, r1, r4, r5, r6⟩ okc hnc
  have L' := L.keep S3
  obtain ⟨lc, sL⟩ := L'.sli
  rw [s96_2, r1, r4, r5, r6, ds]
  refine lenI sL (lssI (cndI (fun hlt => ?_) fun hge => ?_))
  rotate_left
  · refine addI (by omega) ⟨m + 1, by dsimp only; omega, .inl ⟨(S.trans S2).trans S3, by omega, fun j hj => ?_, ds, r1, by show vint _ = vint _; congr 1⟩⟩
    by_cases e : j = m
    · rw [e]
      exact rotas_no fun k u hu => hni k u (by have := (List.getElem?_eq_some_iff.1 hu).1; omega) hu
    · exact hno j (by omega)
  have hil : i < (rotasR (t.flocks.length + 1) (m + 1)).length := by omega
  obtain ⟨w, hw⟩ : ∃ w, (rotasR (t.flocks.length + 1) (m + 1))[i]? = some w := ⟨_, List.getElem?_eq_getElem hil⟩
  obtain ⟨hwl, hwb⟩ := rotas_of (List.mem_of_getElem? hw)
  have T3 : SameX [] H' H3 := S2.trans S3
  have t3 := troAt_same t' T3 (by simp)
  have g : RotaFine t w := ⟨by omega, fun x hx => by have := hwb x hx; omega⟩
  refine load_part (c := troCells t fv) (T3.get c' (by simp)) (by simp [troCells]) rfl (tro_kn t3) (L'.get hw fun q wv bw Ow _ => ?_)
  refine good104 hJ t3 (ownX_sli Ow) f g fun H4 S4 => ?_
  have T4 := (S1.trans S).trans (T3.trans S4)
  cases hg : goodB t w with
  | true =>
    have hO : rotF t = some w := firstN_some (k := m) (by omega) hno (rotas_at hw hg hni)
    refine cnd_true.2 ((L'.keep S4).get hw fun q2 wv2 bw2 Ow2 hb2 => retL_same (nuA (own_nunkV Ow2) (by simp [unk])) ?_)
    have hbs : ∃ b, bw2 = some b := by
      obtain ⟨_, _, ⟨h0, _, _⟩ | ⟨b, _, _, e, _⟩⟩ := id Ow2
      · rw [hwl] at h0
        omega
      · exact ⟨b, e⟩
    obtain ⟨b, rfl⟩ := hbs
    have := hK H4 wv2 T4 (by
      rw [hO]
      have := hb2 b rfl
      have h1 := S1.1
      have h2 := S.1
      exact ⟨b, Ow2, by omega⟩)
    rw [hO] at this
    exact this
  | false =>
    refine cnd_false.2 (addI (by omega) ⟨i + 1, by dsimp only; omega, .inl ⟨S3.trans S4, by omega, fun j u hj hju => ?_, ds, r1, r4, r5, by show vint _ = vint _; congr 1⟩⟩)
    by_cases e : j = i
    · rw [e, hw] at hju
      injection hju with hju
      rw [← hju]
      exact hg
    · exact hni j u (by omega) hju
theorem good54 (hJ : Closed prog main J) {v fv : Value} {t : Tro} (ht : TroAt H v t fv) (hl : t.flocks.length ≤ 1000000) (hK : ∀ H' w, SameX [] H H' → Found H.length H' w (rotaA t) → K (.tuple ⟨[w, vint (rotaX t)]⟩) H') : Good prog J 54 [v] H K := by
  refine g54 hJ fun ok => ?_
  rw [e54, ht.val]
  refine qBox (tro_one ht) fun H1 p1 e1 S1 c1 l1 => ?_
  have t1 : TroAt H1 (.agg ⟨troCells t fv⟩) t fv := ⟨rfl, S1.sli ht.fl (by simp)⟩
  refine load_part (c := troCells t fv) c1 (by simp [troCells]) rfl (tro_kn ht) (good49 hJ t1 hl fun H2 S2 => neqI (cndI (fun g1 => ?_) fun g1 => ?_))
  · refine retL_same (nuA (by simp [unk]) (by simp [unk])) ?_
    have := hK H2 (.slice none 0 0) (S1.trans S2) (by unfold rotaA; rw [if_neg g1]; rfl)
    unfold rotaX at this
    rw [if_pos g1] at this
    exact this
  · have hz : troE t = 0 := Decidable.not_not.1 g1
    refine load_part (c := troCells t fv) (S2.get c1 (by simp)) (by simp [troCells]) rfl (tro_kn ht) (good96 hJ (troAt_same t1 S2 (by simp)) (troE_fine hz) fun H3 w S3 F3 => ext0 (ext1 (notI ?_)))
    have h1 := S1.1
    have h2 := S2.1
    have F4 : Found H.length H3 w (rotaA t) := by
      unfold rotaA
      rw [if_pos hz]
      exact F3.to (by omega) (X := []) SameX.refl (by simp)
    have fin := hK H3 w ((S1.trans S2).trans S3) F4
    unfold rotaX at fin
    rw [if_neg (by omega)] at fin
    cases e : rotF t with
    | none =>
      rw [e] at fin F3
      have hw : w = .slice none 0 0 := F3
      subst hw
      exact cnd_true.2 (retL_same (nuA (by simp [unk]) (by simp [unk])) fin)
    | some r =>
      rw [e] at fin
      exact cnd_false.2 (retL_same (nuA F3.unk (by simp [unk])) fin)
end
def ofL (r : List Int) : List Int := r ++ List.replicate (5 - r.length) (-2)
def swL (r : List Int) (i k : Nat) : List Int := (r.set i (r.getD k 0)).set k (r.getD i 0)
def canSw (t : Tro) (r : List Int) (i k : Nat) : Bool := decide (r.getD i 0 ≠ r.getD k 0) && goodB t (swL r i k)
def pairL (i k : Nat) : List Int := [(i : Int), (k : Int)]
def tradRow (t : Tro) (r : List Int) (i : Nat) : Nat → List (List Int)
  | 0 => []
  | k + 1 => tradRow t r i k ++ (if i < k ∧ canSw t r i k = true then [pairL i k] else [])
def tradTo (t : Tro) (r : List Int) : Nat → List (List Int)
  | 0 => []
  | i + 1 => tradTo t r i ++ tradRow t r i r.length
def partT (t : Tro) (r : List Int) (i k : Nat) : List (List Int) := tradTo t r i ++ tradRow t r i k
def tradE (t : Tro) (r : List Int) : Int := if rotaE t r ≠ 0 then rotaE t r else if goodB t r = true then 0 else 9
def tradA (t : Tro) (r : List Int) : List (List Int) := if tradE t r = 0 then tradTo t r r.length else []
section
variable {t : Tro} {r : List Int} {i k : Nat}
theorem ofL_len (h : r.length ≤ 5) : (ofL r).length = 5 := by simp [ofL]; omega
theorem swL_len : (swL r i k).length = r.length := by simp [swL]
theorem getD_mem (h : i < r.length) : r.getD i 0 ∈ r := by
  rw [List.getD_eq_getElem?_getD, List.getElem?_eq_getElem h]
  exact List.getElem_mem h
theorem set_mem {l : List Int} {j : Nat} {x n : Int} (h : n ∈ l.set j x) : n ∈ l ∨ n = x := List.mem_or_eq_of_mem_set h
theorem swL_fine (g : RotaFine t r) (hi : i < r.length) (hk : k < r.length) : RotaFine t (swL r i k) := by
  refine ⟨by rw [swL_len]; exact g.len, fun n hn => ?_⟩
  rcases set_mem hn with hn | rfl
  · rcases set_mem hn with hn | rfl
    · exact g.who n hn
    · exact g.who _ (getD_mem hk)
  · exact g.who _ (getD_mem hi)
theorem swL_of (hl : r.length ≤ 5) (hi : i < r.length) (hk : k < r.length) : ((ofL r).set i (r.getD k 0)).set k (r.getD i 0) = ofL (swL r i k) := by
  unfold ofL
  rw [swL_len, List.set_append_left _ _ hi, List.set_append_left _ _ (by simpa using hk)]
  rfl
theorem ofL_inj {a b : List Int} (h : a.length = b.length) (e : ofL a = ofL b) : a = b := (List.append_inj e h).1
theorem swL_get (hi : i < r.length) (hk : k < r.length) (j : Nat) : (swL r i k)[j]? = if j = k then some (r.getD i 0) else if j = i then some (r.getD k 0) else r[j]? := by
  unfold swL
  rw [List.getElem?_set]
  by_cases e : k = j
  · subst e
    simp [hk]
  · rw [if_neg e, if_neg (fun h => e h.symm), List.getElem?_set]
    by_cases e2 : i = j
    · subst e2
      simp [hi]
    · rw [if_neg e2, if_neg (fun h => e2 h.symm)]
theorem swL_same (hi : i < r.length) (hk : k < r.length) : swL r i k = r ↔ r.getD i 0 = r.getD k 0 := by
  have gi : r[i]? = some (r.getD i 0) := by rw [List.getD_eq_getElem?_getD, List.getElem?_eq_getElem hi]; rfl
  have gk : r[k]? = some (r.getD k 0) := by rw [List.getD_eq_getElem?_getD, List.getElem?_eq_getElem hk]; rfl
  constructor
  · intro e
    have := swL_get hi hk k
    rw [if_pos rfl, e, gk] at this
    injection this with this
    exact this.symm
  · intro e
    apply List.ext_getElem?
    intro j
    rw [swL_get hi hk j]
    by_cases e1 : j = k
    · rw [if_pos e1, e1, gk, e]
    · rw [if_neg e1]
      by_cases e2 : j = i
      · rw [if_pos e2, e2, gi, e]
      · rw [if_neg e2]
theorem swL_back (hi : i < r.length) (hk : k < r.length) (hik : i ≠ k) : swL (swL r i k) i k = r := by
  have hl : (swL r i k).length = r.length := swL_len
  have a : (swL r i k).getD i 0 = r.getD k 0 := by rw [List.getD_eq_getElem?_getD, swL_get hi hk, if_neg hik, if_pos rfl]; rfl
  have b : (swL r i k).getD k 0 = r.getD i 0 := by rw [List.getD_eq_getElem?_getD, swL_get hi hk, if_pos rfl]; rfl
  apply List.ext_getElem?
  intro j
  rw [swL_get (by omega) (by omega), a, b, swL_get hi hk]
  have gi : r[i]? = some (r.getD i 0) := by rw [List.getD_eq_getElem?_getD, List.getElem?_eq_getElem hi]; rfl
  have gk : r[k]? = some (r.getD k 0) := by rw [List.getD_eq_getElem?_getD, List.getElem?_eq_getElem hk]; rfl
  by_cases e1 : j = k
  · rw [if_pos e1, e1, gk]
  · rw [if_neg e1]
    by_cases e2 : j = i
    · rw [if_pos e2, e2, gi]
    · rw [if_neg e2, if_neg e1, if_neg e2]
theorem canSw_back (hi : i < r.length) (hk : k < r.length) (hik : i ≠ k) (hg : goodB t r = true) (hc : canSw t r i k = true) : canSw t (swL r i k) i k = true := by
  unfold canSw at hc ⊢
  have a : (swL r i k).getD i 0 = r.getD k 0 := by rw [List.getD_eq_getElem?_getD, swL_get hi hk, if_neg hik, if_pos rfl]; rfl
  have b : (swL r i k).getD k 0 = r.getD i 0 := by rw [List.getD_eq_getElem?_getD, swL_get hi hk, if_pos rfl]; rfl
  rw [swL_back hi hk hik, a, b, hg]
  simp only [Bool.and_true, Bool.and_eq_true, decide_eq_true_eq, ne_eq] at hc ⊢
  exact fun e => hc.1 e.symm
theorem tradRow_low (h : k ≤ i + 1) : tradRow t r i k = [] := by
  induction k with
  | zero => rfl
  | succ k ih =>
    unfold tradRow
    rw [ih (by omega), if_neg (by omega)]
    rfl
theorem partT_zero : partT t r i (i + 1) = tradTo t r i := by
  unfold partT
  rw [tradRow_low (Nat.le_refl _), List.append_nil]
theorem partT_end (hi : i < r.length) : partT t r i r.length = tradTo t r (i + 1) := rfl
theorem partT_yes (hik : i < k) (hc : canSw t r i k = true) : partT t r i (k + 1) = partT t r i k ++ [pairL i k] := by
  unfold partT
  conv => lhs; unfold tradRow
  rw [if_pos ⟨hik, hc⟩, List.append_assoc]
theorem partT_no (hc : canSw t r i k = false) : partT t r i (k + 1) = partT t r i k := by
  unfold partT
  conv => lhs; unfold tradRow
  rw [if_neg (by rw [hc]; simp), List.append_nil]
theorem tradRow_few : (tradRow t r i k).length ≤ k := by
  induction k with
  | zero => exact Nat.zero_le _
  | succ k ih =>
    unfold tradRow
    rw [List.length_append]
    split
    · simp; omega
    · simp; omega
theorem tradTo_few : (tradTo t r i).length ≤ i * r.length := by
  induction i with
  | zero => simp [tradTo]
  | succ i ih =>
    unfold tradTo
    rw [List.length_append, Nat.succ_mul]
    have := tradRow_few (t := t) (r := r) (i := i) (k := r.length)
    omega
theorem partT_few (g : RotaFine t r) (hi : i ≤ r.length) (hk : k ≤ r.length) : (partT t r i k).length ≤ 30 := by
  have h1 := tradTo_few (t := t) (r := r) (i := i)
  have h2 := tradRow_few (t := t) (r := r) (i := i) (k := k)
  have h3 := g.len.2
  have : i * r.length ≤ 5 * 5 := Nat.mul_le_mul (by omega) (by omega)
  unfold partT
  rw [List.length_append]
  omega
theorem tradTo_pre {m n : Nat} (h : m ≤ n) : ∃ l, tradTo t r n = tradTo t r m ++ l := by
  induction n with
  | zero =>
    have : m = 0 := by omega
    subst this
    exact ⟨[], by simp⟩
  | succ n ih =>
    by_cases e : m = n + 1
    · subst e
      exact ⟨[], by simp⟩
    · obtain ⟨l, hl⟩ := ih (by omega)
      refine ⟨l ++ tradRow t r n r.length, ?_⟩
      conv => lhs; unfold tradTo
      rw [hl, List.append_assoc]
theorem tradRow_pre {m n : Nat} (h : m ≤ n) : ∃ l, tradRow t r i n = tradRow t r i m ++ l := by
  induction n with
  | zero =>
    have : m = 0 := by omega
    subst this
    exact ⟨[], by simp⟩
  | succ n ih =>
    by_cases e : m = n + 1
    · subst e
      exact ⟨[], by simp⟩
    · obtain ⟨l, hl⟩ := ih (by omega)
      refine ⟨l ++ (if i < n ∧ canSw t r i n = true then [pairL i n] else []), ?_⟩
      conv => lhs; unfold tradRow
      rw [hl, List.append_assoc]
theorem partT_pre (hi : i < r.length) (hk : k ≤ r.length) : ∃ l, tradTo t r r.length = partT t r i k ++ l := by
  obtain ⟨l1, h1⟩ := tradTo_pre (t := t) (r := r) (m := i + 1) (n := r.length) (by omega)
  obtain ⟨l2, h2⟩ := tradRow_pre (t := t) (r := r) (i := i) hk
  refine ⟨l2 ++ l1, ?_⟩
  rw [h1]
  conv => lhs; unfold tradTo
  rw [h2]
  unfold partT
  simp only [List.append_assoc]
theorem tradTo_has (hi : i < r.length) (hk : k < r.length) (hik : i < k) (hc : canSw t r i k = true) : pairL i k ∈ tradTo t r r.length := by
  obtain ⟨l, h⟩ := partT_pre (t := t) (r := r) (i := i) (k := k + 1) hi (by omega)
  rw [h, partT_yes hik hc]
  simp
end
theorem teqA (a b c d e a' b' c' d' e' : Int) : teq prog 10000 119 (.agg ⟨[vint a, vint b, vint c, vint d, vint e]⟩) (.agg ⟨[vint a', vint b', vint c', vint d', vint e']⟩) =
    (match some (a == a') with
    | some true => (match some (b == b') with
      | some true => (match some (c == c') with
        | some true => (match some (d == d') with
          | some true => (match some (e == e') with
            | some true => some true
            | some false => some false
            | none => none)
          | some false => some false
          | none => none)
        | some false => some false
        | none => none)
      | some false => some false
      | none => none)
    | some false => some false
    | none => none) := by kernel_rfl
theorem teqA2 {a b : List Int} (ha : a.length = 5) (hb : b.length = 5) : teq prog 10000 119 (.agg ⟨a.map vint⟩) (.agg ⟨b.map vint⟩) = some (decide (a = b)) := by
  match a, ha with
  | [a0, a1, a2, a3, a4], _ =>
    match b, hb with
    | [b0, b1, b2, b3, b4], _ =>
      show teq prog 10000 119 (.agg ⟨[vint a0, vint a1, vint a2, vint a3, vint a4]⟩) (.agg ⟨[vint b0, vint b1, vint b2, vint b3, vint b4]⟩) = _
      rw [teqA]
      by_cases e0 : a0 = b0
      · rw [beq_iff_eq.2 e0]
        by_cases e1 : a1 = b1
        · rw [beq_iff_eq.2 e1]
          by_cases e2 : a2 = b2
          · rw [beq_iff_eq.2 e2]
            by_cases e3 : a3 = b3
            · rw [beq_iff_eq.2 e3]
              by_cases e4 : a4 = b4
              · rw [beq_iff_eq.2 e4]
                simp [e0, e1, e2, e3, e4]
              · rw [beq_eq_false_iff_ne.2 e4]
                simp [e4]
            · rw [beq_eq_false_iff_ne.2 e3]
              simp [e3]
          · rw [beq_eq_false_iff_ne.2 e2]
            simp [e2]
        · rw [beq_eq_false_iff_ne.2 e1]
          simp [e1]
      · rw [beq_eq_false_iff_ne.2 e0]
        simp [e0]
section
variable {main : Bool} {J : JT} {h H : List AObj} {K : Value → List AObj → Prop} {KV : Value → Prop} {HL : List AObj → Prop} {n0 : Nat}
theorem neqArr {a b : List Int} (ha : a.length = 5) (hb : b.length = 5) (hk : KV (.bool (decide (a ≠ b)))) : aBin prog .neq 119 (.agg ⟨a.map vint⟩) (.agg ⟨b.map vint⟩) KV := by
  show aEq prog true 119 _ _ KV
  unfold aEq
  rw [teqA2 ha hb]
  refine ⟨by kernel_rfl, ?_⟩
  simp only [cond_true, ← decide_not]
  exact hk
theorem idxA {s len b : Nat} {j : Nat} (h1 : j < len) (hk : KV (ptr b (j * s))) : aIdxA len s (ptr b 0) (vint (j : Nat)) KV :=
  ⟨⟨by omega, by omega⟩, by rw [Int.toNat_natCast, Nat.zero_add]; exact hk⟩
theorem slA {b n : Nat} (hn : n ≤ 5) (hk : KV (.slice (some ⟨b, 0, none⟩) n 5)) : aSlA 5 1 (ptr b 0) none (some (vint (n : Nat))) KV := by
  have e : bnd 5 (some (vint (n : Nat))) = some n := by
    show (bif decide (0 ≤ (n : Int)) then some (n : Int).toNat else none) = _
    rw [decide_eq_true (by omega)]
    rfl
  unfold aSlA
  simp only [e, ptr]
  exact ⟨⟨Nat.zero_le _, hn, by decide⟩, hk⟩
theorem slA0 {b : Nat} (hk : KV (.slice (some ⟨b, 0, none⟩) 5 5)) : aSlA 5 1 (ptr b 0) none none KV := ⟨⟨Nat.zero_le _, Nat.le_refl _, by decide⟩, hk⟩
theorem kn_vint (l : List Int) : kn (l.map vint) = true := by
  simp [kn, kn1]
theorem one_vint (l : List Int) : (l.map vint).all one = true := by simp [one]
theorem sli_arr {b n : Nat} {c : List Int} {wr : Bool} {sz : Nat} {l : List Int} (hb : H[b]? = some (.cells (c.map vint) wr sz)) (hl : c.take n = l) (hn : n ≤ c.length) : Sli H (.slice (some ⟨b, 0, none⟩) n 5) 1 n (l.map vint) := by
  subst hl
  refine ⟨some ⟨b, 0, none⟩, 5, rfl, ⟨by simp; omega, kn_vint _⟩, .inr ⟨b, 0, rfl, .inr ⟨_, wr, sz, hb, ?_⟩⟩⟩
  rw [List.drop_zero, Nat.mul_one, List.map_take]
theorem copyA {p : Nat} {c : List Value} {rv : Value} {xs : List Int} (hp : H[p]? = some (.cells c true 0)) (hc : c.length = 5) (hs : Sli H rv 1 xs.length (xs.map vint)) (hl : xs.length ≤ 5)
    (hk : ∀ v H', SameX [p] H H' → H'[p]? = some (.cells (wrAt c 0 (xs.map vint)) true 0) → H'.length = H.length → K v H') : aCopy 1 (.slice (some ⟨p, 0, none⟩) 5 5) rv H K := by
  obtain ⟨base, cc, rfl, ⟨hcl, hkn⟩, hh⟩ := id hs
  have em : min xs.length 5 = xs.length := by omega
  unfold aCopy
  simp only [em]
  refine src_sli hs (by omega) ?_
  simp only [hp]
  refine ⟨by omega, hk _ _ (SameX.refl.set (.inl (by simp))) (List.getElem?_set_self (lt_of_get hp)) (by simp)⟩
theorem wrAt_of : ∀ (xs : List Int) (c : List Value), xs.length ≤ c.length → wrAt c 0 (xs.map vint) = xs.map vint ++ c.drop xs.length := by
  have key : ∀ (xs : List Value) (c : List Value) (o : Nat), o + xs.length ≤ c.length → wrAt c o xs = c.take o ++ xs ++ c.drop (o + xs.length) := by
    intro xs
    induction xs with
    | nil => intro c o h; simp [wrAt]
    | cons x xs ih =>
      intro c o h
      simp only [List.length_cons] at h
      unfold wrAt
      rw [ih _ _ (by simp; omega)]
      have h1 : (c.set o x).take (o + 1) = c.take o ++ [x] := by
        rw [List.take_succ_eq_append_getElem (by simp; omega), List.take_set_of_le (Nat.le_refl _)]
        simp
      have h2 : (c.set o x).drop (o + 1 + xs.length) = c.drop (o + (x :: xs).length) := by
        rw [List.drop_set_of_lt (by omega), List.length_cons]
        congr 1
        omega
      rw [h1, h2]
      simp
  intro xs c h
  rw [key _ _ _ (by simpa using h)]
  simp
theorem good100 (hJ : Closed prog main J) {rv : Value} {r : List Int} (hs : Sli H rv 1 r.length (r.map vint)) (hl : r.length ≤ 5) (hK : ∀ H', SameX [] H H' → K (.agg ⟨(ofL r).map vint⟩) H') : Good prog J 100 [rv] H K := by
  refine g100 hJ fun ok => ?_
  rw [e100]
  refine qAl fun H1 p1 e1 S1 c1 l1 => qAl fun H2 p2 e2 S2 c2 l2 => ?_
  refine l100_1 hJ (fun i : Nat => 5 - i) (fun i F H' => i ≤ 5 ∧ SameX [] H H' ∧ H'[p1]? = some (.cells [vint 0, vint 0, vint 0, vint 0, vint 0] true 0) ∧ H'[p2]? = some (.cells ((List.replicate i (-2) ++ List.replicate (5 - i) 0).map vint) true 0) ∧ F.ds = [] ∧ F.r 0 = rv ∧ F.r 2 = ptr p1 0 ∧ F.r 3 = ptr p2 0 ∧ F.r 5 = vint (i : Nat)) ?_ (s := 0)
    (.inl ⟨by omega, S1.trans S2, S2.get c1 (by simp), c2, rfl, rfl, rfl, rfl, rfl⟩)
  rintro i F H' ⟨hi, S, d1, d2, ds, r0, r2, r3, r5⟩ okc hnc
  rw [s100_1, r0, r2, r3, r5]
  have hlt1 := lt_of_get d1
  have hlt2 := lt_of_get d2
  refine lssI (cndI (fun hlt => ?_) fun hge => ?_)
  · refine idxA (by omega) (qSt d2 (by simp; omega) rfl rfl fun H3 S3 c3 l3 => addI (by omega) ⟨i + 1, by dsimp only; omega, .inl ⟨by omega, S.thru S3 (by simp; omega), S3.get d1 (by simp; omega), ?_, ds, r0, r2, r3, by show vint _ = vint _; congr 1⟩⟩)
    rw [c3]
    congr 2
    have : i < 5 := by omega
    have hcase : i = 0 ∨ i = 1 ∨ i = 2 ∨ i = 3 ∨ i = 4 := by omega
    rcases hcase with rfl | rfl | rfl | rfl | rfl <;> rfl
  · have : i = 5 := by omega
    subst this
    refine slA0 ⟨by decide, copyA d2 rfl (S.sli hs (by simp)) hl fun v H3 S3 c3 l3 => ?_⟩
    have e3 : wrAt ((List.replicate 5 (-2 : Int) ++ List.replicate (5 - 5) 0).map vint) 0 (r.map vint) = (ofL r).map vint := by
      rw [wrAt_of _ _ (by simpa using hl)]
      unfold ofL
      conv => rhs; rw [List.map_append]
      congr 1
      have hcase : r.length = 0 ∨ r.length = 1 ∨ r.length = 2 ∨ r.length = 3 ∨ r.length = 4 ∨ r.length = 5 := by omega
      rcases hcase with e | e | e | e | e | e <;> rw [e] <;> rfl
    rw [e3] at c3
    have hol := ofL_len hl
    refine load_part (c := (ofL r).map vint) c3 (by simp [hol]) ?_ (kn_vint _) ?_
    · rw [List.drop_zero, List.take_of_length_le (by simp [hol])]
    · have d1' := S3.get d1 (by simp; omega)
      refine qStA d1' (by simp [hol]) rfl (one_vint _) fun H4 S4 c4 l4 => ?_
      refine retQ_same ds (resW_cell (gg := true) (s := 5) (by kernel_rfl) ?_)
      show aLoad true 5 (F.r 2) H4 _
      rw [r2]
      refine load_part (c := (ofL r).map vint) c4 (by simp [hol]) ?_ (kn_vint _) (resW_nil (hK H4 ?_))
      · rw [List.drop_zero, List.take_of_length_le (by simp [hol])]
      · have T : SameX [] H H3 := S.thru S3 (by simp; omega)
        exact T.thru S4 (by simp; omega)
end
end Go.Proofs.Ytindillghipjjaa
namespace Go.Proofs.Ytindillghipjjaa
open Go.Conc Go.Proofs.Try
set_option maxRecDepth 100000
set_option maxHeartbeats 4000000
set_option linter.unusedVariables false
section
variable {main : Bool} {J : JT} {n0 : Nat} {h : List AObj} {K : Value → List AObj → Prop}
theorem at3 : prog.funcs[3]? = some f3 := by kernel_rfl
theorem body3 : f3.body = some (codeOf f3) := by kernel_rfl
def pl3 : Plans := [(14, false, .take 0 (.take 1 (.take 2 (.take 3 (.take 5 (.take 6 (.take 7 (.take 8 (.alt 4 true (.alt 9 false (.last 10 true (.last 11 false (.take 12 (.fin)))) (.last 10 true (.last 9 false (.last 11 false (.take 12 (.fin)))))) (.last 10 true (.last 4 true (.last 9 false (.last 11 false (.take 12 (.fin))))))))))))))),
  (16, true, .take 0 (.take 1 (.take 2 (.take 3 (.take 4 (.take 5 (.take 6 (.take 7 (.last 8 false (.take 9 (.take 10 (.take 11 (.take 12 (.take 13 (.take 14 (.take 15 (.fin))))))))))))))))),
  (17, false, .take 0 (.take 1 (.take 2 (.take 3 (.take 4 (.take 5 (.take 6 (.take 7 (.take 8 (.take 9 (.take 10 (.last 11 true (.take 12 (.take 13 (.take 14 (.take 15 (.take 16 (.take 17 (.take 18 (.take 19 (.last 20 true (.take 21 (.take 22 (.take 23 (.take 24 (.take 25 (.take 26 (.take 27 (.take 28 (.last 29 true (.take 30 (.take 31 (.fin)))))))))))))))))))))))))))))))))]
def ct3 : Cuts := .bin (.go) (.bin (.go) (.bin (.go) (.bin (.go) (.bin (.go) (.bin (.go) (.bin (.go) (.bin (.bin (.go) (.un (.un (.bin (.go) (.bin (.un (.bin (.go) (.cut (.bin (.go) (.bin (.go) (.bin (.go) (.cut (.go)))))))) (.go)))))) (.go))))))))
theorem pok3 : plansOk prog pl3 (codeOf f3) = true := by kernel_rfl
theorem e3 {a0 a1 a2 : Value} : W prog J 124 h.length 3 (codeOf f3) (RG.mk (regs [a0, a1, a2]) []) h (RetQ prog [.tmp 6] h.length K) =
(aBox a0 h fun v1 h2 =>
aLoad true 4 v1 h2 fun v3 =>
Good prog J 18 [v3, a1] h2 fun v4 h5 =>
cnd v4
(Good prog J 19 [] h5 fun v6 h7 =>
retL h.length K [] [v6] h7)
(Good prog J 20 [a2] h5 fun v8 h9 =>
Good prog J 21 [v8, (vint 3), (vint 20)] h9 fun v10 h11 =>
aAlloc [(vint 0), (vint 0), (vint 0), (Value.slice none 0 0)] h11 fun v12 h13 =>
aStore 4 v12 v10 h13 fun h14 =>
Sem J 124 h.length 3 (subC [1, 1, 1, 1, 1, 0, 1, 0] (codeOf f3)) (RG.p (RG.p (RG.p (RG.p (RG.p (RG.p (RG.p (RG.p (RG.p (RG.p (RG.p (RG.p (RG.p (RG.mk (regs [a0, a1, a2]) []) 3 v1) 6 (Value.bool false)) 22 v3) 23 a1) 24 v4) 26 a2) 27 v8) 7 v8) 28 v8) 29 v10) 8 v12) 9 (Value.slice none 0 0)) 10 (vint 0)) h14 (contX pl3 prog J 124 h.length 3 ct3 [1, 1, 1, 1, 1, 0, 1, 0] (codeOf f3) [] (RetQ prog [.tmp 6] h.length K)))) := top_eq pok3 ct3 (by kernel_rfl)
theorem g3 (hJ : Closed prog main J) {a0 a1 a2 : Value} (hs : heapOk h → W prog J 124 h.length 3 (codeOf f3) (RG.mk (regs [a0, a1, a2]) []) h (RetQ prog [.tmp 6] h.length K)) : Good prog J 3 [a0, a1, a2] h K :=
  good_of_W hJ mixed at3 body3 (by kernel_rfl) (Nat.le_of_ble_eq_true rfl) hs
end
section
variable {main : Bool} {J : JT} {n0 : Nat} {h : List AObj} {K : Value → List AObj → Prop}
theorem at6 : prog.funcs[6]? = some f6 := by kernel_rfl
theorem body6 : f6.body = some (codeOf f6) := by kernel_rfl
def pl6 : Plans := [(14, true, .take 0 (.take 1 (.take 2 (.take 3 (.take 4 (.take 5 (.last 6 false (.take 7 (.fin))))))))),
  (15, true, .take 0 (.take 1 (.take 2 (.take 3 (.take 4 (.take 5 (.take 6 (.take 7 (.take 8 (.take 9 (.take 10 (.take 11 (.take 12 (.last 13 false (.take 14 (.take 15 (.take 16 (.fin)))))))))))))))))),
  (19, false, .take 0 (.take 1 (.take 2 (.take 3 (.take 4 (.take 5 (.take 6 (.take 7 (.last 8 true (.take 9 (.take 10 (.take 11 (.take 12 (.take 13 (.take 14 (.take 15 (.take 16 (.take 17 (.last 18 true (.take 19 (.take 20 (.take 21 (.last 22 true (.take 23 (.take 24 (.fin))))))))))))))))))))))))))]
def ct6 : Cuts := .bin (.go) (.bin (.go) (.bin (.go) (.bin (.go) (.bin (.go) (.bin (.go) (.bin (.go) (.bin (.go) (.bin (.bin (.go) (.un (.un (.bin (.go) (.bin (.un (.bin (.go) (.bin (.go) (.cut (.go))))) (.go)))))) (.go)))))))))
theorem pok6 : plansOk prog pl6 (codeOf f6) = true := by kernel_rfl
theorem e6 {a0 : Value} : W prog J 120 h.length 6 (codeOf f6) (RG.mk (regs [a0]) []) h (RetQ prog [.tmp 2] h.length K) =
(Good prog J 20 [a0] h fun v1 h2 =>
Good prog J 21 [v1, (vint 3), (vint 20)] h2 fun v3 h4 =>
aAlloc [(vint 0), (vint 0), (vint 0), (Value.slice none 0 0)] h4 fun v5 h6 =>
aStore 4 v5 v3 h6 fun h7 =>
Sem J 120 h.length 6 (subC [1, 1, 1, 1, 0, 1, 0] (codeOf f6)) (RG.p (RG.p (RG.p (RG.p (RG.p (RG.p (RG.p (RG.p (RG.p (RG.p (RG.mk (regs [a0]) []) 2 (Value.bool false)) 15 a0) 16 v1) 3 v1) 17 v1) 18 v3) 4 v5) 5 (Value.slice none 0 0)) 6 (Value.slice none 0 0)) 7 (vint 0)) h7 (contX pl6 prog J 120 h.length 6 ct6 [1, 1, 1, 1, 0, 1, 0] (codeOf f6) [] (RetQ prog [.tmp 2] h.length K))) := top_eq pok6 ct6 (by kernel_rfl)
theorem g6 (hJ : Closed prog main J) {a0 : Value} (hs : heapOk h → W prog J 120 h.length 6 (codeOf f6) (RG.mk (regs [a0]) []) h (RetQ prog [.tmp 2] h.length K)) : Good prog J 6 [a0] h K :=
  good_of_W hJ mixed at6 body6 (by kernel_rfl) (Nat.le_of_ble_eq_true rfl) hs
end
end Go.Proofs.Ytindillghipjjaa
namespace Go.Proofs.Ytindillghipjjaa
open Go.Conc Go.Proofs.Try
set_option maxRecDepth 100000
def Best (t : Tro) (cs : List Int) (H : List AObj) (i : Nat) (a b : Value) : Prop :=
  (pickTo (waits26 t cs) i < 0 ∧ a = .slice none 0 0 ∧ b = vint (-1)) ∨ ∃ (j : Nat) (os : List Nat), pickTo (waits26 t cs) i = j ∧ (allOf26 cs)[j]? = some os ∧ Sli H a 1 os.length (nvs os) ∧ a ≠ unk ∧ b = vint ((waits26 t cs).getD j 0)
theorem Best.same {t : Tro} {cs : List Int} {H H' : List AObj} {i : Nat} {a b : Value} (B : Best t cs H i a b) (S : SameX [] H H') : Best t cs H' i a b := by
  rcases B with h | ⟨j, os, h1, h2, h3, h4, h5⟩
  · exact .inl h
  · exact .inr ⟨j, os, h1, h2, S.sli h3 (by simp), h4, h5⟩
structure Sm (h H : List AObj) : Prop where
  len : h.length ≤ H.length
  get : ∀ (i : Nat) (x : AObj), h[i]? = some x → H[i]? = some x ∨ (∃ cap, x = .chan cap) ∧ H[i]? = some .dead
theorem Sm.refl {h : List AObj} : Sm h h := ⟨Nat.le_refl _, fun _ _ h => .inl h⟩
theorem Sm.of {h H : List AObj} (S : SameX [] h H) : Sm h H := ⟨S.1, fun i x hx => .inl (S.get hx (by simp))⟩
theorem Sm.unch {h H : List AObj} (S : SameX [] (unch h) H) : Sm h H := ⟨by have := S.1; rwa [unch_len] at this, fun i x hx => by
  have h1 : (Go.Proofs.Ytindillghipjjaa.unch h)[i]? = some (unchO x) := by
    unfold Go.Proofs.Ytindillghipjjaa.unch
    rw [List.getElem?_map, hx]
    rfl
  have h2 := S.get h1 (by simp)
  cases x with
  | chan cap => exact .inr ⟨⟨cap, rfl⟩, h2⟩
  | _ => exact .inl h2⟩
theorem Sm.trans {h H G : List AObj} (a : Sm h H) (b : Sm H G) : Sm h G := ⟨Nat.le_trans a.1 b.1, fun i x hx => by
  rcases a.2 i x hx with h1 | ⟨h1, h2⟩
  · exact b.2 i x h1
  · rcases b.2 i _ h2 with h3 | ⟨⟨cap, h3⟩, _⟩
    · exact .inr ⟨h1, h3⟩
    · cases h3⟩
theorem Sm.at {h H : List AObj} (a : Sm h H) {i : Nat} {c : List Value} {wr : Bool} {sz : Nat} (hx : h[i]? = some (.cells c wr sz)) : H[i]? = some (.cells c wr sz) := by
  rcases a.2 i _ hx with h1 | ⟨⟨cap, h1⟩, _⟩
  · exact h1
  · cases h1
theorem Sm.sli {h H : List AObj} (a : Sm h H) {v : Value} {s n : Nat} {cs : List Value} (hs : Sli h v s n cs) : Sli H v s n cs := by
  obtain ⟨base, c, rfl, hk, hh⟩ := hs
  refine ⟨base, c, rfl, hk, hh.imp id ?_⟩
  rintro ⟨b, o, e, h0⟩
  exact ⟨b, o, e, h0.imp id fun ⟨cs, wr, sz, hb, ht⟩ => ⟨cs, wr, sz, a.at hb, ht⟩⟩
section
variable {W0 : World} {Post : Value → World → Prop} {h H : List AObj} {K : Value → List AObj → Prop} {n0 : Nat} {nx0 : RG → List AObj → Prop}
theorem same28 {main : Bool} {J : JT} (hJ : Closed prog main J) {av bv : Value} {l : List Int} (ha : Sli H av 1 l.length (l.map vint)) (hb : Sli H bv 1 l.length (l.map vint)) (hl : l.length < 1000000) (hK : K (.bool true) H) : Good prog J 28 [av, bv] H K :=
  good28 hJ ha hb (by omega) (by rw [decide_eq_true rfl]; exact hK)
end
def TradO (t : Tro) (r : List Int) (n : Nat) (H : List AObj) (w : Value) : Prop := ∃ o, OwnL n H w (tradA t r) o
theorem fillP {a b : Int} {KL : List Value → Prop} (hk : KL ([a, b].map vint)) : aFill (zrep [vint 0] 2) [(0, 1, vint a), (1, 1, vint b)] KL := by
  unfold aFill
  refine ⟨rfl, rfl, by decide, ?_⟩
  unfold aFill
  refine ⟨rfl, rfl, by rw [wrAt_length]; decide, ?_⟩
  unfold aFill
  exact hk
theorem cndBI {b : Bool} {A B : Prop} (h1 : b = true → A) (h2 : b = false → B) : cnd (.bool b) A B := by
  cases b
  · exact cnd_false.2 (h2 rfl)
  · exact cnd_true.2 (h1 rfl)
theorem RotaFine.small {t : Tro} {r : List Int} (g : RotaFine t r) : ∀ i, i < r.length → r[i]? = some (r.getD i 0) := fun i hi => by
  rw [List.getD_eq_getElem?_getD, List.getElem?_eq_getElem hi]; rfl
section
variable {main : Bool} {J : JT} {h H : List AObj} {K : Value → List AObj → Prop} {KV : Value → Prop} {HL : List AObj → Prop} {n0 : Nat}
theorem mapBlk_sli {v : Value} {s n : Nat} {c : List Value} (hs : Sli H v s n c) : mapBlk v = none := by
  obtain ⟨base, c, rfl, _⟩ := id hs
  rfl
theorem pair_more {lo i k : Nat} {ls : List (List Int)} {o : Option Nat} {v : Value} (L : OwnL lo H v ls o) (hlo : lo ≤ H.length) (hl : ls.length < 90000)
    (hK : ∀ v' H' o', SameX o.toList H H' → OwnL lo H' v' (ls ++ [pairL i k]) (some o') → H.length ≤ o' → v' ≠ unk → K v' H') :
    (((2 * 1 : Nat) ≤ 16777216 ∧ (2 : Nat) ≤ 16777216 ∧ List.length [(vint 0)] = 1) ∧ aFill (zrep [(vint 0)] 2) [(0, 1, vint (i : Nat)), (1, 1, vint (k : Nat))] fun c1 => aNewS 2 c1 H fun v2 h3 =>
      (((1 * 1 : Nat) ≤ 16777216 ∧ (1 : Nat) ≤ 16777216 ∧ List.length [(Value.slice none 0 0)] = 1) ∧ aFill (zrep [(Value.slice none 0 0)] 1) [(0, 1, v2)] fun c4 => aNewS 1 c4 h3 fun v5 h6 =>
        ((List.length [(Value.slice none 0 0)] = 1 ∧ 0 < (1 : Nat) ∧ 0 < (24 : Nat) ∧ (24 : Nat) ≤ 1024) ∧ aApp 1 v v5 h6 K))) := by
  refine ⟨by decide, fillP (qNew fun H1 p1 e1 S1 c1 l1 => ⟨by decide, fill_one (l := [.slice (some ⟨p1, 0, none⟩) 2 2]) rfl rfl rfl (by decide) (fillI (qNew fun H2 p2 e2 S2 c2 l2 => ⟨by decide, ?_⟩))⟩)⟩
  have c1 : H1[p1]? = some (.cells ((pairL i k).map vint) true 0) := c1
  have c2 : H2[p2]? = some (.cells [.slice (some ⟨p1, 0, none⟩) 2 2] true 0) := c2
  have h1 := S1.1
  have h2 := S2.1
  have hol := L.lt
  refine ((L.keep S1).keep S2).more (by omega) hl (ownX_keep (ownX_new (s := 1) (n := 2) c1 rfl rfl) S2 (by simp)) (by omega) (fun e => by have := hol p1 e.symm; omega) (ownX_sli (ownX_new (s := 1) (n := 1) c2 rfl rfl)) fun v' H' o' S' L' ho hn => ?_
  refine hK v' H' o' ?_ L' (by omega) hn
  have S12 : SameX o.toList H H2 := (S1.trans S2).weak0
  exact S12.trans S'
theorem good59 (hJ : Closed prog main J) {v fv rv : Value} {t : Tro} {r : List Int} (ht : TroAt H v t fv) (hr : Sli H rv 1 r.length (r.map vint)) (hl : t.flocks.length ≤ 1000000)
    (hK : ∀ H' w, SameX [] H H' → TradO t r H.length H' w → w ≠ unk → K (.tuple ⟨[w, vint (tradE t r)]⟩) H') : Good prog J 59 [v, rv] H K := by
  refine g59 hJ fun ok => ?_
  rw [e59, ht.val]
  refine qBox (tro_one ht) fun H1 p1 e1 S1 c1 l1 => ?_
  have tk := tro_kn ht
  have t1 : TroAt H1 (.agg ⟨troCells t fv⟩) t fv := ⟨rfl, S1.sli ht.fl (by simp)⟩
  refine load_part (c := troCells t fv) c1 (by simp [troCells]) rfl tk (good86 hJ t1 (S1.sli hr (by simp)) hl (neqI (cndI (fun g1 => ?_) fun g1 => ?_)))
  · have he : tradE t r = rotaE t r := by unfold tradE; rw [if_pos g1]
    have := hK H1 (.slice none 0 0) S1 ⟨none, by unfold tradA; rw [if_neg (by omega)]; exact OwnL.nil⟩ (by simp [unk])
    rw [he] at this
    exact retL_same (nuA (by simp [unk]) (by simp [unk])) this
  have g0 : rotaE t r = 0 := by omega
  obtain ⟨f, g⟩ := rotaE_fine g0
  refine load_part (c := troCells t fv) c1 (by simp [troCells]) rfl tk (good99 hJ t1 (S1.sli hr (by simp)) f g fun H2 S2 => notI (cndBI (fun gb => ?_) fun gb => ?_))
  · have gb : goodB t r = false := by simpa using gb
    have he : tradE t r = 9 := by unfold tradE; rw [if_neg (by omega), if_neg (by rw [gb]; simp)]
    have := hK H2 (.slice none 0 0) (S1.trans S2) ⟨none, by unfold tradA; rw [if_neg (by omega)]; exact OwnL.nil⟩ (by simp [unk])
    rw [he] at this
    exact retL_same (nuA (by simp [unk]) (by simp [unk])) this
  have gb : goodB t r = true := by simpa using gb
  have he : tradE t r = 0 := by unfold tradE; rw [if_neg (by omega), if_pos gb]
  have ha : tradA t r = tradTo t r r.length := by unfold tradA; rw [if_pos he]
  have gl := g.len
  have T2 := S1.trans S2
  have hT2 := T2.1
  refine lenI (T2.sli hr (by simp)) ?_
  refine l59_1 hJ (fun i : Nat => r.length - i) (fun i F H' => ∃ w o, SameX [] H2 H' ∧ i ≤ r.length ∧ OwnL H2.length H' w (tradTo t r i) o ∧ F.ds = [] ∧ F.r 1 = rv ∧ F.r 2 = ptr p1 0 ∧ F.r 7 = w ∧ F.r 22 = vint (r.length : Nat) ∧ F.r 23 = vint (i : Nat)) ?_ (s := 0)
    (.inl ⟨.slice none 0 0, none, SameX.refl, by omega, OwnL.nil, rfl, rfl, rfl, rfl, rfl, rfl⟩)
  rintro i F H' ⟨w, o, S, hi, L, ds, r1, r2, r7, r22, r23⟩ okc hnc
  rw [s59_1, r22, r23, r7, ds]
  refine lssI (cndI (fun hlt => ?_) fun hge => ?_)
  rotate_left
  · have : i = r.length := by omega
    subst this
    have := hK H' w (T2.trans S) ⟨o, by rw [ha]; exact L.lo hT2⟩ L.nunk
    rw [he] at this
    exact retL_same (nuA L.nunk (by simp [unk])) this
  have hil : i < r.length := by omega
  refine addI (by omega) ?_
  refine l59_2 hJ (fun k : Nat => r.length - k) (fun k F H' => ∃ w o, SameX [] H2 H' ∧ i + 1 ≤ k ∧ k ≤ r.length ∧ OwnL H2.length H' w (partT t r i k) o ∧ F.ds = [] ∧ F.r 1 = rv ∧ F.r 2 = ptr p1 0 ∧ F.r 7 = w ∧ F.r 8 = vint (i : Nat) ∧ F.r 22 = vint (r.length : Nat) ∧ F.r 23 = vint (i : Nat) ∧ F.r 9 = vint (k : Nat)) ?_ (s := i + 1)
    (.inl ⟨w, o, S, by omega, by omega, by rw [partT_zero]; exact L, ds, r1, r2, r7, rfl, r22, r23, by show vint _ = vint _; congr 1⟩)
  clear ds r1 r2 r7 r22 r23 okc hnc L S
  rintro k F Hc ⟨w, o, S, hk1, hk, L, ds, r1, r2, r7, r8, r22, r23, r9⟩ okc hnc
  have T := T2.trans S
  rw [s59_2, r1, r2, r8, r9, r23]
  refine lenI (T.sli hr (by simp)) (lssI (cndI (fun hltk => ?_) fun hgek => ?_))
  rotate_left
  · have hkl : k = r.length := by omega
    subst hkl
    exact addI (by omega) ⟨i + 1, by dsimp only; omega, .inl ⟨w, o, S, by omega, L, ds, r1, r2, r7, r22, by show vint _ = vint _; congr 1⟩⟩
  have hkl : k < r.length := by omega
  have gi := g.small i hil
  have gk := g.small k hkl
  have hol := ofL_len gl.2
  have hpf := partT_few (t := t) (i := i) (k := k) g (by omega) (by omega)
  -- the next pair
  have next : ∀ {b : Bool} {F2 : RG} {H4 : List AObj}, b = canSw t r i k → SameX [] Hc H4 → F2.ds = [] → F2.r 1 = rv → F2.r 2 = ptr p1 0 → F2.r 7 = w → F2.r 8 = vint (i : Nat) → F2.r 9 = vint (k : Nat) → F2.r 22 = vint (r.length : Nat) → F2.r 23 = vint (i : Nat) → F2.r 58 = .bool b →
      W prog J 67 H.length 59 (subC [1, 1, 1, 1, 0, 1, 0, 0, 1, 1, 0, 0, 1, 1, 0, 0, 1, 0, 0, 1, 1, 1, 1] (codeOf f59)) F2 H4 (contX pl59 prog J 67 H.length 59 ct59 [1, 1, 1, 1, 0, 1, 0, 0, 1, 1, 0, 0, 1, 1, 0, 0, 1, 0, 0, 1, 1, 1, 1] (codeOf f59)
        [Nx H.length (fun i : Nat => r.length - i) (fun i F H' => ∃ w o, SameX [] H2 H' ∧ i ≤ r.length ∧ OwnL H2.length H' w (tradTo t r i) o ∧ F.ds = [] ∧ F.r 1 = rv ∧ F.r 2 = ptr p1 0 ∧ F.r 7 = w ∧ F.r 22 = vint (r.length : Nat) ∧ F.r 23 = vint (i : Nat)) i,
         Nx H.length (fun k : Nat => r.length - k) (fun k F H' => ∃ w o, SameX [] H2 H' ∧ i + 1 ≤ k ∧ k ≤ r.length ∧ OwnL H2.length H' w (partT t r i k) o ∧ F.ds = [] ∧ F.r 1 = rv ∧ F.r 2 = ptr p1 0 ∧ F.r 7 = w ∧ F.r 8 = vint (i : Nat) ∧ F.r 22 = vint (r.length : Nat) ∧ F.r 23 = vint (i : Nat) ∧ F.r 9 = vint (k : Nat)) k]
        (RetQ prog [.tmp 4, .tmp 5] H.length K)) := by
    intro b F2 H4 hb S4 q0 q1 q2 q7 q8 q9 q22 q23 q58
    rw [s59_3, q58, q7, q8, q9]
    have hSl := S.1
    have hS4 := S4.1
    have hL := L.lt
    cases b with
    | true =>
      refine cnd_true.2 (pair_more (L.keep S4) (by omega) (by omega) fun v' H5 o5 S5 L5 ho5 hn5 => addI (by omega) ⟨k + 1, by dsimp only; omega, .inl ⟨v', some o5, ?_, by omega, by omega, ?_, q0, q1, q2, rfl, q8, q22, q23, by show vint _ = vint _; congr 1⟩⟩)
      · exact (S.trans S4).thru S5 fun y hy => .inr (hL y (Option.mem_toList.1 hy)).1
      · rw [partT_yes (by omega) hb.symm]
        exact L5
    | false =>
      refine cnd_false.2 (addI (by omega) ⟨k + 1, by dsimp only; omega, .inl ⟨w, o, S.trans S4, by omega, by omega, ?_, q0, q1, q2, q7, q8, q22, q23, by show vint _ = vint _; congr 1⟩⟩)
      rw [partT_no hb.symm]
      exact L.keep S4
  refine good100 hJ (T.sli hr (by simp)) gl.2 fun H3 S3 => ?_
  refine qAl fun H4 p4 e4 S4 c4 l4 => ?_
  refine qStA (c := (ofL r).map vint) c4 (by simp [hol]) rfl (one_vint _) fun H5 S5 c5 l5 => ?_
  have hs3 := S3.1
  have T5 : SameX [] Hc H5 := (S3.trans S4).thru S5 (by simp; omega)
  refine sli_num' ((T.trans T5).sli hr (by simp)) gk fun q => idxA (by omega) ?_
  rw [Nat.mul_one]
  refine qSt c5 (by simp [hol]; omega) rfl rfl fun H6 S6 c6 l6 => ?_
  have T6 : SameX [] Hc H6 := T5.thru S6 (by simp; omega)
  refine sli_num' ((T.trans T6).sli hr (by simp)) gi fun q => idxA (by omega) ?_
  rw [Nat.mul_one]
  refine qSt c6 (by simp [hol]; omega) rfl rfl fun H7 S7 c7 l7 => ?_
  have T7 : SameX [] Hc H7 := T6.thru S7 (by simp; omega)
  rw [← List.map_set, ← List.map_set, swL_of gl.2 hil hkl] at c7
  have gs := swL_fine g hil hkl
  have hos := ofL_len gs.len.2
  have hlt7 := lt_of_get c7
  have dp := ((S2.trans S).trans T7).get c1 (by simp)
  have hltp := lt_of_get dp
  refine ⟨[p4, p1], load_part (c := (ofL (swL r i k)).map vint) c7 (by simp [hos]) (by rw [List.drop_zero, List.take_of_length_le (by simp [hos])]) (kn_vint _) ⟨by simp [RdOk, ptr, ptrBlk], ?_⟩⟩
  have sb : ∀ {H''}, SameX [] H7 H'' → SameB (some [p4, p1]) H7 H'' := fun S'' b hb => S''.2 b (by simp at hb; rcases hb with rfl | rfl <;> omega) (by simp)
  refine good100 hJ ((T.trans T7).sli hr (by simp)) gl.2 fun H8 S8 => ⟨sb S8, ?_⟩
  refine neqArr hos hol (cndI (fun hne => ?_) fun heq => ?_)
  · have hsw : swL r i k ≠ r := fun e => hne (by rw [e])
    have c8 := S8.get c7 (by simp)
    have t8 := troAt_same t1 ((S2.trans S).trans (T7.trans S8)) (by simp)
    refine load_part (c := troCells t fv) (S8.get dp (by simp)) (by simp [troCells]) rfl tk ⟨by simp [RdOk, ptr, ptrBlk], ?_⟩
    refine lenI ((T.trans (T7.trans S8)).sli hr (by simp)) ⟨by simp [RdOk, mapBlk_sli hr], slA gl.2 ⟨sb S8, ?_⟩⟩
    have hsl : Sli H8 (.slice (some ⟨p4, 0, none⟩) r.length 5) 1 (swL r i k).length ((swL r i k).map vint) := by
      rw [swL_len]
      exact sli_arr c8 (by unfold ofL; rw [List.take_left' swL_len]) (by omega)
    refine good99 hJ t8 hsl f gs fun H9 S9 => ⟨sb (S8.trans S9), hold.2 (next (b := goodB t (swL r i k)) ?_ ((T7.trans S8).trans S9) ds r1 r2 r7 r8 r9 r22 r23 rfl)⟩
    unfold canSw
    rw [decide_eq_true (show r.getD i 0 ≠ r.getD k 0 from fun e => hsw ((swL_same hil hkl).2 e))]
    rfl
  · have hsw : swL r i k = r := by
      have := Classical.not_not.1 heq
      exact ofL_inj swL_len this
    refine hold.2 (next (b := false) ?_ (T7.trans S8) ds r1 r2 r7 r8 r9 r22 r23 rfl)
    unfold canSw
    rw [decide_eq_false (by rw [ne_eq, Classical.not_not]; exact (swL_same hil hkl).1 hsw)]
    rfl
end
end Go.Proofs.Ytindillghipjjaa
namespace Go.Proofs.Ytindillghipjjaa
open Go.Conc Go.Proofs.Try
set_option maxRecDepth 100000
set_option maxHeartbeats 4000000
set_option linter.unusedVariables false
section
variable {main : Bool} {J : JT} {n0 : Nat} {h : List AObj} {K : Value → List AObj → Prop}
def pl13 : Plans := [(3, false, .take 0 (.take 1 (.last 2 true (.last 3 true (.last 4 false (.take 5 (.fin))))))),
  (14, false, .take 0 (.take 1 (.take 2 (.take 3 (.take 4 (.take 5 (.take 6 (.take 7 (.take 8 (.take 9 (.take 10 (.take 11 (.take 12 (.take 13 (.take 14 (.take 15 (.take 16 (.take 17 (.take 18 (.take 19 (.take 20 (.take 21 (.take 22 (.take 23 (.take 24 (.take 25 (.last 26 true (.take 27 (.take 28 (.take 29 (.take 30 (.take 31 (.take 32 (.take 33 (.take 34 (.last 35 false (.take 36 (.take 37 (.fin)))))))))))))))))))))))))))))))))))))))]
def ct13 : Cuts := .bin (.go) (.bin (.go) (.bin (.go) (.bin (.bin (.go) (.un (.un (.bin (.go) (.bin (.un (.bin (.go) (.bin (.go) (.bin (.go) (.bin (.go) (.bin (.go) (.bin (.go) (.bin (.go) (.bin (.go) (.cut (.go))))))))))) (.go)))))) (.go))))
theorem pok13 : plansOk prog pl13 (codeOf f13) = true := by kernel_rfl
theorem e13 {a0 a1 : Value} : W prog J 117 h.length 13 (codeOf f13) (RG.mk (regs [a0, a1]) []) h (RetQ prog [.tmp 4] h.length K) =
(aBox a0 h fun v1 h2 =>
aLoad true 4 v1 h2 fun v3 =>
Good prog J 18 [v3, (Value.slice none 0 0)] h2 fun v4 h5 =>
cnd v4
(Good prog J 19 [] h5 fun v6 h7 =>
retL h.length K [] [v6] h7)
((∃ B, aLoad true 4 v1 h5 fun v8 =>
RdOk (some B) (ptrBlk v1) ∧ (Good prog J 20 [a1] h5 fun v9 h10 =>
SameB (some B) h5 h10 ∧ (Good prog J 21 [v9, (vint 2), (vint 10)] h10 fun v11 h12 =>
SameB (some B) h5 h12 ∧ ((((2 * 4 : Nat) ≤ 16777216 ∧ (2 : Nat) ≤ 16777216 ∧ List.length [(vint 0), (vint 0), (vint 0), (Value.slice none 0 0)] = 4) ∧ aFill (zrep [(vint 0), (vint 0), (vint 0), (Value.slice none 0 0)] 2) [(0, 4, v8), (4, 4, v11)] fun c13 =>
aNewS 2 c13 h12 fun v14 h15 =>
Sem J 117 h.length 13 (subC [1, 1, 1, 0, 1, 0] (codeOf f13)) (RG.p (RG.p (RG.p (RG.p (RG.p (RG.p (RG.p (RG.p (RG.p (RG.p (RG.p (RG.mk (regs [a0, a1]) []) 2 v1) 4 (Value.bool false)) 20 v3) 21 v4) 23 v8) 24 a1) 25 v9) 26 v11) 27 v14) 5 v14) 6 (vint 0)) h15 (contX pl13 prog J 117 h.length 13 ct13 [1, 1, 1, 0, 1, 0] (codeOf f13) [] (RetQ prog [.tmp 4] h.length K))))))))) := top_eq pok13 ct13 (by kernel_rfl)
end
section
variable {main : Bool} {J : JT} {n0 : Nat} {h : List AObj} {K : Value → List AObj → Prop}
def pl8 : Plans := [(5, false, .take 0 (.take 1 (.take 2 (.take 4 (.take 5 (.take 6 (.take 8 (.take 10 (.take 11 (.take 13 (.alt 3 true (.last 7 true (.alt 9 true (.last 12 true (.take 15 (.take 16 (.last 14 true (.take 17 (.fin)))))) (.last 12 true (.take 15 (.alt 9 true (.take 16 (.last 14 true (.take 17 (.fin)))) (.last 14 true (.last 9 true (.take 16 (.take 17 (.fin)))))))))) (.last 7 true (.alt 3 true (.alt 9 true (.last 12 true (.take 15 (.take 16 (.last 14 true (.take 17 (.fin)))))) (.last 12 true (.take 15 (.alt 9 true (.take 16 (.last 14 true (.take 17 (.fin)))) (.last 14 true (.last 9 true (.take 16 (.take 17 (.fin))))))))) (.alt 9 true (.alt 3 true (.last 12 true (.take 15 (.take 16 (.last 14 true (.take 17 (.fin)))))) (.last 12 true (.alt 3 true (.take 15 (.take 16 (.last 14 true (.take 17 (.fin))))) (.last 14 true (.last 3 true (.take 15 (.take 16 (.take 17 (.fin))))))))) (.last 12 true (.alt 3 true (.take 15 (.alt 9 true (.take 16 (.last 14 true (.take 17 (.fin)))) (.last 14 true (.last 9 true (.take 16 (.take 17 (.fin))))))) (.alt 9 true (.alt 3 true (.take 15 (.take 16 (.last 14 true (.take 17 (.fin))))) (.last 14 true (.last 3 true (.take 15 (.take 16 (.take 17 (.fin))))))) (.last 14 true (.alt 3 true (.take 15 (.last 9 true (.take 16 (.take 17 (.fin))))) (.last 9 true (.last 3 true (.take 15 (.take 16 (.take 17 (.fin))))))))))))))))))))))))),
  (9, false, .take 0 (.take 1 (.take 2 (.take 3 (.take 5 (.take 6 (.take 7 (.take 8 (.alt 4 true (.alt 9 false (.last 10 true (.last 11 false (.take 12 (.fin)))) (.last 10 true (.last 9 false (.last 11 false (.take 12 (.fin)))))) (.last 10 true (.last 4 true (.last 9 false (.last 11 false (.take 12 (.fin))))))))))))))),
  (10, true, .take 0 (.take 1 (.take 2 (.take 3 (.take 4 (.take 5 (.last 6 false (.take 7 (.take 8 (.take 9 (.take 10 (.take 11 (.fin))))))))))))),
  (11, true, .take 0 (.take 1 (.take 2 (.take 3 (.take 4 (.take 5 (.take 6 (.take 7 (.take 8 (.take 9 (.take 10 (.take 11 (.last 12 false (.take 13 (.take 14 (.take 15 (.take 16 (.take 17 (.fin))))))))))))))))))),
  (12, true, .take 0 (.take 1 (.take 2 (.take 3 (.take 4 (.take 5 (.last 6 false (.take 7 (.take 8 (.take 9 (.take 10 (.take 11 (.fin))))))))))))),
  (13, true, .take 0 (.take 1 (.take 2 (.take 3 (.take 4 (.take 5 (.take 6 (.take 7 (.take 8 (.take 9 (.take 10 (.take 11 (.last 12 false (.take 13 (.take 14 (.take 15 (.take 16 (.take 17 (.fin))))))))))))))))))),
  (14, false, .take 0 (.take 2 (.take 3 (.take 4 (.take 5 (.last 1 true (.last 6 true (.take 7 (.take 8 (.take 9 (.take 10 (.take 11 (.take 12 (.take 13 (.take 14 (.take 15 (.take 16 (.take 17 (.take 18 (.take 19 (.take 20 (.last 21 true (.take 22 (.take 23 (.take 24 (.take 25 (.take 26 (.last 27 true (.take 28 (.take 29 (.take 30 (.take 31 (.take 32 (.take 33 (.take 34 (.take 35 (.last 36 true (.take 37 (.take 38 (.take 39 (.take 40 (.take 41 (.take 42 (.take 43 (.take 44 (.last 45 true (.take 46 (.take 47 (.fin)))))))))))))))))))))))))))))))))))))))))))))))))]
def ct8 : Cuts := .bin (.go) (.bin (.go) (.bin (.go) (.bin (.go) (.bin (.go) (.cut (.bin (.bin (.go) (.un (.un (.bin (.go) (.bin (.un (.bin (.go) (.cut (.bin (.go) (.bin (.go) (.cut (.bin (.go) (.bin (.go) (.cut (.bin (.go) (.cut (.go)))))))))))) (.go)))))) (.go)))))))
theorem pok8 : plansOk prog pl8 (codeOf f8) = true := by kernel_rfl
theorem e8 {a0 a1 a2 a3 : Value} : W prog J 165 h.length 8 (codeOf f8) (RG.mk (regs [a0, a1, a2, a3]) []) h (RetQ prog [.tmp 8] h.length K) =
(aBox a0 h fun v1 h2 =>
aLoad true 4 v1 h2 fun v3 =>
Good prog J 18 [v3, a1] h2 fun v4 h5 =>
cnd v4
(Good prog J 19 [] h5 fun v6 h7 =>
retL h.length K [] [v6] h7)
(Good prog J 20 [a3] h5 fun v8 h9 =>
Good prog J 21 [v8, (vint 3), (vint 20)] h9 fun v10 h11 =>
aAlloc [(vint 0), (vint 0), (vint 0), (Value.slice none 0 0)] h11 fun v12 h13 =>
aStore 4 v12 v10 h13 fun h14 =>
(∃ B, aLoad true 4 v1 h14 fun v15 =>
RdOk (some B) (ptrBlk v1) ∧ (aLoad true 4 v12 h14 fun v16 =>
RdOk (some B) (ptrBlk v12) ∧ (aLoad true 4 v12 h14 fun v17 =>
RdOk (some B) (ptrBlk v12) ∧ (aLoad true 4 v12 h14 fun v18 =>
RdOk (some B) (ptrBlk v12) ∧ (((((3 * 4 : Nat) ≤ 16777216 ∧ (3 : Nat) ≤ 16777216 ∧ List.length [(vint 0), (vint 0), (vint 0), (Value.slice none 0 0)] = 4) ∧ aFill (zrep [(vint 0), (vint 0), (vint 0), (Value.slice none 0 0)] 3) [(0, 4, v15), (4, 4, v16), (8, 4, v17)] fun c19 =>
aNewS 3 c19 h14 fun v20 h21 =>
SameB (some B) h14 h21 ∧ (Good prog J 36 [v8, v18, (vint 5)] h21 fun v22 h23 =>
SameB (some B) h14 h23 ∧ (((((3 * 1 : Nat) ≤ 16777216 ∧ (3 : Nat) ≤ 16777216 ∧ List.length [(Value.slice none 0 0)] = 1) ∧ aFill (zrep [(Value.slice none 0 0)] 3) [(0, 1, a1), (1, 1, v22), (2, 1, a1)] fun c24 =>
aNewS 3 c24 h23 fun v25 h26 =>
SameB (some B) h14 h26 ∧ (Good prog J 33 [v8, (vint 1), (vint 48)] h26 fun v27 h28 =>
SameB (some B) h14 h28 ∧ ((((3 * 1 : Nat) ≤ 16777216 ∧ (3 : Nat) ≤ 16777216 ∧ List.length [(vint 0)] = 1) ∧ aFill (zrep [(vint 0)] 3) [(0, 1, a2), (1, 1, v27), (2, 1, a2)] fun c29 =>
aNewS 3 c29 h28 fun v30 h31 =>
SameB (some B) h14 h31 ∧ (Hold (W prog J 165 h.length 8 (subC [1, 1, 1, 1, 1] (codeOf f8)) (RG.p (RG.p (RG.p (RG.p (RG.p (RG.p (RG.p (RG.p (RG.p (RG.p (RG.p (RG.p (RG.p (RG.p (RG.p (RG.p (RG.p (RG.p (RG.p (RG.p (RG.p (RG.p (RG.p (RG.p (RG.p (RG.p (RG.p (RG.p (RG.p (RG.mk (regs [a0, a1, a2, a3]) []) 4 v1) 8 (Value.bool false)) 25 v3) 26 a1) 27 v4) 29 a3) 30 v8) 9 v8) 31 v8) 32 v10) 10 v12) 33 v15) 34 v16) 35 v17) 37 a1) 38 v8) 39 v18) 41 a1) 43 a2) 44 v8) 46 a2) 36 v20) 40 v22) 42 v25) 45 v27) 11 v20) 12 v25) 47 v30) 13 v30) h31 (contX pl8 prog J 165 h.length 8 ct8 [1, 1, 1, 1, 1] (codeOf f8) [] (RetQ prog [.tmp 8] h.length K))))))))) ∧ (Good prog J 33 [v8, (vint 1), (vint 48)] h23 fun v32 h33 =>
SameB (some B) h14 h33 ∧ (((((3 * 1 : Nat) ≤ 16777216 ∧ (3 : Nat) ≤ 16777216 ∧ List.length [(Value.slice none 0 0)] = 1) ∧ aFill (zrep [(Value.slice none 0 0)] 3) [(0, 1, a1), (1, 1, v22), (2, 1, a1)] fun c34 =>
aNewS 3 c34 h33 fun v35 h36 =>
SameB (some B) h14 h36 ∧ ((((3 * 1 : Nat) ≤ 16777216 ∧ (3 : Nat) ≤ 16777216 ∧ List.length [(vint 0)] = 1) ∧ aFill (zrep [(vint 0)] 3) [(0, 1, a2), (1, 1, v32), (2, 1, a2)] fun c37 =>
aNewS 3 c37 h36 fun v38 h39 =>
SameB (some B) h14 h39 ∧ (Hold (W prog J 165 h.length 8 (subC [1, 1, 1, 1, 1] (codeOf f8)) (RG.p (RG.p (RG.p (RG.p (RG.p (RG.p (RG.p (RG.p (RG.p (RG.p (RG.p (RG.p (RG.p (RG.p (RG.p (RG.p (RG.p (RG.p (RG.p (RG.p (RG.p (RG.p (RG.p (RG.p (RG.p (RG.p (RG.p (RG.p (RG.p (RG.mk (regs [a0, a1, a2, a3]) []) 4 v1) 8 (Value.bool false)) 25 v3) 26 a1) 27 v4) 29 a3) 30 v8) 9 v8) 31 v8) 32 v10) 10 v12) 33 v15) 34 v16) 35 v17) 37 a1) 38 v8) 39 v18) 41 a1) 43 a2) 44 v8) 46 a2) 36 v20) 40 v22) 45 v32) 11 v20) 42 v35) 12 v35) 47 v38) 13 v38) h39 (contX pl8 prog J 165 h.length 8 ct8 [1, 1, 1, 1, 1] (codeOf f8) [] (RetQ prog [.tmp 8] h.length K)))))))) ∧ ((((3 * 1 : Nat) ≤ 16777216 ∧ (3 : Nat) ≤ 16777216 ∧ List.length [(vint 0)] = 1) ∧ aFill (zrep [(vint 0)] 3) [(0, 1, a2), (1, 1, v32), (2, 1, a2)] fun c40 =>
aNewS 3 c40 h33 fun v41 h42 =>
SameB (some B) h14 h42 ∧ ((((3 * 1 : Nat) ≤ 16777216 ∧ (3 : Nat) ≤ 16777216 ∧ List.length [(Value.slice none 0 0)] = 1) ∧ aFill (zrep [(Value.slice none 0 0)] 3) [(0, 1, a1), (1, 1, v22), (2, 1, a1)] fun c43 =>
aNewS 3 c43 h42 fun v44 h45 =>
SameB (some B) h14 h45 ∧ (Hold (W prog J 165 h.length 8 (subC [1, 1, 1, 1, 1] (codeOf f8)) (RG.p (RG.p (RG.p (RG.p (RG.p (RG.p (RG.p (RG.p (RG.p (RG.p (RG.p (RG.p (RG.p (RG.p (RG.p (RG.p (RG.p (RG.p (RG.p (RG.p (RG.p (RG.p (RG.p (RG.p (RG.p (RG.p (RG.p (RG.p (RG.p (RG.mk (regs [a0, a1, a2, a3]) []) 4 v1) 8 (Value.bool false)) 25 v3) 26 a1) 27 v4) 29 a3) 30 v8) 9 v8) 31 v8) 32 v10) 10 v12) 33 v15) 34 v16) 35 v17) 37 a1) 38 v8) 39 v18) 41 a1) 43 a2) 44 v8) 46 a2) 36 v20) 40 v22) 45 v32) 11 v20) 47 v41) 42 v44) 12 v44) 13 v41) h45 (contX pl8 prog J 165 h.length 8 ct8 [1, 1, 1, 1, 1] (codeOf f8) [] (RetQ prog [.tmp 8] h.length K)))))))))))))) ∧ (Good prog J 36 [v8, v18, (vint 5)] h14 fun v46 h47 =>
SameB (some B) h14 h47 ∧ (((((3 * 4 : Nat) ≤ 16777216 ∧ (3 : Nat) ≤ 16777216 ∧ List.length [(vint 0), (vint 0), (vint 0), (Value.slice none 0 0)] = 4) ∧ aFill (zrep [(vint 0), (vint 0), (vint 0), (Value.slice none 0 0)] 3) [(0, 4, v15), (4, 4, v16), (8, 4, v17)] fun c48 =>
aNewS 3 c48 h47 fun v49 h50 =>
SameB (some B) h14 h50 ∧ (((((3 * 1 : Nat) ≤ 16777216 ∧ (3 : Nat) ≤ 16777216 ∧ List.length [(Value.slice none 0 0)] = 1) ∧ aFill (zrep [(Value.slice none 0 0)] 3) [(0, 1, a1), (1, 1, v46), (2, 1, a1)] fun c51 =>
aNewS 3 c51 h50 fun v52 h53 =>
SameB (some B) h14 h53 ∧ (Good prog J 33 [v8, (vint 1), (vint 48)] h53 fun v54 h55 =>
SameB (some B) h14 h55 ∧ ((((3 * 1 : Nat) ≤ 16777216 ∧ (3 : Nat) ≤ 16777216 ∧ List.length [(vint 0)] = 1) ∧ aFill (zrep [(vint 0)] 3) [(0, 1, a2), (1, 1, v54), (2, 1, a2)] fun c56 =>
aNewS 3 c56 h55 fun v57 h58 =>
SameB (some B) h14 h58 ∧ (Hold (W prog J 165 h.length 8 (subC [1, 1, 1, 1, 1] (codeOf f8)) (RG.p (RG.p (RG.p (RG.p (RG.p (RG.p (RG.p (RG.p (RG.p (RG.p (RG.p (RG.p (RG.p (RG.p (RG.p (RG.p (RG.p (RG.p (RG.p (RG.p (RG.p (RG.p (RG.p (RG.p (RG.p (RG.p (RG.p (RG.p (RG.p (RG.mk (regs [a0, a1, a2, a3]) []) 4 v1) 8 (Value.bool false)) 25 v3) 26 a1) 27 v4) 29 a3) 30 v8) 9 v8) 31 v8) 32 v10) 10 v12) 33 v15) 34 v16) 35 v17) 37 a1) 38 v8) 39 v18) 41 a1) 43 a2) 44 v8) 46 a2) 40 v46) 36 v49) 42 v52) 45 v54) 11 v49) 12 v52) 47 v57) 13 v57) h58 (contX pl8 prog J 165 h.length 8 ct8 [1, 1, 1, 1, 1] (codeOf f8) [] (RetQ prog [.tmp 8] h.length K))))))))) ∧ (Good prog J 33 [v8, (vint 1), (vint 48)] h50 fun v59 h60 =>
SameB (some B) h14 h60 ∧ (((((3 * 1 : Nat) ≤ 16777216 ∧ (3 : Nat) ≤ 16777216 ∧ List.length [(Value.slice none 0 0)] = 1) ∧ aFill (zrep [(Value.slice none 0 0)] 3) [(0, 1, a1), (1, 1, v46), (2, 1, a1)] fun c61 =>
aNewS 3 c61 h60 fun v62 h63 =>
SameB (some B) h14 h63 ∧ ((((3 * 1 : Nat) ≤ 16777216 ∧ (3 : Nat) ≤ 16777216 ∧ List.length [(vint 0)] = 1) ∧ aFill (zrep [(vint 0)] 3) [(0, 1, a2), (1, 1, v59), (2, 1, a2)] fun c64 =>
aNewS 3 c64 h63 fun v65 h66 =>
SameB (some B) h14 h66 ∧ (Hold (W prog J 165 h.length 8 (subC [1, 1, 1, 1, 1] (codeOf f8)) (RG.p (RG.p (RG.p (RG.p (RG.p (RG.p (RG.p (RG.p (RG.p (RG.p (RG.p (RG.p (RG.p (RG.p (RG.p (RG.p (RG.p (RG.p (RG.p (RG.p (RG.p (RG.p (RG.p (RG.p (RG.p (RG.p (RG.p (RG.p (RG.p (RG.mk (regs [a0, a1, a2, a3]) []) 4 v1) 8 (Value.bool false)) 25 v3) 26 a1) 27 v4) 29 a3) 30 v8) 9 v8) 31 v8) 32 v10) 10 v12) 33 v15) 34 v16) 35 v17) 37 a1) 38 v8) 39 v18) 41 a1) 43 a2) 44 v8) 46 a2) 40 v46) 36 v49) 45 v59) 11 v49) 42 v62) 12 v62) 47 v65) 13 v65) h66 (contX pl8 prog J 165 h.length 8 ct8 [1, 1, 1, 1, 1] (codeOf f8) [] (RetQ prog [.tmp 8] h.length K)))))))) ∧ ((((3 * 1 : Nat) ≤ 16777216 ∧ (3 : Nat) ≤ 16777216 ∧ List.length [(vint 0)] = 1) ∧ aFill (zrep [(vint 0)] 3) [(0, 1, a2), (1, 1, v59), (2, 1, a2)] fun c67 =>
aNewS 3 c67 h60 fun v68 h69 =>
SameB (some B) h14 h69 ∧ ((((3 * 1 : Nat) ≤ 16777216 ∧ (3 : Nat) ≤ 16777216 ∧ List.length [(Value.slice none 0 0)] = 1) ∧ aFill (zrep [(Value.slice none 0 0)] 3) [(0, 1, a1), (1, 1, v46), (2, 1, a1)] fun c70 =>
aNewS 3 c70 h69 fun v71 h72 =>
SameB (some B) h14 h72 ∧ (Hold (W prog J 165 h.length 8 (subC [1, 1, 1, 1, 1] (codeOf f8)) (RG.p (RG.p (RG.p (RG.p (RG.p (RG.p (RG.p (RG.p (RG.p (RG.p (RG.p (RG.p (RG.p (RG.p (RG.p (RG.p (RG.p (RG.p (RG.p (RG.p (RG.p (RG.p (RG.p (RG.p (RG.p (RG.p (RG.p (RG.p (RG.p (RG.mk (regs [a0, a1, a2, a3]) []) 4 v1) 8 (Value.bool false)) 25 v3) 26 a1) 27 v4) 29 a3) 30 v8) 9 v8) 31 v8) 32 v10) 10 v12) 33 v15) 34 v16) 35 v17) 37 a1) 38 v8) 39 v18) 41 a1) 43 a2) 44 v8) 46 a2) 40 v46) 36 v49) 45 v59) 11 v49) 47 v68) 42 v71) 12 v71) 13 v68) h72 (contX pl8 prog J 165 h.length 8 ct8 [1, 1, 1, 1, 1] (codeOf f8) [] (RetQ prog [.tmp 8] h.length K))))))))))))) ∧ ((((3 * 1 : Nat) ≤ 16777216 ∧ (3 : Nat) ≤ 16777216 ∧ List.length [(Value.slice none 0 0)] = 1) ∧ aFill (zrep [(Value.slice none 0 0)] 3) [(0, 1, a1), (1, 1, v46), (2, 1, a1)] fun c73 =>
aNewS 3 c73 h47 fun v74 h75 =>
SameB (some B) h14 h75 ∧ (((((3 * 4 : Nat) ≤ 16777216 ∧ (3 : Nat) ≤ 16777216 ∧ List.length [(vint 0), (vint 0), (vint 0), (Value.slice none 0 0)] = 4) ∧ aFill (zrep [(vint 0), (vint 0), (vint 0), (Value.slice none 0 0)] 3) [(0, 4, v15), (4, 4, v16), (8, 4, v17)] fun c76 =>
aNewS 3 c76 h75 fun v77 h78 =>
SameB (some B) h14 h78 ∧ (Good prog J 33 [v8, (vint 1), (vint 48)] h78 fun v79 h80 =>
SameB (some B) h14 h80 ∧ ((((3 * 1 : Nat) ≤ 16777216 ∧ (3 : Nat) ≤ 16777216 ∧ List.length [(vint 0)] = 1) ∧ aFill (zrep [(vint 0)] 3) [(0, 1, a2), (1, 1, v79), (2, 1, a2)] fun c81 =>
aNewS 3 c81 h80 fun v82 h83 =>
SameB (some B) h14 h83 ∧ (Hold (W prog J 165 h.length 8 (subC [1, 1, 1, 1, 1] (codeOf f8)) (RG.p (RG.p (RG.p (RG.p (RG.p (RG.p (RG.p (RG.p (RG.p (RG.p (RG.p (RG.p (RG.p (RG.p (RG.p (RG.p (RG.p (RG.p (RG.p (RG.p (RG.p (RG.p (RG.p (RG.p (RG.p (RG.p (RG.p (RG.p (RG.p (RG.mk (regs [a0, a1, a2, a3]) []) 4 v1) 8 (Value.bool false)) 25 v3) 26 a1) 27 v4) 29 a3) 30 v8) 9 v8) 31 v8) 32 v10) 10 v12) 33 v15) 34 v16) 35 v17) 37 a1) 38 v8) 39 v18) 41 a1) 43 a2) 44 v8) 46 a2) 40 v46) 42 v74) 36 v77) 45 v79) 11 v77) 12 v74) 47 v82) 13 v82) h83 (contX pl8 prog J 165 h.length 8 ct8 [1, 1, 1, 1, 1] (codeOf f8) [] (RetQ prog [.tmp 8] h.length K))))))))) ∧ (Good prog J 33 [v8, (vint 1), (vint 48)] h75 fun v84 h85 =>
SameB (some B) h14 h85 ∧ (((((3 * 4 : Nat) ≤ 16777216 ∧ (3 : Nat) ≤ 16777216 ∧ List.length [(vint 0), (vint 0), (vint 0), (Value.slice none 0 0)] = 4) ∧ aFill (zrep [(vint 0), (vint 0), (vint 0), (Value.slice none 0 0)] 3) [(0, 4, v15), (4, 4, v16), (8, 4, v17)] fun c86 =>
aNewS 3 c86 h85 fun v87 h88 =>
SameB (some B) h14 h88 ∧ ((((3 * 1 : Nat) ≤ 16777216 ∧ (3 : Nat) ≤ 16777216 ∧ List.length [(vint 0)] = 1) ∧ aFill (zrep [(vint 0)] 3) [(0, 1, a2), (1, 1, v84), (2, 1, a2)] fun c89 =>
aNewS 3 c89 h88 fun v90 h91 =>
SameB (some B) h14 h91 ∧ (Hold (W prog J 165 h.length 8 (subC [1, 1, 1, 1, 1] (codeOf f8)) (RG.p (RG.p (RG.p (RG.p (RG.p (RG.p (RG.p (RG.p (RG.p (RG.p (RG.p (RG.p (RG.p (RG.p (RG.p (RG.p (RG.p (RG.p (RG.p (RG.p (RG.p (RG.p (RG.p (RG.p (RG.p (RG.p (RG.p (RG.p (RG.p (RG.mk (regs [a0, a1, a2, a3]) []) 4 v1) 8 (Value.bool false)) 25 v3) 26 a1) 27 v4) 29 a3) 30 v8) 9 v8) 31 v8) 32 v10) 10 v12) 33 v15) 34 v16) 35 v17) 37 a1) 38 v8) 39 v18) 41 a1) 43 a2) 44 v8) 46 a2) 40 v46) 42 v74) 45 v84) 36 v87) 11 v87) 12 v74) 47 v90) 13 v90) h91 (contX pl8 prog J 165 h.length 8 ct8 [1, 1, 1, 1, 1] (codeOf f8) [] (RetQ prog [.tmp 8] h.length K)))))))) ∧ ((((3 * 1 : Nat) ≤ 16777216 ∧ (3 : Nat) ≤ 16777216 ∧ List.length [(vint 0)] = 1) ∧ aFill (zrep [(vint 0)] 3) [(0, 1, a2), (1, 1, v84), (2, 1, a2)] fun c92 =>
aNewS 3 c92 h85 fun v93 h94 =>
SameB (some B) h14 h94 ∧ ((((3 * 4 : Nat) ≤ 16777216 ∧ (3 : Nat) ≤ 16777216 ∧ List.length [(vint 0), (vint 0), (vint 0), (Value.slice none 0 0)] = 4) ∧ aFill (zrep [(vint 0), (vint 0), (vint 0), (Value.slice none 0 0)] 3) [(0, 4, v15), (4, 4, v16), (8, 4, v17)] fun c95 =>
aNewS 3 c95 h94 fun v96 h97 =>
SameB (some B) h14 h97 ∧ (Hold (W prog J 165 h.length 8 (subC [1, 1, 1, 1, 1] (codeOf f8)) (RG.p (RG.p (RG.p (RG.p (RG.p (RG.p (RG.p (RG.p (RG.p (RG.p (RG.p (RG.p (RG.p (RG.p (RG.p (RG.p (RG.p (RG.p (RG.p (RG.p (RG.p (RG.p (RG.p (RG.p (RG.p (RG.p (RG.p (RG.p (RG.p (RG.mk (regs [a0, a1, a2, a3]) []) 4 v1) 8 (Value.bool false)) 25 v3) 26 a1) 27 v4) 29 a3) 30 v8) 9 v8) 31 v8) 32 v10) 10 v12) 33 v15) 34 v16) 35 v17) 37 a1) 38 v8) 39 v18) 41 a1) 43 a2) 44 v8) 46 a2) 40 v46) 42 v74) 45 v84) 47 v93) 36 v96) 11 v96) 12 v74) 13 v93) h97 (contX pl8 prog J 165 h.length 8 ct8 [1, 1, 1, 1, 1] (codeOf f8) [] (RetQ prog [.tmp 8] h.length K))))))))))))) ∧ (Good prog J 33 [v8, (vint 1), (vint 48)] h47 fun v98 h99 =>
SameB (some B) h14 h99 ∧ (((((3 * 4 : Nat) ≤ 16777216 ∧ (3 : Nat) ≤ 16777216 ∧ List.length [(vint 0), (vint 0), (vint 0), (Value.slice none 0 0)] = 4) ∧ aFill (zrep [(vint 0), (vint 0), (vint 0), (Value.slice none 0 0)] 3) [(0, 4, v15), (4, 4, v16), (8, 4, v17)] fun c100 =>
aNewS 3 c100 h99 fun v101 h102 =>
SameB (some B) h14 h102 ∧ (((((3 * 1 : Nat) ≤ 16777216 ∧ (3 : Nat) ≤ 16777216 ∧ List.length [(Value.slice none 0 0)] = 1) ∧ aFill (zrep [(Value.slice none 0 0)] 3) [(0, 1, a1), (1, 1, v46), (2, 1, a1)] fun c103 =>
aNewS 3 c103 h102 fun v104 h105 =>
SameB (some B) h14 h105 ∧ ((((3 * 1 : Nat) ≤ 16777216 ∧ (3 : Nat) ≤ 16777216 ∧ List.length [(vint 0)] = 1) ∧ aFill (zrep [(vint 0)] 3) [(0, 1, a2), (1, 1, v98), (2, 1, a2)] fun c106 =>
aNewS 3 c106 h105 fun v107 h108 =>
SameB (some B) h14 h108 ∧ (Hold (W prog J 165 h.length 8 (subC [1, 1, 1, 1, 1] (codeOf f8)) (RG.p (RG.p (RG.p (RG.p (RG.p (RG.p (RG.p (RG.p (RG.p (RG.p (RG.p (RG.p (RG.p (RG.p (RG.p (RG.p (RG.p (RG.p (RG.p (RG.p (RG.p (RG.p (RG.p (RG.p (RG.p (RG.p (RG.p (RG.p (RG.p (RG.mk (regs [a0, a1, a2, a3]) []) 4 v1) 8 (Value.bool false)) 25 v3) 26 a1) 27 v4) 29 a3) 30 v8) 9 v8) 31 v8) 32 v10) 10 v12) 33 v15) 34 v16) 35 v17) 37 a1) 38 v8) 39 v18) 41 a1) 43 a2) 44 v8) 46 a2) 40 v46) 45 v98) 36 v101) 11 v101) 42 v104) 12 v104) 47 v107) 13 v107) h108 (contX pl8 prog J 165 h.length 8 ct8 [1, 1, 1, 1, 1] (codeOf f8) [] (RetQ prog [.tmp 8] h.length K)))))))) ∧ ((((3 * 1 : Nat) ≤ 16777216 ∧ (3 : Nat) ≤ 16777216 ∧ List.length [(vint 0)] = 1) ∧ aFill (zrep [(vint 0)] 3) [(0, 1, a2), (1, 1, v98), (2, 1, a2)] fun c109 =>
aNewS 3 c109 h102 fun v110 h111 =>
SameB (some B) h14 h111 ∧ ((((3 * 1 : Nat) ≤ 16777216 ∧ (3 : Nat) ≤ 16777216 ∧ List.length [(Value.slice none 0 0)] = 1) ∧ aFill (zrep [(Value.slice none 0 0)] 3) [(0, 1, a1), (1, 1, v46), (2, 1, a1)] fun c112 =>
aNewS 3 c112 h111 fun v113 h114 =>
SameB (some B) h14 h114 ∧ (Hold (W prog J 165 h.length 8 (subC [1, 1, 1, 1, 1] (codeOf f8)) (RG.p (RG.p (RG.p (RG.p (RG.p (RG.p (RG.p (RG.p (RG.p (RG.p (RG.p (RG.p (RG.p (RG.p (RG.p (RG.p (RG.p (RG.p (RG.p (RG.p (RG.p (RG.p (RG.p (RG.p (RG.p (RG.p (RG.p (RG.p (RG.p (RG.mk (regs [a0, a1, a2, a3]) []) 4 v1) 8 (Value.bool false)) 25 v3) 26 a1) 27 v4) 29 a3) 30 v8) 9 v8) 31 v8) 32 v10) 10 v12) 33 v15) 34 v16) 35 v17) 37 a1) 38 v8) 39 v18) 41 a1) 43 a2) 44 v8) 46 a2) 40 v46) 45 v98) 36 v101) 11 v101) 47 v110) 42 v113) 12 v113) 13 v110) h114 (contX pl8 prog J 165 h.length 8 ct8 [1, 1, 1, 1, 1] (codeOf f8) [] (RetQ prog [.tmp 8] h.length K))))))))))) ∧ ((((3 * 1 : Nat) ≤ 16777216 ∧ (3 : Nat) ≤ 16777216 ∧ List.length [(Value.slice none 0 0)] = 1) ∧ aFill (zrep [(Value.slice none 0 0)] 3) [(0, 1, a1), (1, 1, v46), (2, 1, a1)] fun c115 =>
aNewS 3 c115 h99 fun v116 h117 =>
SameB (some B) h14 h117 ∧ (((((3 * 4 : Nat) ≤ 16777216 ∧ (3 : Nat) ≤ 16777216 ∧ List.length [(vint 0), (vint 0), (vint 0), (Value.slice none 0 0)] = 4) ∧ aFill (zrep [(vint 0), (vint 0), (vint 0), (Value.slice none 0 0)] 3) [(0, 4, v15), (4, 4, v16), (8, 4, v17)] fun c118 =>
aNewS 3 c118 h117 fun v119 h120 =>
SameB (some B) h14 h120 ∧ ((((3 * 1 : Nat) ≤ 16777216 ∧ (3 : Nat) ≤ 16777216 ∧ List.length [(vint 0)] = 1) ∧ aFill (zrep [(vint 0)] 3) [(0, 1, a2), (1, 1, v98), (2, 1, a2)] fun c121 =>
aNewS 3 c121 h120 fun v122 h123 =>
SameB (some B) h14 h123 ∧ (Hold (W prog J 165 h.length 8 (subC [1, 1, 1, 1, 1] (codeOf f8)) (RG.p (RG.p (RG.p (RG.p (RG.p (RG.p (RG.p (RG.p (RG.p (RG.p (RG.p (RG.p (RG.p (RG.p (RG.p (RG.p (RG.p (RG.p (RG.p (RG.p (RG.p (RG.p (RG.p (RG.p (RG.p (RG.p (RG.p (RG.p (RG.p (RG.mk (regs [a0, a1, a2, a3]) []) 4 v1) 8 (Value.bool false)) 25 v3) 26 a1) 27 v4) 29 a3) 30 v8) 9 v8) 31 v8) 32 v10) 10 v12) 33 v15) 34 v16) 35 v17) 37 a1) 38 v8) 39 v18) 41 a1) 43 a2) 44 v8) 46 a2) 40 v46) 45 v98) 42 v116) 36 v119) 11 v119) 12 v116) 47 v122) 13 v122) h123 (contX pl8 prog J 165 h.length 8 ct8 [1, 1, 1, 1, 1] (codeOf f8) [] (RetQ prog [.tmp 8] h.length K)))))))) ∧ ((((3 * 1 : Nat) ≤ 16777216 ∧ (3 : Nat) ≤ 16777216 ∧ List.length [(vint 0)] = 1) ∧ aFill (zrep [(vint 0)] 3) [(0, 1, a2), (1, 1, v98), (2, 1, a2)] fun c124 =>
aNewS 3 c124 h117 fun v125 h126 =>
SameB (some B) h14 h126 ∧ ((((3 * 4 : Nat) ≤ 16777216 ∧ (3 : Nat) ≤ 16777216 ∧ List.length [(vint 0), (vint 0), (vint 0), (Value.slice none 0 0)] = 4) ∧ aFill (zrep [(vint 0), (vint 0), (vint 0), (Value.slice none 0 0)] 3) [(0, 4, v15), (4, 4, v16), (8, 4, v17)] fun c127 =>
aNewS 3 c127 h126 fun v128 h129 =>
SameB (some B) h14 h129 ∧ (Hold (W prog J 165 h.length 8 (subC [1, 1, 1, 1, 1] (codeOf f8)) (RG.p (RG.p (RG.p (RG.p (RG.p (RG.p (RG.p (RG.p (RG.p (RG.p (RG.p (RG.p (RG.p (RG.p (RG.p (RG.p (RG.p (RG.p (RG.p (RG.p (RG.p (RG.p (RG.p (RG.p (RG.p (RG.p (RG.p (RG.p (RG.p (RG.mk (regs [a0, a1, a2, a3]) []) 4 v1) 8 (Value.bool false)) 25 v3) 26 a1) 27 v4) 29 a3) 30 v8) 9 v8) 31 v8) 32 v10) 10 v12) 33 v15) 34 v16) 35 v17) 37 a1) 38 v8) 39 v18) 41 a1) 43 a2) 44 v8) 46 a2) 40 v46) 45 v98) 42 v116) 47 v125) 36 v128) 11 v128) 12 v116) 13 v125) h129 (contX pl8 prog J 165 h.length 8 ct8 [1, 1, 1, 1, 1] (codeOf f8) [] (RetQ prog [.tmp 8] h.length K))))))))))) ∧ ((((3 * 1 : Nat) ≤ 16777216 ∧ (3 : Nat) ≤ 16777216 ∧ List.length [(vint 0)] = 1) ∧ aFill (zrep [(vint 0)] 3) [(0, 1, a2), (1, 1, v98), (2, 1, a2)] fun c130 =>
aNewS 3 c130 h99 fun v131 h132 =>
SameB (some B) h14 h132 ∧ (((((3 * 4 : Nat) ≤ 16777216 ∧ (3 : Nat) ≤ 16777216 ∧ List.length [(vint 0), (vint 0), (vint 0), (Value.slice none 0 0)] = 4) ∧ aFill (zrep [(vint 0), (vint 0), (vint 0), (Value.slice none 0 0)] 3) [(0, 4, v15), (4, 4, v16), (8, 4, v17)] fun c133 =>
aNewS 3 c133 h132 fun v134 h135 =>
SameB (some B) h14 h135 ∧ ((((3 * 1 : Nat) ≤ 16777216 ∧ (3 : Nat) ≤ 16777216 ∧ List.length [(Value.slice none 0 0)] = 1) ∧ aFill (zrep [(Value.slice none 0 0)] 3) [(0, 1, a1), (1, 1, v46), (2, 1, a1)] fun c136 =>
aNewS 3 c136 h135 fun v137 h138 =>
SameB (some B) h14 h138 ∧ (Hold (W prog J 165 h.length 8 (subC [1, 1, 1, 1, 1] (codeOf f8)) (RG.p (RG.p (RG.p (RG.p (RG.p (RG.p (RG.p (RG.p (RG.p (RG.p (RG.p (RG.p (RG.p (RG.p (RG.p (RG.p (RG.p (RG.p (RG.p (RG.p (RG.p (RG.p (RG.p (RG.p (RG.p (RG.p (RG.p (RG.p (RG.p (RG.mk (regs [a0, a1, a2, a3]) []) 4 v1) 8 (Value.bool false)) 25 v3) 26 a1) 27 v4) 29 a3) 30 v8) 9 v8) 31 v8) 32 v10) 10 v12) 33 v15) 34 v16) 35 v17) 37 a1) 38 v8) 39 v18) 41 a1) 43 a2) 44 v8) 46 a2) 40 v46) 45 v98) 47 v131) 36 v134) 11 v134) 42 v137) 12 v137) 13 v131) h138 (contX pl8 prog J 165 h.length 8 ct8 [1, 1, 1, 1, 1] (codeOf f8) [] (RetQ prog [.tmp 8] h.length K)))))))) ∧ ((((3 * 1 : Nat) ≤ 16777216 ∧ (3 : Nat) ≤ 16777216 ∧ List.length [(Value.slice none 0 0)] = 1) ∧ aFill (zrep [(Value.slice none 0 0)] 3) [(0, 1, a1), (1, 1, v46), (2, 1, a1)] fun c139 =>
aNewS 3 c139 h132 fun v140 h141 =>
SameB (some B) h14 h141 ∧ ((((3 * 4 : Nat) ≤ 16777216 ∧ (3 : Nat) ≤ 16777216 ∧ List.length [(vint 0), (vint 0), (vint 0), (Value.slice none 0 0)] = 4) ∧ aFill (zrep [(vint 0), (vint 0), (vint 0), (Value.slice none 0 0)] 3) [(0, 4, v15), (4, 4, v16), (8, 4, v17)] fun c142 =>
aNewS 3 c142 h141 fun v143 h144 =>
SameB (some B) h14 h144 ∧ (Hold (W prog J 165 h.length 8 (subC [1, 1, 1, 1, 1] (codeOf f8)) (RG.p (RG.p (RG.p (RG.p (RG.p (RG.p (RG.p (RG.p (RG.p (RG.p (RG.p (RG.p (RG.p (RG.p (RG.p (RG.p (RG.p (RG.p (RG.p (RG.p (RG.p (RG.p (RG.p (RG.p (RG.p (RG.p (RG.p (RG.p (RG.p (RG.mk (regs [a0, a1, a2, a3]) []) 4 v1) 8 (Value.bool false)) 25 v3) 26 a1) 27 v4) 29 a3) 30 v8) 9 v8) 31 v8) 32 v10) 10 v12) 33 v15) 34 v16) 35 v17) 37 a1) 38 v8) 39 v18) 41 a1) 43 a2) 44 v8) 46 a2) 40 v46) 45 v98) 47 v131) 42 v140) 36 v143) 11 v143) 12 v140) 13 v131) h144 (contX pl8 prog J 165 h.length 8 ct8 [1, 1, 1, 1, 1] (codeOf f8) [] (RetQ prog [.tmp 8] h.length K)))))))))))))))))))))) := top_eq pok8 ct8 (by kernel_rfl)
end
end Go.Proofs.Ytindillghipjjaa
namespace Go.Proofs.Ytindillghipjjaa
open Go.Conc Go.Proofs.Try
set_option maxRecDepth 100000
structure In8 (H0 : List AObj) (p11 p12 p13 i : Nat) (t : Tro) (fv sv : Value) (cs : List Int) (n : Int) : Prop where
  h11 : ∃ cells, H0[p11]? = some (.cells cells true 0) ∧ cells.length = 12 ∧ (cells.drop (i * 4)).take 4 = troCells t fv
  h12 : ∃ sc, H0[p12]? = some (.cells sc true 0) ∧ sc[i]? = some sv
  h13 : ∃ nc, H0[p13]? = some (.cells nc true 0) ∧ nc[i]? = some (vint n)
  hi : i < 3
  tx : TroAt H0 (.agg ⟨troCells t fv⟩) t fv
  ty : Sli H0 sv 1 cs.length (cs.map vint)
  b1 : t.flocks.length ≤ 20
  b2 : cs.length ≤ 20
structure Own8 (H : List AObj) (p15 : Nat) (t : Tro) (fv' w : Value) (cs : List Int) : Prop where
  c : H[p15]? = some (.cells (troCells t fv') true 0)
  to : TroAt H (.agg ⟨troCells t fv'⟩) t fv'
  so : Sli H w 1 cs.length (cs.map vint)
theorem Own8.same {H H' : List AObj} {p15 : Nat} {t : Tro} {fv' w : Value} {cs : List Int} (a : Own8 H p15 t fv' w cs) (S : SameX [] H H') : Own8 H' p15 t fv' w cs := ⟨S.get a.c (by simp), troAt_same a.to S (by simp), S.sli a.so (by simp)⟩
structure R8 (p11 p12 p13 p15 i : Nat) (w : Value) (F : RG) : Prop where
  ds : F.ds = []
  r11 : F.r 11 = .slice (some ⟨p11, 0, none⟩) 3 3
  r12 : F.r 12 = .slice (some ⟨p12, 0, none⟩) 3 3
  r13 : F.r 13 = .slice (some ⟨p13, 0, none⟩) 3 3
  r14 : F.r 14 = vint (i : Nat)
  r15 : F.r 15 = ptr p15 0
  r16 : F.r 16 = w
section
variable {main : Bool} {J : JT} {h H H0 : List AObj} {K : Value → List AObj → Prop} {n0 : Nat} {nx0 : RG → List AObj → Prop}
variable {p11 p12 p13 p15 i : Nat} {t : Tro} {fv fv' sv w : Value} {cs : List Int} {n : Int} {F : RG}
theorem In8.x (I : In8 H0 p11 p12 p13 i t fv sv cs n) {KI : Value → Value → Prop} (S : SameX [] H0 H) (hk : ∀ o, KI (ptr p11 o) (.agg ⟨troCells t fv⟩)) : aIdx 4 (.slice (some ⟨p11, 0, none⟩) 3 3) (vint (i : Nat)) fun v => aLoad true 4 v H (KI v) := by
  obtain ⟨cells, h1, h2, h3⟩ := I.h11
  have hi := I.hi
  refine idxI ⟨by omega, by omega⟩ ?_
  rw [Int.toNat_natCast, Nat.zero_add]
  exact load_part (c := troCells t fv) (S.get h1 (by simp)) (by omega) h3 (tro_kn I.tx) (hk _)
theorem In8.y (I : In8 H0 p11 p12 p13 i t fv sv cs n) {KI : Value → Value → Prop} (S : SameX [] H0 H) (hk : ∀ o, KI (ptr p12 o) sv) : aIdx 1 (.slice (some ⟨p12, 0, none⟩) 3 3) (vint (i : Nat)) fun v => aLoad false 1 v H (KI v) := by
  obtain ⟨sc, h1, h2⟩ := I.h12
  have hi := I.hi
  refine idxI ⟨by omega, by omega⟩ ?_
  rw [Int.toNat_natCast, Nat.zero_add, Nat.mul_one]
  exact ldI (S.get h1 (by simp)) h2 (sli_val I.ty).2.2 (hk _)
theorem In8.z (I : In8 H0 p11 p12 p13 i t fv sv cs n) {KI : Value → Value → Prop} (S : SameX [] H0 H) (hk : ∀ o, KI (ptr p13 o) (vint n)) : aIdx 1 (.slice (some ⟨p13, 0, none⟩) 3 3) (vint (i : Nat)) fun v => aLoad false 1 v H (KI v) := by
  obtain ⟨sc, h1, h2⟩ := I.h13
  have hi := I.hi
  refine idxI ⟨by omega, by omega⟩ ?_
  rw [Int.toNat_natCast, Nat.zero_add, Nat.mul_one]
  exact ldI (S.get h1 (by simp)) h2 rfl (hk _)
end
section
variable {W0 : World} {Post : Value → World → Prop} {h H : List AObj} {K : Value → List AObj → Prop} {n0 : Nat}
def B3 (hb : Nat) (H : List AObj) (v : Value) (c : List Value) : Prop := ∃ p, v = .slice (some ⟨p, 0, none⟩) 3 3 ∧ p ≠ hb ∧ H[p]? = some (.cells c true 0)
theorem B3.same {hb : Nat} {H H' : List AObj} {v : Value} {c : List Value} (a : B3 hb H v c) (S : SameX [hb] H H') : B3 hb H' v c := by
  obtain ⟨p, h1, h2, h3⟩ := a
  exact ⟨p, h1, h2, S.get h3 (by simpa using h2)⟩
def BR (hb : Nat) (H : List AObj) (w : Value) (r : List Int) : Prop := r.length ≤ 20 ∧ ∃ o, OwnX H 1 (r.map vint) r.length w o ∧ ∀ i, o = some i → hb < i
theorem BR.same {hb : Nat} {H H' : List AObj} {w : Value} {r : List Int} (a : BR hb H w r) (S : SameX [hb] H H') : BR hb H' w r := by
  obtain ⟨h1, o, h2, h3⟩ := a
  exact ⟨h1, o, ownX_keep h2 S (fun i hi => by have := h3 i hi; simp; omega), h3⟩
structure K8 (Hb Hs : List AObj) (ns : List Int) (P : List AObj → Prop) (H : List AObj) (k : Nat) : Prop where
  hx : HX Hb H ns k
  S : SameX [Hb.length] Hs H
  p : P H
  st : ∀ A B, SameX [Hb.length] A B → P A → P B
theorem K8.step {Hb Hs : List AObj} {ns : List Int} {P Q : List AObj → Prop} {H H' : List AObj} {k k' : Nat} (a : K8 Hb Hs ns P H k) (S : SameX [Hb.length] H H') (hx : HX Hb H' ns k') (q : Q H') (hq : ∀ A B, SameX [Hb.length] A B → Q A → Q B) : K8 Hb Hs ns (fun H => P H ∧ Q H) H' k' :=
  ⟨hx, a.S.trans S, ⟨a.st _ _ S a.p, q⟩, fun A B S h => ⟨a.st A B S h.1, hq A B S h.2⟩⟩
end
theorem tradRow_two {t : Tro} {r : List Int} {i k : Nat} : ∀ l ∈ tradRow t r i k, l.length = 2 := by
  induction k with
  | zero => intro l hl; cases hl
  | succ k ih =>
    intro l hl
    unfold tradRow at hl
    rcases List.mem_append.1 hl with hl | hl
    · exact ih l hl
    · split at hl
      · rw [List.mem_singleton.1 hl]
        rfl
      · cases hl
theorem tradTo_two {t : Tro} {r : List Int} {i : Nat} : ∀ l ∈ tradTo t r i, l.length = 2 := by
  induction i with
  | zero => intro l hl; cases hl
  | succ i ih =>
    intro l hl
    unfold tradTo at hl
    rcases List.mem_append.1 hl with hl | hl
    · exact ih l hl
    · exact tradRow_two l hl
theorem tradE_zero {t : Tro} {r : List Int} (h : tradE t r = 0) : rotaE t r = 0 ∧ goodB t r = true := by
  unfold tradE at h
  by_cases e : rotaE t r = 0
  · rw [if_neg (not_not_intro e)] at h
    split at h
    · rename_i g
      exact ⟨e, g⟩
    · cases h
  · rw [if_pos e] at h
    exact absurd h e
theorem tradA_few (t : Tro) (r : List Int) : (tradA t r).length ≤ 30 := by
  unfold tradA
  split
  · rename_i h
    have g := (rotaE_fine (tradE_zero h).1).2
    have h1 := tradTo_few (t := t) (r := r) (i := r.length)
    have h3 := g.len.2
    have : r.length * r.length ≤ 5 * 5 := Nat.mul_le_mul h3 h3
    omega
  · exact Nat.zero_le _
structure In16 (H0 : List AObj) (p11 p12 i : Nat) (t : Tro) (fv sv : Value) (cs : List Int) : Prop where
  h11 : ∃ cells, H0[p11]? = some (.cells cells true 0) ∧ cells.length = 16 ∧ (cells.drop (i * 4)).take 4 = troCells t fv
  h12 : ∃ sc, H0[p12]? = some (.cells sc true 0) ∧ sc[i]? = some sv
  hi : i < 4
  tx : TroAt H0 (.agg ⟨troCells t fv⟩) t fv
  ty : Sli H0 sv 1 cs.length (cs.map vint)
  b1 : t.flocks.length ≤ 20
  b2 : cs.length ≤ 20
section
variable {main : Bool} {J : JT} {h H H0 : List AObj} {K : Value → List AObj → Prop} {n0 : Nat} {nx0 : RG → List AObj → Prop}
variable {p11 p12 p14 i : Nat} {t : Tro} {fv fv' sv w : Value} {cs : List Int} {F : RG}
theorem In16.x (I : In16 H0 p11 p12 i t fv sv cs) {KI : Value → Value → Prop} (S : SameX [] H0 H) (hk : ∀ o, KI (ptr p11 o) (.agg ⟨troCells t fv⟩)) : aIdx 4 (.slice (some ⟨p11, 0, none⟩) 4 4) (vint (i : Nat)) fun v => aLoad true 4 v H (KI v) := by
  obtain ⟨cells, h1, h2, h3⟩ := I.h11
  have hi := I.hi
  refine idxI ⟨by omega, by omega⟩ ?_
  rw [Int.toNat_natCast, Nat.zero_add]
  exact load_part (c := troCells t fv) (S.get h1 (by simp)) (by omega) h3 (tro_kn I.tx) (hk _)
theorem In16.y (I : In16 H0 p11 p12 i t fv sv cs) {KI : Value → Value → Prop} (S : SameX [] H0 H) (hk : ∀ o, KI (ptr p12 o) sv) : aIdx 1 (.slice (some ⟨p12, 0, none⟩) 4 4) (vint (i : Nat)) fun v => aLoad false 1 v H (KI v) := by
  obtain ⟨sc, h1, h2⟩ := I.h12
  have hi := I.hi
  refine idxI ⟨by omega, by omega⟩ ?_
  rw [Int.toNat_natCast, Nat.zero_add, Nat.mul_one]
  exact ldI (S.get h1 (by simp)) h2 (sli_val I.ty).2.2 (hk _)
end
def B4 (hb : Nat) (H : List AObj) (v : Value) (c : List Value) : Prop := ∃ p, v = .slice (some ⟨p, 0, none⟩) 4 4 ∧ p ≠ hb ∧ H[p]? = some (.cells c true 0)
theorem B4.same {hb : Nat} {H H' : List AObj} {v : Value} {c : List Value} (a : B4 hb H v c) (S : SameX [hb] H H') : B4 hb H' v c := by
  obtain ⟨p, h1, h2, h3⟩ := a
  exact ⟨p, h1, h2, S.get h3 (by simpa using h2)⟩
theorem fine_rotaE15 {t : Tro} {r : List Int} (f : TroFine t) (g : RotaFine t r) : rotaE t r = 0 := by
  have h1 := fine_troE f
  have h2 : fewE r.length 1 5 = 0 := by
    have := g.len
    unfold fewE
    rw [if_neg (by omega), if_neg (by omega)]
  unfold rotaE
  rw [if_neg (not_not_intro h1), if_neg (not_not_intro h2), if_pos fun n hn => by have := g.who n hn; omega]
theorem good_tradE {t : Tro} {r : List Int} (f : TroFine t) (g : RotaFine t r) (h : goodB t r = true) : tradE t r = 0 := by
  unfold tradE
  rw [if_neg (not_not_intro (fine_rotaE15 f g)), if_pos h]
theorem bad_tradE {t : Tro} {r : List Int} (f : TroFine t) (g : RotaFine t r) (h : goodB t r = false) : tradE t r = 9 := by
  unfold tradE
  rw [if_neg (not_not_intro (fine_rotaE15 f g)), if_neg (by rw [h]; simp)]
theorem set_ownP {H : List AObj} {xs : List Int} {v : Value} {o : Option Nat} {HL : Value → List AObj → Prop} (O : OwnX H 1 (xs.map vint) xs.length v o) {i : Nat} {x : Int} (hi : i < xs.length)
    (hk : ∀ p H', SameX o.toList H H' → OwnX H' 1 ((xs.set i x).map vint) (xs.set i x).length v o → HL p H') : aIdx 1 v (vint (i : Nat)) fun p => aStore 1 p (vint x) H (HL p) := by
  obtain ⟨h1, h2, ⟨h0, _⟩ | ⟨b, c, sz, rfl, rfl, hb, hc⟩⟩ := O
  · omega
  · refine idxI ⟨by omega, by omega⟩ ?_
    rw [Int.toNat_natCast, Nat.zero_add, Nat.mul_one]
    refine qSt hb (by simpa using hi) rfl rfl fun H' S c' l' => hk _ H' (by simpa using S) ?_
    rw [List.length_set, List.map_set]
    exact ⟨by simp, by rw [← List.map_set]; exact kn_vint _, .inr ⟨b, c, sz, rfl, rfl, c', hc⟩⟩
structure D15 (H : List AObj) (p3 : Nat) (t : Tro) (fv rv lv : Value) (r : List Int) (n : Nat) (o : Option Nat) : Prop where
  c : H[p3]? = some (.cells (troCells t fv) true 0)
  to : TroAt H (.agg ⟨troCells t fv⟩) t fv
  so : Sli H rv 1 r.length (r.map vint)
  lo : OwnL n H lv (tradTo t r r.length) o
structure R15 (p3 : Nat) (rv lv : Value) (a b c : Nat) (F : RG) : Prop where
  ds : F.ds = []
  r3 : F.r 3 = ptr p3 0
  r4 : F.r 4 = rv
  r8 : F.r 8 = lv
  r10 : F.r 10 = vint (c : Nat)
  r11 : F.r 11 = vint (a : Nat)
  r12 : F.r 12 = vint (b : Nat)
section
variable {main : Bool} {J : JT} {h H H0 : List AObj} {K : Value → List AObj → Prop} {n0 : Nat} {nx0 nx1 : RG → List AObj → Prop}
variable {p3 a b n : Nat} {t : Tro} {fv rv lv : Value} {r : List Int} {o : Option Nat} {F : RG}
theorem D15.same {H' : List AObj} (D : D15 H p3 t fv rv lv r n o) (S : SameX [] H H') : D15 H' p3 t fv rv lv r n o := ⟨S.get D.c (by simp), troAt_same D.to S (by simp), S.sli D.so (by simp), D.lo.keep S⟩
theorem body15_4 (hJ : Closed prog main J) (f : TroFine t) (g : RotaFine t r) (hgr : goodB t r = true) (ha : a < r.length) (hab : a < b) (hb : b < r.length) (hc : canSw t r a b = true) {x : Value} (D : D15 H p3 t fv rv lv r n o) (hx : Sli H x 1 (swL r a b).length ((swL r a b).map vint))
    (R : R15 p3 rv lv a b (partT t r a b).length F) (q13 : F.r 13 = x) (q114 : F.r 114 = .bool false)
    (hnx : ∀ F' H', SameX [] H H' → R15 p3 rv lv a (b + 1) (partT t r a (b + 1)).length F' → nx1 F' H') :
    W prog J 153 n0 15 (subC [1, 1, 1, 1, 1, 1, 1, 0, 1, 0, 0, 1, 0, 0, 1, 0, 0, 1, 0, 0, 1, 1, 1, 1, 1, 0, 1] (codeOf f15)) F H (contX pl15 prog J 153 n0 15 ct15 [1, 1, 1, 1, 1, 1, 1, 0, 1, 0, 0, 1, 0, 0, 1, 0, 0, 1, 0, 0, 1, 1, 1, 1, 1, 0, 1] (codeOf f15) [nx0, nx1] (RetQ prog [.tmp 2] n0 K)) := by
  rw [s15_4, q114, R.r3, R.r10, q13]
  have gl := g.len
  have hpf := partT_few (t := t) (i := a) (k := b) g (by omega) (by omega)
  have fl := f.len
  have gs := swL_fine g ha hb
  have hcs : goodB t (swL r a b) = true := by
    unfold canSw at hc
    simp only [Bool.and_eq_true] at hc
    exact hc.2
  have te := good_tradE f gs hcs
  have tA : tradA t (swL r a b) = tradTo t (swL r a b) (swL r a b).length := by unfold tradA; rw [if_pos te]
  refine cnd_false.2 (addI (by omega) (load_part (c := troCells t fv) D.c (by simp [troCells]) rfl (tro_kn D.to) ?_))
  refine good59 hJ D.to hx (by omega) fun H1 bv S1 B1 hbn => ext0 (ext1 ?_)
  obtain ⟨o1, B1⟩ := B1
  rw [tA] at B1
  rw [te]
  have hfew : (tradTo t (swL r a b) (swL r a b).length).length ≤ 30 := by
    rw [← tA]
    exact tradA_few _ _
  have htwo : ∀ l ∈ tradTo t (swL r a b) (swL r a b).length, l.length = 2 := fun l hl => tradTo_two l hl
  have hmem : pairL a b ∈ tradTo t (swL r a b) (swL r a b).length := tradTo_has (by rw [swL_len]; exact ha) (by rw [swL_len]; exact hb) hab (canSw_back ha hb (by omega) hgr hc)
  generalize tradTo t (swL r a b) (swL r a b).length = ls at *
  refine l15_5 hJ (fun i : Nat => ls.length - i) (fun i F' H' => ∃ m : Bool, SameX [] H1 H' ∧ i ≤ ls.length ∧ (m = true ↔ ∃ j, j < i ∧ ls[j]? = some (pairL a b)) ∧ R15 p3 rv lv a b ((partT t r a b).length + 1) F' ∧ F'.r 16 = bv ∧ F'.r 17 = vint 0 ∧ F'.r 18 = .bool m ∧ F'.r 19 = vint (i : Nat)) ?_ (s := 0)
    (.inl ⟨false, SameX.refl, by omega, ⟨fun e => (by cases e), fun ⟨j, hj, _⟩ => absurd hj (by omega)⟩, ⟨R.ds, R.r3, R.r4, R.r8, by show vint _ = vint _; congr 1, R.r11, R.r12⟩, rfl, rfl, rfl, rfl⟩)
  rintro i F' H' ⟨m, S, hi, hm, R', q16, q17, q18, q19⟩ okc hnc
  obtain ⟨cb, sB⟩ := (B1.keep S).sli
  rw [s15_5, q16, q17, q18, q19, R'.r11, R'.r12]
  refine lenI sB (lssI (cndI (fun hlt => ?_) fun hge => ?_))
  · have hil : i < ls.length := by omega
    have hli : ls[i]? = some ls[i] := List.getElem?_eq_getElem hil
    cases m with
    | true =>
      refine cnd_true.2 (addI (by omega) ⟨i + 1, by dsimp only; omega, .inl ⟨true, S, by omega, ⟨fun _ => ?_, fun _ => rfl⟩, ⟨R'.ds, R'.r3, R'.r4, R'.r8, R'.r10, R'.r11, R'.r12⟩, q16, q17, rfl, by show vint _ = vint _; congr 1⟩⟩)
      obtain ⟨j, h1, h2⟩ := hm.1 rfl
      exact ⟨j, by omega, h2⟩
    | false =>
      refine cnd_false.2 ((B1.keep S).get hli fun p y c Oy _ => ⟨by decide, fillP (qNew fun H2 p2 e2 S2 c2 l2 => ?_)⟩)
      have c2 : H2[p2]? = some (.cells ((pairL a b).map vint) true 0) := c2
      have h2 := htwo _ (List.getElem_mem hil)
      refine good28 hJ (S2.sli (ownX_sli Oy) (by simp)) (ownX_sli (ownX_new (s := 1) (n := 2) (l := (pairL a b).map vint) c2 rfl rfl)) (by omega) (addI (by omega) ⟨i + 1, by dsimp only; omega, .inl ⟨decide (ls[i] = pairL a b), S.trans S2, by omega, ?_, ⟨R'.ds, R'.r3, R'.r4, R'.r8, R'.r10, R'.r11, R'.r12⟩, q16, q17, rfl, by show vint _ = vint _; congr 1⟩⟩)
      rw [decide_eq_true_iff]
      constructor
      · intro e
        exact ⟨i, by omega, by rw [hli, e]⟩
      · rintro ⟨j, h1, h3⟩
        by_cases e : j = i
        · rw [e, hli] at h3
          injection h3
        · have := hm.2 ⟨j, by omega, h3⟩
          cases this
  · have hie : i = ls.length := by omega
    subst hie
    have hmt : m = true := hm.2 (by
      obtain ⟨j, hj, e⟩ := List.mem_iff_getElem.1 hmem
      exact ⟨j, hj, by rw [List.getElem?_eq_getElem hj, e]⟩)
    subst hmt
    refine neqI (cndI (fun hx => absurd rfl hx) fun _ => notI (hold.2 ?_))
    rw [s15_6]
    show cnd (.bool false) _ _
    refine cnd_false.2 ?_
    show aBin prog .add 3 (F'.r 12) (vint 1) _
    rw [R'.r12]
    refine addI (by omega) (hnx _ H' (S1.trans S) ⟨R'.ds, R'.r3, R'.r4, R'.r8, ?_, R'.r11, by show vint _ = vint _; congr 1⟩)
    rw [partT_yes hab hc, List.length_append]
    exact R'.r10
theorem body15_3 (hJ : Closed prog main J) (f : TroFine t) (g : RotaFine t r) (hgr : goodB t r = true) (ha : a < r.length) (hab : a < b) (hb : b < r.length) {x : Value} {z : Bool} (D : D15 H p3 t fv rv lv r n o) (hx : Sli H x 1 (swL r a b).length ((swL r a b).map vint))
    (R : R15 p3 rv lv a b (partT t r a b).length F) (q13 : F.r 13 = x) (q99 : F.r 99 = .bool z) (hz : z = !canSw t r a b)
    (hnx : ∀ F' H', SameX [] H H' → R15 p3 rv lv a (b + 1) (partT t r a (b + 1)).length F' → nx1 F' H') :
    W prog J 153 n0 15 (subC [1, 1, 1, 1, 1, 1, 1, 0, 1, 0, 0, 1, 0, 0, 1, 0, 0, 1, 0, 0, 1, 1, 1, 1, 0, 1] (codeOf f15)) F H (contX pl15 prog J 153 n0 15 ct15 [1, 1, 1, 1, 1, 1, 1, 0, 1, 0, 0, 1, 0, 0, 1, 0, 0, 1, 0, 0, 1, 1, 1, 1, 0, 1] (codeOf f15) [nx0, nx1] (RetQ prog [.tmp 2] n0 K)) := by
  rw [s15_3, q99, R.r8, R.r10, R.r11, R.r12]
  have gl := g.len
  cases z with
  | true =>
    have hc : canSw t r a b = false := by simpa using hz.symm
    refine cnd_true.2 (addI (by omega) (hnx _ H SameX.refl ⟨R.ds, R.r3, R.r4, R.r8, ?_, R.r11, by show vint _ = vint _; congr 1⟩))
    rw [partT_no hc]
    exact R.r10
  | false =>
    have hc : canSw t r a b = true := by simpa using hz.symm
    obtain ⟨l, hl⟩ := partT_pre (t := t) (r := r) (i := a) (k := b + 1) ha (by omega)
    rw [partT_yes hab hc] at hl
    have hat : (tradTo t r r.length)[(partT t r a b).length]? = some (pairL a b) := by
      rw [hl, List.append_assoc, List.getElem?_append_right (Nat.le_refl _), Nat.sub_self]
      rfl
    have hlt := (List.getElem?_eq_some_iff.1 hat).1
    obtain ⟨cl, sL⟩ := D.lo.sli
    refine cnd_false.2 (lenI sL (geqI (cndI (fun hge => absurd hge (by omega)) fun _ => ?_)))
    refine D.lo.get hat fun p y c Oy _ => ⟨by decide, fillP (qNew fun H2 p2 e2 S2 c2 l2 => ?_)⟩
    have c2 : H2[p2]? = some (.cells ((pairL a b).map vint) true 0) := c2
    refine same28 hJ (S2.sli (ownX_sli Oy) (by simp)) (ownX_sli (ownX_new (s := 1) (n := 2) (l := (pairL a b).map vint) c2 rfl rfl)) (by show 2 < 1000000; decide) (notI (hold.2 ?_))
    exact body15_4 hJ f g hgr ha hab hb hc (D.same S2) (S2.sli hx (by simp)) ⟨R.ds, R.r3, R.r4, R.r8, R.r10, R.r11, R.r12⟩ q13 rfl fun F' H' S' => hnx F' H' (S2.trans S')
end
section
variable {W0 : World} {Post : Value → World → Prop} {h H : List AObj} {K : Value → List AObj → Prop} {n0 : Nat}
theorem loop15 {H0 : List AObj} {p3 n : Nat} {t : Tro} {fv rv lv : Value} {r : List Int} {o : Option Nat} {F : RG} (f : TroFine t) (g : RotaFine t r) (hgr : goodB t r = true) (D : D15 H0 p3 t fv rv lv r n o)
    (t0 : F.ds = []) (t3 : F.r 3 = ptr p3 0) (t4 : F.r 4 = rv) (t8 : F.r 8 = lv) (t10 : F.r 10 = vint 0) (t11 : F.r 11 = vint 0) (hK : ∀ h', K (.bool true) h') :
    Sem (J1 prog W0 Post) 153 n0 15 (subC [1, 1, 1, 1, 1, 1, 1, 0, 1, 0] (codeOf f15)) F H0 (contX pl15 prog (J1 prog W0 Post) 153 n0 15 ct15 [1, 1, 1, 1, 1, 1, 1, 0, 1, 0] (codeOf f15) [] (RetQ prog [.tmp 2] n0 K)) := by
  have hJ := J1.closed prog W0 Post
  have gl := g.len
  refine l15_1 hJ (fun a : Nat => r.length - a) (fun a F H => SameX [] H0 H ∧ a ≤ r.length ∧ F.ds = [] ∧ F.r 3 = ptr p3 0 ∧ F.r 4 = rv ∧ F.r 8 = lv ∧ F.r 10 = vint ((tradTo t r a).length : Nat) ∧ F.r 11 = vint (a : Nat)) ?_ (s := 0)
    (.inl ⟨SameX.refl, by omega, t0, t3, t4, t8, t10, t11⟩)
  rintro a F H ⟨S, hi, ds, r3, r4, r8, r10, r11⟩ ok' hn'
  have Da := D.same S
  rw [s15_1, r4, r8, r10, r11, ds]
  refine lenI Da.so (lssI (cndI (fun hlt => ?_) fun hge => ?_))
  rotate_left
  · have : a = r.length := by omega
    subst this
    obtain ⟨cl, sL⟩ := Da.lo.sli
    exact lenI sL (eqlI (cndI (fun _ => good19 fun H3 => retL_same (by simp [unk]) (hK _)) fun hx => absurd rfl hx))
  have hal : a < r.length := by omega
  refine addI (by omega) ?_
  refine l15_2 hJ (fun b : Nat => r.length - b) (fun b F H => SameX [] H0 H ∧ a + 1 ≤ b ∧ b ≤ r.length ∧ R15 p3 rv lv a b (partT t r a b).length F) ?_ (s := a + 1)
    (.inl ⟨S, by omega, by omega, ds, r3, r4, r8, by rw [partT_zero]; exact r10, r11, by show vint _ = vint _; congr 1⟩)
  clear ds r3 r4 r8 r10 r11 ok' hn' Da S
  rintro b F H ⟨S, hb1, hb2, R⟩ ok' hn'
  have Da := D.same S
  rw [s15_2, R.r3, R.r4, R.r11, R.r12]
  refine lenI Da.so (lssI (cndI (fun hlt2 => ?_) fun hge => ?_))
  rotate_left
  · have hbe : b = r.length := by omega
    subst hbe
    exact addI (by omega) ⟨a + 1, by dsimp only; omega, .inl ⟨S, by omega, R.ds, R.r3, R.r4, R.r8, by rw [← partT_end hal]; exact R.r10, by show vint _ = vint _; congr 1⟩⟩
  have hbl : b < r.length := by omega
  have ga := g.small a hal
  have gb := g.small b hbl
  refine good25X hJ Da.so (by omega) fun H1 x o1 S1 O1 ho1 => ?_
  have D1 := Da.same S1
  refine sli_num' D1.so gb fun q => sli_num' D1.so ga fun q2 => set_ownP O1 hal fun _ H2 S2 O2 => ?_
  refine set_ownP O2 (by simpa using hbl) fun _ H3 S3 O3 => ?_
  have T3 : SameX [] H H3 := S1.thru (S2.trans S3) (by simp; omega)
  have D3 := Da.same T3
  have O3 : OwnX H3 1 ((swL r a b).map vint) (swL r a b).length x (some o1) := O3
  refine load_part (c := troCells t fv) D3.c (by simp [troCells]) rfl (tro_kn D3.to) ?_
  refine good44 hJ D3.to (ownX_sli O3) f (swL_fine g hal hbl) fun H4 S4 => ext0 (ext1 (notI (cnd_false.2 ?_)))
  have D4 := D3.same S4
  have nx : ∀ F' H', SameX [] H4 H' → R15 p3 rv lv a (b + 1) (partT t r a (b + 1)).length F' → Nx n0 (fun b : Nat => r.length - b) (fun b F H => SameX [] H0 H ∧ a + 1 ≤ b ∧ b ≤ r.length ∧ R15 p3 rv lv a b (partT t r a b).length F) b F' H' := fun F' H' S' R' => ⟨b + 1, by dsimp only; omega, .inl ⟨((S.trans T3).trans S4).trans S', by omega, by omega, R'⟩⟩
  refine sli_num' D4.so ga fun q => sli_num' D4.so gb fun q2 => eqlI (cndI (fun heq => hold.2 ?_) fun hne => notI (hold.2 ?_))
  · refine body15_3 hJ f g hgr hal (by omega) hbl (z := true) D4 (S4.sli (ownX_sli O3) (by simp)) ⟨R.ds, R.r3, R.r4, R.r8, R.r10, R.r11, R.r12⟩ rfl rfl ?_ nx
    unfold canSw
    rw [decide_eq_false (not_not_intro heq)]
    rfl
  · refine body15_3 hJ f g hgr hal (by omega) hbl (z := !goodB t (swL r a b)) D4 (S4.sli (ownX_sli O3) (by simp)) ⟨R.ds, R.r3, R.r4, R.r8, R.r10, R.r11, R.r12⟩ rfl rfl ?_ nx
    unfold canSw
    rw [decide_eq_true (show r.getD a 0 ≠ r.getD b 0 from hne)]
    rfl
theorem walk15 {nv : Value} {ns : List Int} (sn : Sli h nv 1 ns.length (ns.map vint)) (hln : ns.length < 4611686018427387904) (hK : ∀ h', K (.bool true) h') :
    W prog (J1 prog W0 Post) 153 h.length 15 (codeOf f15) (RG.mk (regs [nv]) []) h (RetQ prog [.tmp 2] h.length K) := by
  have hJ := J1.closed prog W0 Post
  rw [e15]
  refine newX hJ sn hln fun H0 a0 => ?_
  refine good21 hJ a0 (by omega) (by omega) (by omega) fun t fv o H1 ot S1 a1 TO => ?_
  have f := ot.fine (by omega)
  have fl := f.len
  have tt := TO.at
  refine qAl fun H2 p3 e2 S2 c2 l2 => qStA (c := troCells t fv) c2 rfl rfl (tro_one tt) fun H3 S3 c3 l3 => ?_
  have S13 : SameX [] H1 H3 := S2.thru S3 (by simp; omega)
  have t3 := troAt_same tt S13 (by simp)
  refine load_part (c := troCells t fv) c3 (by simp [troCells]) rfl (tro_kn t3) ?_
  refine good54 hJ t3 (by omega) fun H4 w S4 A4 => ext0 (ext1 ?_)
  have t4 := troAt_same t3 S4 (by simp)
  have c4 := S4.get c3 (by simp)
  have hz := fine_troE f
  have eA : rotaA t = rotF t := by unfold rotaA; rw [if_pos hz]
  have eX : rotaX t = if (rotF t).isNone = true then 11 else 0 := by
    unfold rotaX
    rw [if_neg (not_not_intro hz)]
  rw [eA] at A4
  rw [eX]
  cases hr : rotF t with
  | none =>
    refine neqI (cndI (fun _ => ?_) fun hx => absurd (show (11 : Int) ≠ 0 by decide) hx)
    refine load_part (c := troCells t fv) c4 (by simp [troCells]) rfl (tro_kn t4) ⟨by decide, fill_one (l := [vint (-1)]) rfl rfl rfl (by decide) (fillI (qNew fun H5 p5 e5 S5 c5 l5 => ?_))⟩
    have c5 : H5[p5]? = some (.cells (([-1] : List Int).map vint) true 0) := c5
    have g : RotaFine t [-1] := ⟨⟨Nat.le_refl _, by decide⟩, fun n hn => by rw [List.mem_singleton.1 hn]; omega⟩
    have hb : goodB t [-1] = false := by
      cases e : goodB t [-1] with
      | false => rfl
      | true =>
        have := rotF_some.2 ⟨_, g, e⟩
        rw [hr] at this
        cases this
    refine good59 hJ (troAt_same t4 S5 (by simp)) (r := [-1]) (ownX_sli (ownX_new (s := 1) (n := 1) c5 rfl rfl)) (by omega) fun H6 v6 S6 A6 hn6 => ext0 (ext1 ?_)
    rw [bad_tradE f g hb]
    exact eqlI (cndI (fun _ => good19 fun H3 => retL_same (by simp [unk]) (hK _)) fun hx => absurd rfl hx)
  | some r =>
    obtain ⟨hgr, g⟩ := rotF_is hr
    rw [hr] at A4
    obtain ⟨o4, O4, ho4⟩ := A4
    refine neqI (cndI (fun hx => absurd rfl hx) fun _ => ?_)
    refine load_part (c := troCells t fv) c4 (by simp [troCells]) rfl (tro_kn t4) ?_
    refine good59 hJ t4 (ownX_sli O4) (by omega) fun H5 lv S5 A5 hn5 => ext0 (ext1 ?_)
    have te := good_tradE f g hgr
    obtain ⟨o5, A5⟩ := A5
    have tA : tradA t r = tradTo t r r.length := by unfold tradA; rw [if_pos te]
    rw [tA] at A5
    rw [te]
    refine neqI (cndI (fun hx => absurd rfl hx) fun _ => ?_)
    exact loop15 f g hgr ⟨S5.get c4 (by simp), troAt_same t4 S5 (by simp), S5.sli (ownX_sli O4) (by simp), A5⟩ rfl rfl rfl rfl rfl rfl hK
end
end Go.Proofs.Ytindillghipjjaa
namespace Go.Proofs.Ytindillghipjjaa
open Go.Conc
section
variable {P : Program} {W0 : World} {Post : Value → World → Prop} {ρ : Env} {h : List AObj} {FC : Frm} {w : World} {ft : Foot} {f : RG} {a : Act} {b : FB} {K : Value → List AObj → Prop} {n0 : Nat}
theorem leave_top {fn : Func} (hk : b.kind = .normal) (hf : P.funcs[b.fn]? = some fn) (hin : P.inits.idxOf? b.fn = none)
    (hc : ∀ v h' ρ' w' ft' cv, K v h' → HRel ρ' h' FC w' ft' → Env.upto n0 ρ ρ' → n0 ≤ h'.length → VRel h'.length ρ' v cv → Base W0 w' → Post cv w') :
    ∀ (ds : List Nat) (h : List AObj) (w : World) (ft : Foot) (a : Act) (fr : Frame), fr.fn = b.fn → fr.kind = .normal → fr.mode = .returning → fr.tmps = a.tmps → fr.defers = ds.map (fun d => { target := .collected (ρ.blk d), args := #[] }) → RegRel h.length ρ f.r a.tmps → HRel ρ h FC w ft → n0 ≤ h.length →
      takeW ds h (fun h => resW P fn.results.toList f.r h fun vs => K (pack vs) h ∨ ∃ σ h' v, GC n0 σ h h' ∧ pack vs = sub σ v ∧ VOk h'.length v ∧ K v h') → J1 P W0 Post (G fr []) w ft
  | [], h, w, ft, a, fr, e1, e2, e3, e4, e5, hr, H, hn, hq => by
    obtain ⟨fn', tmps, todo, defers, mode, kind, ro⟩ := fr
    simp only at e1 e2 e3 e4 e5
    subst e1 e2 e3 e4 e5
    refine J1.both rfl fun w₁ h₁ hbase => .inr ?_
    have H₁ := H.rely h₁
    have hrun : RunsTo P (EvOk ft) (results fn a.tmps) w₁ fun cv w' => w' = w₁ ∧ ∃ vs, cv = ren ρ (pack vs) ∧ (∀ v ∈ vs, VOk h.length v) ∧ (K (pack vs) h ∨ ∃ σ h' v, GC n0 σ h h' ∧ pack vs = sub σ v ∧ VOk h'.length v ∧ K v h') := by
      unfold results
      have : (fn.results.mapM (resF a.tmps)) = List.toArray <$> fn.results.toList.mapM (resF a.tmps) := by
        rw [Array.mapM_eq_mapM_toList]
      show RunsTo P (EvOk ft) (do
        let vs ← fn.results.mapM (resF a.tmps)
        pure (if h : vs.size = 1 then vs[0] else .tuple vs)) w₁ _
      rw [this]
      refine RunsTo.bind (RunsTo.map (res_run (n := 0) H₁ hr fn.results.toList hq fun vs hvs hok => RunsTo.pure ⟨rfl, vs, ?_, hok, hvs⟩))
      exact pack_ren vs
    obtain ⟨cv, w', es, hr', he, rfl, vs, rfl, hvok, hvs⟩ := hrun #[] (by simp)
    have hes : ∀ e ∈ seen P b.fn es, EvOk ft e := fun e hm => he e (mem_seen hm)
    refine ⟨ren ρ (pack vs), seen P b.fn es, ?_, hes, ?_⟩
    · simp only [G, stepG, unwind, List.map_nil, hf, hr']
      simp [doReturn, GStep.after, hin]
    · rcases hvs with hK | ⟨σ, h', v, g, hp, hok, hK⟩
      · exact hc _ h _ w' ft _ hK H₁ (Env.upto_refl _ _) hn (.inr ⟨pack_ok hvok, rfl⟩) hbase
      · rw [hp, ren_sub]
        exact hc v h' _ w' ft _ hK (g.rel H₁) g.upto g.le (.inr ⟨hok, rfl⟩) hbase
  | d :: ds, h, w, ft, a, fr, e1, e2, e3, e4, e5, hr, H, hn, hq => by
    obtain ⟨fn', tmps, todo, defers, mode, kind, ro⟩ := fr
    simp only at e1 e2 e3 e4 e5
    subst e1 e2 e3 e4 e5
    obtain ⟨hd, hq⟩ := hq
    refine (J1.closed P W0 Post).step rfl fun w₁ h₁ => ?_
    have H₁ := H.rely h₁
    obtain ⟨cv, w', es, hr', he, rfl, H', hst, hsz⟩ := take_run (P := P) H₁ hd (Q := fun l w' => l = [] ∧ HRel ρ (h.set d .dead) FC w' ft ∧ Stays ft w₁ w' ∧ w'.heap.size = w₁.heap.size) (fun w' a1 a2 a3 => ⟨rfl, a1, a2, a3⟩) #[] (by simp)
    have hes : ∀ e ∈ seen P b.fn es, EvOk ft e := fun e hm => he e (mem_seen hm)
    refine ⟨G { fn := b.fn, tmps := a.tmps, todo := todo, defers := ds.map (fun d => { target := .collected (ρ.blk d), args := #[] }), mode := .returning, kind := .normal, roundOf := ro } [], w', seen P b.fn es, ?_, rfl, hst.guar hes, ?_⟩
    · simp only [G, stepG, unwind, List.map_cons, hr']
      simp [GStep.after]
    · rw [hsz, Foot.ext_self]
      exact leave_top hk hf hin hc ds _ w' ft a _ rfl rfl rfl rfl rfl (by rw [List.length_set]; exact hr) H' (by rw [List.length_set]; exact hn) hq
theorem top_of_W (hm : P.follows .mixedOrders = true) {g : FuncId} {fn : Func} (hf : P.funcs[g]? = some fn) {c : Code} (hb : fn.body = some c) (hin : P.inits.idxOf? g = none) {args : List Value} {cargs : Array Value} (ha : args.length ≤ fn.ntmps) (hl : cargs.size = args.length)
    (hr : ∀ i : Nat, VRel h.length ρ (args.getD i unk) (cargs.toList.getD i undef)) (H : HRel ρ h FC w ft)
    (hs : W P (J1 P W0 Post) fn.ntmps h.length g c ⟨regs args, []⟩ h (RetQ P fn.results.toList h.length K))
    (hc : ∀ v h' ρ' w' ft' cv, K v h' → HRel ρ' h' FC w' ft' → Env.upto h.length ρ ρ' → h.length ≤ h'.length → VRel h'.length ρ' v cv → Base W0 w' → Post cv w') : J1 P W0 Post (G (Frame.enter P g cargs .normal) []) w ft := by
  have hJ := J1.closed P W0 Post
  obtain ⟨cargs⟩ := cargs
  simp only at hl hr
  have he : Frame.enter P g ⟨cargs⟩ .normal = FB.at ⟨g, .normal, none⟩ ⟨⟨cargs⟩ ++ Array.replicate (fn.ntmps - cargs.length) undef, []⟩ [.code c] := by
    simp [Frame.enter, FB.at, hf, hb]
  rw [he]
  have A : ActRel h.length ρ fn.ntmps ⟨regs args, []⟩ ⟨⟨cargs⟩ ++ Array.replicate (fn.ntmps - cargs.length) undef, []⟩ := by
    refine ⟨fun t => ?_, by simp at hl ⊢; omega, rfl, by simp⟩
    have := hr t
    have ht : ((⟨cargs⟩ : Array Value) ++ Array.replicate (fn.ntmps - cargs.length) undef).getD t undef = cargs.getD t undef := by
      rw [Array.getD_eq_getD_getElem?, List.getD_eq_getElem?_getD]
      by_cases hx : t < cargs.length
      · rw [Array.getElem?_append_left (by simpa using hx)]
        simp
      · rw [Array.getElem?_append_right (by simp; omega), List.getElem?_eq_none (by omega)]
        simp only [Array.getElem?_replicate]
        split <;> rfl
    rw [ht]
    exact this
  have last : ∀ f' h' ρ' w' ft' a' todo, RetQ P fn.results.toList h.length K .ret f' h' → ActRel h'.length ρ' fn.ntmps f' a' → HRel ρ' h' FC w' ft' → Env.upto h.length ρ ρ' → h.length ≤ h'.length →
      J1 P W0 Post (G { (FB.at ⟨g, .normal, none⟩ a' todo) with mode := .returning } []) w' ft' := by
    intro f' h' ρ' w' ft' a' todo q A' H' hu hl
    exact leave_top (b := ⟨g, .normal, none⟩) (f := f') (n0 := h.length) (ρ := ρ') rfl hf hin (fun v h2 ρ2 w2 ft2 cv k H2 u2 l2 v2 => hc v h2 ρ2 w2 ft2 cv k H2 (Env.upto_trans hu u2) l2 v2) f'.ds h' w' ft' a' _ rfl rfl rfl rfl A'.defers A'.regs H' hl q
  refine W_sound hJ hm c hs ⟨g, .normal, none⟩ _ [] [] (fun jump a w ft => jump = some .ret ∧ ∀ todo, J1 P W0 Post (G { (FB.at ⟨g, .normal, none⟩ a todo) with mode := .returning } []) w ft) ρ FC w ft rfl (by simp) ?_ A H (Nat.le_refl _) ?_
  · rintro jump a w ft todo ⟨rfl, hj⟩ hh
    rcases hh with ⟨_, k, rfl⟩ | ⟨id, k, e, _⟩ | ⟨e, _⟩
    · exact hJ.ctrl rfl rfl (fun w => by simp [G, stepG, stepG.exec, FB.at]) (hj (.code .ret :: k))
    · cases e
    · cases e
  · intro e f' h' ρ' w' ft' a' q A' H' hu hl
    cases e with
    | normal => exact hJ.ctrl rfl rfl (fun w => by simp [G, stepG, stepG.exec, FB.at]) (last f' h' ρ' w' ft' a' [] q A' H' hu hl)
    | ret => exact ⟨rfl, fun todo => last f' h' ρ' w' ft' a' todo q A' H' hu hl⟩
    | exit id => exact q.elim
    | goto l => exact q.elim
    | panic l => exact q.elim
    | outgrown => exact q.elim
theorem run_of_J1 {g : Goroutine} {w : World} {ft : Foot} (h : J1 P W0 Post g w ft) (hb : ∀ b, ft.rd b → b < w.heap.size) (hs : ∀ b, ft.wr b → ft.rd b) (hw : W0 = w) : Ends P Post (solo g w) #[] := by
  rw [solo_eq_crowd]
  exact h #[g] w none #[] (fun _ => 0) hb hs (RelyW.refl _ _) (by subst hw; exact ⟨rfl, rfl, rfl, Nat.le_refl _⟩) rfl (leavers_one P g) (past_nil.mono (Nat.zero_le _))
end
end Go.Proofs.Ytindillghipjjaa
namespace Go.Proofs.Ytindillghipjjaa
open Go.Conc Go.RowKit
def idEnv : Env := ⟨fun b => b, fun _ => 0⟩
def startFt (w : World) : Foot := ⟨fun b => b < w.heap.size, fun _ => False⟩
def startFC (w : World) : Frm := ⟨fun b => w.heap[b]?, fun _ => False⟩
def Fine (n : Nat) (v : Value) : Prop := VOk n v ∧ one v = true ∧ ren idEnv v = v
open Classical in
noncomputable def clean (n : Nat) (v : Value) : Value := if Fine n v then v else unk
noncomputable def absO (n : Nat) : Obj → AObj
  | .cells c _ _ => .cells (c.toList.map (clean n)) false 0
  | _ => .dead
noncomputable def absH (w : World) : List AObj := w.heap.toList.map (absO w.heap.size)
section
variable {w w' : World} {n : Nat}
theorem clean_fine {v : Value} (h : Fine n v) : clean n v = v := by simp [clean, h]
theorem absH_len : (absH w).length = w.heap.size := by simp [absH]
theorem absH_get {b : Nat} : (absH w)[b]? = (w.heap[b]?).map (absO w.heap.size) := by simp [absH]
theorem absO_wrt (x : Obj) : (absO n x).wrt = false := by cases x <;> rfl
theorem start_rel (w : World) : HRel idEnv (absH w) (startFC w) w (startFt w) where
  obj := fun b o hb => by
    rw [absH_get] at hb
    obtain ⟨x, hx, rfl⟩ := Option.map_eq_some_iff.1 hb
    show ORel (absH w).length idEnv b (absO w.heap.size x) w.heap[b]?
    rw [absH_len, hx]
    cases x with
    | cells c ty fr =>
      refine ⟨fun i v hv => ?_, fun _ => by simp, fun hz => absurd rfl hz, fun e => by cases e⟩
      rw [List.getElem?_map] at hv
      obtain ⟨u, hu, rfl⟩ := Option.map_eq_some_iff.1 hv
      by_cases hf : Fine w.heap.size u
      · rw [clean_fine hf]
        exact .inr ⟨hf.1, hf.2.1, by rw [hf.2.2]; simpa using hu⟩
      · exact .inl ⟨by simp [clean, hf], rfl⟩
    | _ => trivial
  inj := fun b b' o o' _ _ _ _ e => e
  rd := fun b o hb _ => by
    have : b < (absH w).length := (List.getElem?_eq_some_iff.1 hb).1
    rw [absH_len] at this
    exact this
  wr := fun b o hb hw => by
    rw [absH_get] at hb
    obtain ⟨x, hx, rfl⟩ := Option.map_eq_some_iff.1 hb
    rw [absO_wrt] at hw
    cases hw
  lt := fun b hb => hb
  sub := fun b hb => hb.elim
  kept := fun b o hb => by
    refine ⟨hb, ?_, fun a oa ha hw => ?_⟩
    · exact (Array.getElem?_eq_some_iff.1 hb).1
    · rw [absH_get] at ha
      obtain ⟨x, hx, rfl⟩ := Option.map_eq_some_iff.1 ha
      rw [absO_wrt] at hw
      cases hw
  keptW := fun b hb => hb.elim
theorem absH_cell {b o : Nat} {v : Value} (hc : w.cell? ⟨b, o, none⟩ = some v) (hf : Fine w.heap.size v) : ∃ c, (absH w)[b]? = some (.cells c false 0) ∧ c[o]? = some v := by
  unfold World.cell? at hc
  simp only at hc
  split at hc
  · rename_i c ty fr hx
    refine ⟨c.toList.map (clean w.heap.size), by rw [absH_get, hx]; rfl, ?_⟩
    have hc' : c[o]? = some v := by simpa using hc
    rw [List.getElem?_map, Array.getElem?_toList, hc']
    simp [clean_fine hf]
  · cases hc
theorem below_of {ρ' : Env} {h' : List AObj} {ft' : Foot} (H : HRel ρ' h' (startFC w) w' ft') (B : Base w w') : Below w.heap.size w w' :=
  ⟨B.os, B.tape, B.output, B.size, fun k hk => by
    have : (startFC w).ob k = some w.heap[k] := by simp [startFC, hk]
    rw [(H.kept k _ this).1, Array.getElem?_eq_getElem hk]⟩
end
end Go.Proofs.Ytindillghipjjaa
namespace Go.Proofs.Ytindillghipjjaa
open Go.Conc Go.ChangeShapes Go.WideShapes Go.ChangeAt Go.RowKit Go.Proofs.Try
set_option maxRecDepth 100000
theorem own : ownKnob prog.godebug = none := by kernel_rfl
theorem laidOut : laidOutB prog = true := by kernel_rfl
def ArgOk (W : World) (v : Value) : Prop := VOk W.heap.size v ∧ ren idEnv v = v
theorem law_run1 {g : FuncId} {fn : Func} {c : Code} (hf : prog.funcs[g]? = some fn) (hb : fn.body = some c) (hin : prog.inits.idxOf? g = none) (W₀ : World) (args : List Value) (ha : args.length ≤ fn.ntmps) (hok : ∀ v ∈ args, ArgOk W₀ v)
    (walk : ∀ Post, W prog (J1 prog W₀ Post) fn.ntmps (absH W₀).length g c ⟨regs args, []⟩ (absH W₀) (RetQ prog fn.results.toList (absH W₀).length fun v _ => v = .bool true)) :
    Ends prog (fun v w' => v = .bool true ∧ Below W₀.heap.size W₀ w') (solo (G (Frame.enter prog g ⟨args⟩ .normal) []) W₀) #[] := by
  refine run_of_J1 (W0 := W₀) (ft := startFt W₀) (top_of_W mixed hf hb hin ha rfl (fun i => ?_) (start_rel W₀) (walk _) ?_) (fun b hb => hb) (fun b hb => hb.elim) rfl
  · show VRel (absH W₀).length idEnv (args.getD i unk) (args.getD i undef)
    simp only [List.getD_eq_getElem?_getD]
    cases hi : args[i]? with
    | none => exact .inl rfl
    | some v =>
      obtain ⟨h1, h2⟩ := hok v (List.mem_of_getElem? hi)
      exact .inr ⟨by rw [absH_len]; exact h1, h2.symm⟩
  · intro v h' ρ' w' ft' cv hv H' _ _ hcv hB
    subst hv
    refine ⟨?_, below_of H' hB⟩
    rcases hcv with e | ⟨_, e⟩
    · cases e
    · rw [e]
      rfl
section
variable {H : Type} {enc : TypeId × Value → H}
theorem arg_ints {t e : TypeId} (ht : prog.underlying t = some (.slice e)) (he : prog.underlying e = some (.int .i64)) (hc : prog.cellsOf e = 1) {W : World} {base : Nat} {v : Value} {d : DataW H} {ps : List MemPlace}
    (hval : Value.okWide prog W .any base t v) (hd : DataW.Trod enc prog W 0 (fun _ => true) true t v d ps) :
    ∃ zs : List Int, Sli (absH W) v 1 zs.length (zs.map vint) ∧ ArgOk W v ∧ (zs = [] ∨ ∃ es sp, d = .slice es sp ∧ zs.length ≤ es.length + sp.length) := by
  obtain ⟨a0, len, cap, rfl⟩ := okWide_slice ht hval
  obtain ⟨fuel, hf⟩ := hd
  rcases open_ints ht he hc hf with ⟨hcs, hx⟩ | ⟨a, len', cap', zs, hcs, _, hl, hm, hz, hx, hcell, hwz⟩
  · simp [Value.cells] at hcs
    obtain ⟨rfl, rfl, rfl⟩ := hcs
    exact ⟨[], sli_nil, ⟨by simp [VOk], by simp [ren]⟩, .inl rfl⟩
  · simp [Value.cells] at hcs
    obtain ⟨rfl, rfl, rfl⟩ := hcs
    simp only [Prod.mk.injEq] at hx
    obtain ⟨rfl, rfl⟩ := hx
    simp only [if_true] at hz
    simp only [Value.okWide, ht, Cell.okWide, Cell.ok, World.has] at hval
    obtain ⟨_, _, _, hspot, row, cells, hshape, _⟩ := hval
    obtain ⟨b, o, spot⟩ := a
    simp only at hspot hshape
    subst hspot
    have hb : b < W.heap.size := by
      unfold World.shape? at hshape
      split at hshape
      · rename_i h
        exact (Array.getElem?_eq_some_iff.1 h).1
      · cases hshape
    have hlen : (zs.take len).length = len := by simp; omega
    have hcell' : ∀ i, i < zs.length → W.cell? ⟨b, o + i, none⟩ = some (vint (zs.getD i 0)) := by
      intro i hi
      have := hcell i hi
      unfold Addr.add at this
      by_cases h0 : i = 0
      · subst h0; simpa using this
      · simpa [h0] using this
    have hmax : cap < fz := by
      simp only [maxLen] at hm
      unfold fz
      omega
    refine ⟨zs.take len, ?_, ⟨by simp only [VOk, AddrOk]; exact ⟨hb, trivial⟩, ?_⟩, .inr ⟨_, _, rfl, ?_⟩⟩
    · refine ⟨some ⟨b, o, none⟩, cap, by rw [hlen], ⟨by simp, kn_ints _⟩, .inr ⟨b, o, rfl, ?_⟩⟩
      rw [hlen]
      by_cases h0 : len = 0
      · exact .inl h0
      · right
        have fine : ∀ n : Int, Fine W.heap.size (vint n) := fun n => ⟨by simp [VOk], rfl, by simp [ren]⟩
        obtain ⟨c, hc1, hc2⟩ := absH_cell (hcell' 0 (by omega)) (fine _)
        refine ⟨c, false, 0, hc1, ?_⟩
        apply List.ext_getElem?
        intro i
        rw [Nat.mul_one]
        by_cases hi : i < len
        · obtain ⟨c', hc1', hc2'⟩ := absH_cell (hcell' i (by omega)) (fine _)
          rw [hc1] at hc1'
          cases hc1'
          rw [List.getElem?_take, if_pos hi, List.getElem?_drop, hc2']
          have hzi : i < zs.length := by omega
          simp [hi, hzi]
        · rw [List.getElem?_take, if_neg hi, List.getElem?_eq_none (by simp; omega)]
    · have hnf : ¬ fz ≤ cap := by omega
      simp [ren, renAddr, renCap, idEnv, hnf]
    · simp only [lits, List.length_map, List.length_take, List.length_drop]
      omega
end
theorem trodAll_cons {H : Type} {enc : TypeId × Value → H} {P : Program} {w : World} {base : Nat} {spare : Nat → Bool} {held : Bool} {t : TypeId} {ts : List TypeId} {vs : List Value} {ds : List (DataW H)} {ps : List MemPlace}
    (h : DataW.TrodAll enc P w base spare held (t :: ts) vs ds ps) : ∃ v vs' d ds' p q, vs = v :: vs' ∧ ds = d :: ds' ∧ ps = p ++ q ∧ DataW.Trod enc P w base spare held t v d p ∧ DataW.TrodAll enc P w base spare held ts vs' ds' q := by
  match vs, ds, h with
  | v :: vs, d :: ds, ⟨p, q, h1, h2, h3⟩ => exact ⟨v, vs, d, ds, p, q, rfl, rfl, h3, h1, h2⟩
theorem trodAll_nil {H : Type} {enc : TypeId × Value → H} {P : Program} {w : World} {base : Nat} {spare : Nat → Bool} {held : Bool} {vs : List Value} {ds : List (DataW H)} {ps : List MemPlace}
    (h : DataW.TrodAll enc P w base spare held [] vs ds ps) : vs = [] ∧ ds = [] ∧ ps = [] := by
  match vs, ds, h with
  | [], [], h => exact ⟨rfl, rfl, h⟩
theorem trodAll_mkc {H : Type} {enc : TypeId × Value → H} {P : Program} {w : World} {base : Nat} {spare : Nat → Bool} {held : Bool} {t : TypeId} {ts : List TypeId} {v : Value} {vs : List Value} {d : DataW H} {ds : List (DataW H)} {p q : List MemPlace}
    (h1 : DataW.Trod enc P w base spare held t v d p) (h2 : DataW.TrodAll enc P w base spare held ts vs ds q) : DataW.TrodAll enc P w base spare held (t :: ts) (v :: vs) (d :: ds) (p ++ q) := ⟨p, q, h1, h2, rfl⟩
instance : Inhabited Dro := ⟨⟨0, 0⟩⟩
theorem lifted15 (os : Os) (started : os.Started) (H : Type) (enc : TypeId × Value → H) :
    ReturnsInLeavingWide {} checked os 15 .any (Rows.wellTradedSpec.pre6 enc prog f15 Rows.wellTradedRow.domain false) (Rows.wellTradedSpec.post enc prog f15 false true false false) := by
  refine returnsInLeavingWide_of_change_sized (C := checked) own started at15
    (ChangeSpec.witness6 (enc := enc) (C := checked) false ⟨#[], #[.slice none 0 0], []⟩ 8 (by kernel_rfl) (by kernel_rfl) (by kernel_rfl) (by kernel_rfl)) ?_
  intro W base args ds gs before hval0 hW _ hsz0 _
  have hsz : (DataW.weightsEach prog (f15.params.toList ++ Rows.wellTradedSpec.plain.varTypes prog) (ds ++ gs)).all (· ≤ reachBytes) = true := hsz0
  clear hsz0
  have hval : ∀ (j : Nat) t v, f15.params[j]? = some t → args[j]? = some v → Value.okWide prog W .any base t v := hval0
  have hW' := hW
  obtain ⟨p, q, hA0, hV, rfl, _, _⟩ := hW
  have hA : DataW.TrodAll enc prog W 0 (fun _ => true) true f15.params.toList args.toList ds p := hA0
  have hps : f15.params = #[27] := by kernel_rfl
  rw [hps] at hA hval hsz
  obtain ⟨args⟩ := args
  have r0 : DataW.TrodAll enc prog W 0 (fun _ => true) true [27] args ds p := hA
  obtain ⟨v0, vs0, d0, ds0, p0, q0, hv0, hd0, hp0, h0, r1⟩ := trodAll_cons r0
  obtain ⟨hvn, hdn, hpn⟩ := trodAll_nil r1
  subst hvn hdn hpn
  subst hv0 hd0 hp0
  obtain ⟨rfl, rfl⟩ := trodVars_none hV
  have u3 : prog.underlying 3 = some (.int .i64) := by kernel_rfl
  have u27 : prog.underlying 27 = some (.slice 3) := by kernel_rfl
  have u4 : prog.underlying 4 = some .bool := by kernel_rfl
  have c3 : prog.cellsOf 3 = 1 := by kernel_rfl
  have b3 : prog.bytesOf 3 = 8 := by kernel_rfl
  have hlt : ∀ x ∈ p0 ++ [], x.block < W.heap.size := fun x hx => by simpa using hW'.lt x (by simpa using hx)
  have hargs : ∀ (W' : World), Below W.heap.size W W' → DataW.TrodAll enc prog W' 0 (fun b => decide (b < W.heap.size)) true [27] [v0] [d0] (p0 ++ []) := fun W' hn =>
    trodAll_mkc (Below.trod laidOut (by kernel_rfl) (of_decide_eq_true (by kernel_rfl)) h0 hn fun x hx => hlt x (by simp [hx])) (rfl)
  obtain ⟨ns0, sn0, ok0, hbig0⟩ := arg_ints u27 u3 c3 (hval 0 27 v0 rfl rfl) h0
  have hln0 : ns0.length < 4611686018427387904 := by
    rcases hbig0 with rfl | ⟨es, sp, rfl, hle⟩
    · simp
    · have := sized_slice hsz (j := 0) (t := 27) (e := 3) rfl rfl u27
      rw [b3] at this
      simp only [reachBytes] at this
      omega
  obtain ⟨M, last, o, w', t', r1, r2, r3, r4⟩ := law_run1 (g := 15) (fn := f15) at15 body15 (by kernel_rfl) W [v0] (Nat.le_of_ble_eq_true (by kernel_rfl : Nat.ble 1 f15.ntmps = true))
    (by
      intro v hv
      simp only [List.mem_cons, List.not_mem_nil, or_false] at hv
      rcases hv with rfl
      · exact ok0)
    (fun Post => walk15 (K := fun v _ => v = .bool true) sn0 hln0 fun _ => rfl)
  refine ⟨M, last, o, w', t', r1, r2, r3, r4.mono fun v hF => ?_⟩
  obtain ⟨rfl, hbelow⟩ := hF
  refine ⟨_, _, _, [], _, [], hW', ?_, hargs _ hbelow, by rfl, hbelow.frame _, fun h => by cases h⟩
  exact trodAll_mk1 (shut_bool u4 true)
theorem wellTraded_holds : Rows.WellTradedSaid :=
  OpenClaim.holds_of_wide_leaving 15 f15 rfl rfl rfl rfl rfl rfl rfl ⟨rfl, rfl, rfl, rfl, rfl⟩ rfl rfl rfl rfl rfl (by kernel_rfl) at15 (by kernel_rfl)
    (of_decide_eq_true (by kernel_rfl)) (by unfold Func.isWrapper; first | (rw [if_pos (by decide +kernel)]; kernel_rfl) | (rw [if_neg (by decide +kernel)]; exact ⟨rfl, rfl⟩))
    (fun os started H enc _ => lifted15 os started H enc)
#print axioms wellTraded_holds
end Go.Proofs.Ytindillghipjjaa
