/- Parts of the proof, 4. No conditions. -/
import Derived.Test.YtindillghipjjaaK3
import Derived.Test.YtindillghipjjaaK2
import Derived.Conc.Holds
import Derived.Conc.Beside
import Derived.Conc.CrowdComm
import Derived.Conc.TokenTrace
import Derived.Conc.Own2
namespace Go.Proofs.Ytindillghipjjaa
open Go.Conc Go.Proofs.Try
set_option maxRecDepth 100000
def stayH (all from_ days : Nat) (n : Int) : List Int := (List.range all).map fun i => if from_ ≤ i ∧ i < from_ + days then n else 0
def fedB (p : Pas) (heads : List Int) (s : SkyR) : Bool := (rainsB s).all fun w => decide (starvR p heads w < 0)
def stayB (p : Pas) (s : SkyR) (n from_ days : Int) : Bool := fedB p (stayH s.days.toNat from_.toNat days.toNat n) s
def topH (q : Int → Bool) : Nat → Int
  | 0 => 0
  | n + 1 => if q ((n + 1 : Nat) : Int) = true then ((n + 1 : Nat) : Int) else topH q n
def headE (p : Pas) (s : SkyR) (from_ days : Int) : Int :=
  if fst2 (pasE p) (skyE s) ≠ 0 then fst2 (pasE p) (skyE s) else if ¬ (0 ≤ from_ ∧ from_ ≤ s.days - 1) then 3 else if ¬ (1 ≤ days ∧ days ≤ s.days - from_) then 1 else 0
def headN (p : Pas) (s : SkyR) (from_ days : Int) : Int := if headE p s from_ days = 0 then topH (fun n => stayB p s n from_ days) 40 else 0
theorem stayH_len {a f d : Nat} {n : Int} : (stayH a f d n).length = a := by simp [stayH]
theorem stayH_get {a f d i : Nat} {n : Int} (h : i < a) : (stayH a f d n)[i]? = some (if f ≤ i ∧ i < f + d then n else 0) := by
  unfold stayH
  rw [List.getElem?_map, List.getElem?_range h]
  rfl
theorem stayH_getD {a f d i : Nat} {n : Int} (h : i < a) : (stayH a f d n).getD i 0 = if f ≤ i ∧ i < f + d then n else 0 := by
  rw [List.getD_eq_getElem?_getD, stayH_get h]
  rfl
theorem stayH_out {a f d i : Nat} {n : Int} (h : f + d ≤ i) : (stayH a f d n).getD i 0 = 0 := by
  by_cases e : i < a
  · rw [stayH_getD e, if_neg (by omega)]
  · rw [List.getD_eq_getElem?_getD, List.getElem?_eq_none (by rw [stayH_len]; omega)]
    rfl
theorem stayH_zero {a f : Nat} {n : Int} : stayH a f 0 n = List.replicate a 0 := by
  apply List.ext_getElem?
  intro i
  by_cases h : i < a
  · rw [stayH_get h, if_neg (by omega), List.getElem?_replicate, if_pos h]
  · rw [List.getElem?_eq_none (by rw [stayH_len]; omega), List.getElem?_eq_none (by simp; omega)]
theorem stayH_set {a f d : Nat} {n : Int} (h : f + d < a) : (stayH a f d n).set (f + d) n = stayH a f (d + 1) n := by
  apply List.ext_getElem?
  intro i
  rw [List.getElem?_set]
  by_cases e : f + d = i
  · subst e
    rw [if_pos rfl, stayH_len, if_pos h, stayH_get h, if_pos (by omega)]
  · rw [if_neg e]
    by_cases hi : i < a
    · rw [stayH_get hi, stayH_get hi]
      congr 1
      by_cases x : f ≤ i ∧ i < f + d
      · rw [if_pos x, if_pos (by omega)]
      · rw [if_neg x, if_neg (by omega)]
    · rw [List.getElem?_eq_none (by rw [stayH_len]; omega), List.getElem?_eq_none (by rw [stayH_len]; omega)]
theorem stayH_ok {a f d : Nat} {n : Int} (h : 0 ≤ n ∧ n ≤ 40) : headsOk (stayH a f d n) := by
  intro x hx
  unfold stayH at hx
  obtain ⟨i, _, rfl⟩ := List.mem_map.1 hx
  split
  · exact h
  · exact ⟨Int.le_refl _, by decide⟩
theorem stay_after {p : Pas} {a f d : Nat} {n : Int} {w : List UInt8} (fp : pasOk p) (hn : 0 ≤ n ∧ n ≤ 40) {i : Nat} (h : f + d ≤ i) : hungAt p (stayH a f d n) w i = false := by
  unfold hungAt hungR
  rw [stayH_out h]
  have := (stdR_ok (rain := w) fp (stayH_ok (a := a) (f := f) (d := d) hn) i).g
  exact decide_eq_false (by omega)
theorem starv_none {p : Pas} {a f d : Nat} {n : Int} {w : List UInt8} (fp : pasOk p) (hn : 0 ≤ n ∧ n ≤ 40) (h : ∀ i, i < f + d → hungAt p (stayH a f d n) w i = false) : starvR p (stayH a f d n) w < 0 := by
  have : starvR p (stayH a f d n) w = -1 := fstH_none fun i _ => by
    by_cases e : i < f + d
    · exact h i e
    · exact stay_after fp hn (by omega)
  rw [this]
  decide
theorem starv_some {p : Pas} {heads : List Int} {w : List UInt8} {i : Nat} (hi : i < w.length) (h : hungAt p heads w i = true) : ¬ starvR p heads w < 0 := by
  have := fstH_pos (q := hungAt p heads w) h hi
  unfold starvR
  omega
section
variable {main : Bool} {J : JT} {h H : List AObj} {K : Value → List AObj → Prop} {KV : Value → Prop} {HL : List AObj → Prop} {n0 : Nat}
theorem eqlW {t : TypeId} {b : UInt8} (hk : KV (.bool (wetB b))) : aBin prog .eql t (.int .u8 b.toNat) (.int .u8 119) KV := by
  have e119 : (Value.int .u8 119) = .int .u8 (119 : UInt8).toNat := rfl
  rw [e119]
  exact eqlU hk
noncomputable abbrev lpS (st : LoopState) (pend : Option Code) (r : Nat → Value) (d : Nat) : AObj := .loop st pend 115 r 60 #[35] (subC [1, 0, 1, 1, 1, 1, 0, 1, 0, 0] (codeOf f115)) (subC [1, 0, 1, 1, 1, 1, 0, 1, 0, 1] (codeOf f115)) d
theorem roundS (hJ : Closed prog main J) {l d p5 p8 p9 p11 p13 pl a fr dy : Nat} {R : Nat → Value} {p : Pas} {n : Int} {w : List UInt8} {Q : Value → List AObj → Prop} (f : pasOk p) (hn : 0 ≤ n ∧ n ≤ 40) (ha : a ≤ 8) (hfd : fr + dy ≤ a) (hw : w.length = a)
    (hl : H[l]? = some (lpS .ready none R d)) (r5 : R 5 = ptr p5 0) (r8 : R 8 = ptr p8 0) (r9 : R 9 = ptr p9 0) (r11 : R 11 = ptr p11 0) (r13 : R 13 = ptr p13 0)
    (c5 : H[p5]? = some (.cells p.cells true 0)) (c8 : H[p8]? = some (.cells [vint (fr : Nat)] true 0)) (c9 : H[p9]? = some (.cells [vint (dy : Nat)] true 0)) (c11 : H[p11]? = some (.cells [.slice (some ⟨pl, 0, none⟩) a a] true 0)) (cl : H[pl]? = some (.cells ((stayH a fr dy n).map vint) true 0)) (c13 : H[p13]? = some (.cells [.bool true] true 0))
    (n5 : p5 ≠ l) (n8 : p8 ≠ l) (n9 : p9 ≠ l) (n11 : p11 ≠ l) (n13 : p13 ≠ l) (nl : pl ≠ l)
    (k1 : ∀ H', starvR p (stayH a fr dy n) w < 0 → SameX [l] H H' → H'[l]? = some (lpS .ready none R d) → Q (.bool true) H')
    (k2 : ∀ H', ¬ starvR p (stayH a fr dy n) w < 0 → SameX [l, p13] H H' → H'[l]? = some (lpS .done (some (.exit 2)) R d) → H'[p13]? = some (.cells [.bool false] true 0) → Q (.bool false) H') :
    callV prog (Good prog J) (.func (.yield l) ⟨[]⟩ ⟨[]⟩) [strV w] H Q := by
  show Good prog J (yid prog l) [strV w] H Q
  refine good_round hJ hl rfl (by decide) fun ok => W_sound hJ mixed _ ?_
  rw [a115_2]
  refine ⟨rfl, none, _, _, _, _, _, _, _, hl, W_sound hJ mixed _ ?_⟩
  rw [b115_2]
  have hll := lt_of_get hl
  have hl3 : (H.set l (lpS .busy none R d))[l]? = some (lpS .busy none R d) := List.getElem?_set_self hll
  have S3 : SameX [l] H (H.set l (lpS .busy none R d)) := SameX.refl.set (.inl (by simp))
  generalize H.set l (lpS .busy none R d) = H3 at hl3 S3
  have hsl := S3.1
  show aLoad true 6 (R 5) _ _
  rw [r5]
  refine load_part (c := p.cells) (S3.get c5 (by simpa using n5)) (by simp [Pas.cells]) rfl rfl ?_
  refine good128 hJ fun H4 m em S4 c4 hm => ?_
  have S04 : SameX [l] H H4 := S3.trans S4.weak0
  show aLoad false 1 (R 8) _ _
  rw [r8]
  refine ldI (v := vint (fr : Nat)) (S04.get c8 (by simpa using n8)) rfl rfl ?_
  show aLoad false 1 (R 9) _ _
  rw [r9]
  refine ldI (v := vint (dy : Nat)) (S04.get c9 (by simpa using n9)) rfl rfl (addI (by omega) ?_)
  have hho := stayH_ok (a := a) (f := fr) (d := dy) hn
  have e5 : ((fr : Nat) : Int) + ((dy : Nat) : Int) = ((fr + dy : Nat) : Int) := by omega
  rw [e5]
  have h3 : H.length ≤ m := by omega
  have hl4 := S4.get hl3 (by simp)
  refine l115_3 hJ (fun k : Nat => fr + dy - k) (fun k F H' => k ≤ fr + dy ∧ SameX [m] H4 H' ∧ H'[m]? = some (.cells (medC p (stdR p (stayH a fr dy n) w k)) true 0) ∧ (∀ i, i < k → hungAt p (stayH a fr dy n) w i = false) ∧ F.r 11 = ptr p11 0 ∧ F.r 13 = ptr p13 0 ∧ F.r 14 = strV w ∧ F.r 15 = ptr m 0 ∧ F.r 40 = vint ((fr + dy : Nat) : Int) ∧ F.r 41 = vint (k : Nat)) ?_ (s := 0)
    (.inl ⟨by omega, SameX.refl, c4, fun i hi => absurd hi (Nat.not_lt_zero _), r11, r13, rfl, rfl, rfl, rfl⟩)
  rintro k F H' ⟨hk, S, cm, hno, q11, q13, q14, q15, q40, q41⟩ okc hnc
  rw [s115_3, q11, q13, q14, q15, q40, q41]
  have T : SameX [l] H H' := S04.thru S (by simp; omega)
  have hlH : H'[l]? = some (lpS .busy none R d) := S.get hl4 (by simp; omega)
  have hll' := lt_of_get hlH
  have d11 := T.get c11 (by simpa using n11)
  have dl := T.get cl (by simpa using nl)
  have l11 := lt_of_get c11
  have ll := lt_of_get cl
  have hT := T.1
  refine lssI (cndI (fun hlt => ?_) fun hge => ?_)
  rotate_left
  · have : k = fr + dy := by omega
    subst this
    refine ⟨.busy, none, _, _, _, _, _, _, _, hlH, .inl (k1 _ (starv_none f hn hno) (T.set (.inl (by simp))) (List.getElem?_set_self hll'))⟩
  have hka : k < a := by omega
  have hb : w[k]? = some (w.getD k 0) := by
    rw [List.getD_eq_getElem?_getD, List.getElem?_eq_getElem (by omega)]
    rfl
  have hbd := headsOk_getD hho k
  refine ⟨[p11, pl], ldI (v := .slice (some ⟨pl, 0, none⟩) a a) d11 rfl rfl ⟨by simp [RdOk, ptr, ptrBlk], idxI ⟨by omega, by omega⟩ ?_⟩⟩
  have hx : ((stayH a fr dy n).map vint)[0 + ((k : Nat) : Int).toNat * 1]? = some (vint ((stayH a fr dy n).getD k 0)) := by
    rw [Int.toNat_natCast, Nat.mul_one, Nat.zero_add, List.getElem?_map, stayH_get hka, stayH_getD hka]
    rfl
  refine ldI (v := vint ((stayH a fr dy n).getD k 0)) dl hx rfl ⟨by simp [RdOk, ptr, ptrBlk], byteI hb (eqlW ?_)⟩
  refine good129 hJ cm f (stdR_ok f hho k) ⟨hbd.1, by omega⟩ fun H8 S8 c8' => ⟨sbTwo S8 (by omega) (by omega) (by simp; omega) (by simp; omega), ext0 (ext1 (cndB (fun hy => ?_) fun hno' => ?_))⟩
  · have T8 : SameX [l] H H8 := T.thru S8 (by simp; omega)
    refine qSt (T8.get c13 (by simpa using n13)) (by simp) rfl rfl fun H9 S9 c9' l9 => ?_
    have hl8 := S8.get hlH (by simp; omega)
    have hl9 := S9.get hl8 (by simpa using n13.symm)
    have hll9 := lt_of_get hl9
    refine ⟨.busy, none, _, _, _, _, _, _, _, hl9, .inl (k2 _ (starv_some (i := k) (by omega) hy) ?_ (List.getElem?_set_self hll9) (get_set c9' n13))⟩
    exact ((T8.weak (by simp)).trans (S9.weak (by simp))).set (.inl (by simp))
  · refine addI (by omega) ⟨k + 1, by dsimp only; omega, .inl ⟨by omega, S.trans S8, c8', fun i hi => ?_, q11, q13, q14, q15, q40, by show vint _ = vint _; congr 1⟩⟩
    by_cases e : i = k
    · rw [e]
      exact hno'
    · exact hno i (by omega)
theorem good115 (hJ : Closed prog main J) {p : Pas} {s : SkyR} {n : Int} {fr dy : Nat} (f : pasOk p) (g : skyOk s) (hn : 0 ≤ n ∧ n ≤ 40) (hfd : ((fr + dy : Nat) : Int) ≤ s.days)
    (hK : ∀ H', SameX [] H H' → K (.bool (stayB p s n fr dy)) H') : Good prog J 115 [.agg ⟨p.cells⟩, .agg ⟨s.cells⟩, vint n, vint (fr : Nat), vint (dy : Nat)] H K := by
  refine g115 hJ fun ok => ?_
  rw [e115]
  obtain ⟨g1, g2, g3⟩ := id g
  obtain ⟨a, ha⟩ := Int.eq_ofNat_of_zero_le (by omega : (0 : Int) ≤ s.days)
  have ea : s.days.toNat = a := by omega
  refine qBox (l := p.cells) rfl fun H1 p5 e1 S1 c5 l1 => qBox (l := s.cells) rfl fun H2 p6 e2 S2 c6 l2 => qBox1 rfl rfl fun H3 p8 e3 S3 c8 l3 => qBox1 rfl rfl fun H4 p9 e4 S4 c9 l4 => ?_
  have c64 := S4.get (S3.get c6 (by simp)) (by simp)
  refine offI (ldI (v := vint s.days) c64 rfl rfl ⟨by decide, ?_⟩)
  have hrm : (2000 : Nat) < room := by decide
  refine ⟨by omega, Int.le_refl _, by omega, ?_⟩
  rw [ea]
  have zl : ∀ k, zrep [vint 0] k = (List.replicate k (0 : Int)).map vint := by
    intro k
    induction k with
    | zero => rfl
    | succ k ih =>
      show [vint 0] ++ zrep [vint 0] k = _
      rw [ih, List.replicate_succ]
      rfl
  generalize hH5 : H4 ++ [AObj.cells (zrep [vint 0] a) true 0] = H5
  have c4l : H5[H4.length]? = some (.cells ((stayH a fr 0 n).map vint) true 0) := by rw [← hH5, zl, stayH_zero]; simp
  have S5 : SameX [] H4 H5 := by rw [← hH5]; exact SameX.refl.app
  have hl5 : H5.length = H4.length + 1 := by rw [← hH5]; simp
  generalize hpl : H4.length = pl at c4l hl5
  refine qAl fun H6 p11 e6 S6 c11 l6 => qSt c11 (by simp) rfl rfl fun H7 S7 c11' l7 => ?_
  have c11' : H7[p11]? = some (.cells [.slice (some ⟨pl, 0, none⟩) a a] true 0) := c11'
  have S57 : SameX [] H5 H7 := S6.thru S7 (by simp; omega)
  have S47 : SameX [] H4 H7 := S5.trans S57
  have T7 : SameX [] H H7 := (((S1.trans S2).trans S3).trans S4).trans S47
  have d9 := S47.get c9 (by simp)
  have d8 := S47.get (S4.get c8 (by simp)) (by simp)
  have d6 := S47.get c64 (by simp)
  have d5 := S47.get (S4.get (S3.get (S2.get c5 (by simp)) (by simp)) (by simp)) (by simp)
  have dl := S57.get c4l (by simp)
  refine ldI (v := vint (dy : Nat)) d9 rfl rfl ?_
  refine l115_1 hJ (fun i : Nat => dy - i) (fun i F H' => i ≤ dy ∧ SameX [pl] H7 H' ∧ H'[pl]? = some (.cells ((stayH a fr i n).map vint) true 0) ∧ F.ds = [] ∧ F.r 2 = vint n ∧ F.r 5 = ptr p5 0 ∧ F.r 6 = ptr p6 0 ∧ F.r 8 = ptr p8 0 ∧ F.r 9 = ptr p9 0 ∧ F.r 11 = ptr p11 0 ∧ F.r 22 = vint (dy : Nat) ∧ F.r 23 = vint (i : Nat)) ?_ (s := 0)
    (.inl ⟨by omega, SameX.refl, dl, rfl, rfl, rfl, rfl, rfl, rfl, rfl, rfl, rfl⟩)
  rintro i F H' ⟨hi, S, cl, ds, r2, r5, r6, r8, r9, r11, r22, r23⟩ okc hnc
  rw [s115_1, r2, r6, r8, r11, r22, r23]
  have n8 : p8 ≠ pl := by omega
  have x11 := S.get c11' (by simp; omega)
  have x8 := S.get d8 (by simp; omega)
  refine lssI (cndI (fun hlt => ?_) fun hge => ?_)
  · refine ldI (v := .slice (some ⟨pl, 0, none⟩) a a) x11 rfl rfl (ldI (v := vint (fr : Nat)) x8 rfl rfl (addI (by omega) (idxI ⟨by omega, by omega⟩ ?_)))
    have e1 : 0 + (((fr : Nat) : Int) + ((i : Nat) : Int)).toNat * 1 = fr + i := by omega
    rw [e1]
    refine qSt cl (by simp [stayH_len]; omega) rfl rfl fun H8 S8 c8' l8 => addI (by omega) ⟨i + 1, by dsimp only; omega, .inl ⟨by omega, S.trans S8, ?_, ds, r2, r5, r6, r8, r9, r11, r22, by show vint _ = vint _; congr 1⟩⟩
    rw [c8', ← List.map_set, stayH_set (by omega)]
  have hid : i = dy := by omega
  subst hid
  -- the rains
  have hS := S.1
  refine qAl fun H8 p13 e8 S8 c13 l8 => qSt c13 (by simp) rfl rfl fun H9 S9 c13' l9 => ?_
  have c13' : H9[p13]? = some (.cells [.bool true] true 0) := c13'
  have S79 : SameX [] H' H9 := S8.thru S9 (by simp; omega)
  have S69 : SameX [pl] H7 H9 := S.trans S79.weak0
  refine load_part (c := s.cells) (S69.get d6 (by simp; omega)) (by simp [SkyR.cells]) rfl rfl ?_
  refine good125 hJ fun H10 ps S10 cs10 gs => ?_
  have T10 : SameX [pl] H7 H10 := S69.trans S10.weak0
  have TH : SameX [] H H10 := T7.thru T10 (by simp; omega)
  refine l115_2 hJ (first := []) (cap := [ptr ps 0]) rfl (by decide) ?_
  obtain ⟨R, hRe⟩ : ∃ R : RG, R = RG.p (RG.p (RG.p (RG.p F 24 (.bool (decide (((i : Nat) : Int) < ((i : Nat) : Int))))) 13 (ptr p13 0)) 33 (.agg ⟨s.cells⟩)) 34 (.func (.func 134) ⟨[]⟩ ⟨[ptr ps 0]⟩) := ⟨_, rfl⟩
  rw [← hRe]
  have R5 : R.r 5 = ptr p5 0 := by subst hRe; exact r5
  have R8 : R.r 8 = ptr p8 0 := by subst hRe; exact r8
  have R9 : R.r 9 = ptr p9 0 := by subst hRe; exact r9
  have R11 : R.r 11 = ptr p11 0 := by subst hRe; exact r11
  have R13 : R.r 13 = ptr p13 0 := by subst hRe; rfl
  have Rds : R.ds = [] := by subst hRe; exact ds
  clear hRe
  have hl11 : (H10 ++ [AObj.deferred] ++ [lpS .ready none R.r H10.length])[H10.length + 1]? = some (lpS .ready none R.r H10.length) := by
    rw [List.append_assoc]
    simp
  have hd11 : (H10 ++ [AObj.deferred] ++ [lpS .ready none R.r H10.length])[H10.length]? = some .deferred := by
    rw [List.append_assoc]
    simp
  have hln : (H10 ++ [AObj.deferred] ++ [lpS .ready none R.r H10.length]).length = H10.length + 2 := by simp
  have S11 : SameX [] H10 (H10 ++ [AObj.deferred] ++ [lpS .ready none R.r H10.length]) := SameX.refl.app.app
  generalize hH11 : H10 ++ [AObj.deferred] ++ [lpS .ready none R.r H10.length] = H11 at hl11 hd11 hln S11
  have U : SameX [pl] H7 H11 := T10.trans S11.weak0
  have UH : SameX [] H H11 := TH.trans S11
  have w13 : H11[p13]? = some (.cells [.bool true] true 0) := S11.get (S10.get c13' (by simp)) (by simp)
  have wl : H11[pl]? = some (.cells ((stayH a fr i n).map vint) true 0) := S11.get (S10.get (S79.get cl (by simp)) (by simp)) (by simp)
  have w5 := U.get d5 (by simp; omega)
  have w8 := U.get d8 (by simp; omega)
  have w9 := U.get d9 (by simp; omega)
  have w11 := U.get c11' (by simp; omega)
  have ws : H11[ps]? = some (.cells s.cells true 0) := S11.get cs10 (by simp)
  have b5 := lt_of_get d5
  have b8 := lt_of_get d8
  have b9 := lt_of_get d9
  have b11 := lt_of_get c11'
  have bl := lt_of_get dl
  have b13 := lt_of_get c13'
  have bs := lt_of_get cs10
  have h10 := S10.1
  have fin : ∀ {b : Bool} {H' : List AObj} {pend : Option Code}, b = stayB p s n fr i → SameX [H10.length + 1, p13] H11 H' → H'[p13]? = some (.cells [.bool b] true 0) → (H'[H10.length + 1]? = some (lpS .ready none R.r H10.length) ∨ H'[H10.length + 1]? = some (lpS .done (some (.exit 2)) R.r H10.length)) →
      ∀ v, endQ H10.length R (contX pl115 prog J 60 H.length 115 ct115 [1, 0, 1, 1, 1, 1, 0, 1, 0] (codeOf f115) [] (RetQ prog [.tmp 10] H.length K)) v H' := by
    intro b H' pend hb S h13 hl v
    have hd' := S.get hd11 (by simp; omega)
    have hfin : retL H.length K [H10.length] [.bool b] (H'.set (H10.length + 1) .dead) := by
      refine retLdef (get_set hd' (by omega)) (by simp [unk]) ?_
      rw [hb]
      exact hK _ (((UH.thru S (by simp; omega)).set (.inr (by omega))).set (.inr (by omega)))
    rcases hl with hl | hl
    · refine endQnorm hl (by simp) ?_
      rw [c115_2]
      show aLoad false 1 (R.r 13) _ _
      rw [R13, Rds]
      exact ldI (v := .bool b) (get_set h13 (by omega)) rfl rfl hfin
    · refine endQexit hl (by simp) ?_
      rw [c115_2x2]
      show aLoad false 1 (R.r 13) _ _
      rw [R13, Rds]
      exact ldI (v := .bool b) (get_set h13 (by omega)) rfl rfl hfin
  have es : stayB p s n fr i = (rainsB s).all fun w => decide (starvR p (stayH a fr i n) w < 0) := by
    unfold stayB fedB
    rw [ea, Int.toNat_natCast, Int.toNat_natCast]
  have RD : Rnd J (rainsB s) (.func (.yield (H10.length + 1)) ⟨[]⟩ ⟨[]⟩) [H10.length + 1, p13] H11
      (fun k O H' => O = [] ∧ H'[H10.length + 1]? = some (lpS .ready none R.r H10.length) ∧ H'[p13]? = some (.cells [.bool true] true 0) ∧ ∀ j w, j < k → (rainsB s)[j]? = some w → starvR p (stayH a fr i n) w < 0)
      (fun H' => H'[H10.length + 1]? = some (lpS .done (some (.exit 2)) R.r H10.length) ∧ H'[p13]? = some (.cells [.bool false] true 0) ∧ ∃ w ∈ rainsB s, ¬ starvR p (stayH a fr i n) w < 0) := by
    refine ⟨by simp; omega, fun h => by rw [h.1]; simp, fun T hi => ⟨hi.1, by rw [T.2 _ (.inl (by omega))]; exact hi.2.1, by rw [T.2 _ (.inl (by omega))]; exact hi.2.2.1, hi.2.2.2⟩, ?_⟩
    rintro k w O Ha Q hw Sa _ ⟨rfl, i1, i2, i3⟩ q1 q2
    have hwl := rainsB_len (List.mem_of_getElem? hw)
    have ga : ∀ {q : Nat} {o : AObj}, H11[q]? = some o → q ≠ H10.length + 1 → q ≠ p13 → Ha[q]? = some o := fun hq h1 h2 => Sa.get hq (by simp; exact ⟨h1, h2⟩)
    refine roundS hJ (a := a) (fr := fr) (dy := i) (pl := pl) f hn (by omega) (by omega) (by rw [hwl, ea]) i1 R5 R8 R9 R11 R13 (ga w5 (by omega) (by omega)) (ga w8 (by omega) (by omega)) (ga w9 (by omega) (by omega)) (ga w11 (by omega) (by omega)) (ga wl (by omega) (by omega)) i2 (by omega) (by omega) (by omega) (by omega) (by omega) (by omega) (fun Hb hs Sb hlb => ?_) fun Hb hs Sb hlb h13 => ?_
    · refine q1 [] Hb (Sb.weak (by simp)) (by simp) ⟨rfl, hlb, Sb.get i2 (by simp; omega), fun j u hj hu => ?_⟩
      by_cases e : j = k
      · rw [e, hw] at hu
        injection hu with hu
        rw [← hu]
        exact hs
      · exact i3 j u (by omega) hu
    · exact q2 Hb (Sb.weak (by simp)) ⟨hlb, h13, w, List.mem_of_getElem? hw, hs⟩
  refine good134 hJ g RD ⟨rfl, rfl, rfl⟩ ws (by simp; omega) ⟨rfl, hl11, w13, fun j w hj => absurd hj (Nat.not_lt_zero _)⟩ (fun Hb O Sb _ hi => ?_) fun Hb Sb st => ?_
  · obtain ⟨_, i1, i2, i3⟩ := hi
    refine fin (b := true) (pend := none) ?_ Sb i2 (.inl i1) _
    rw [es, eq_comm, List.all_eq_true]
    intro w hw
    obtain ⟨j, hj, e⟩ := List.mem_iff_getElem.1 hw
    exact decide_eq_true (i3 j w hj (by rw [List.getElem?_eq_getElem hj, e]))
  · obtain ⟨i1, i2, w, hw, hs⟩ := st
    refine fin (b := false) (pend := none) ?_ Sb i2 (.inr i1) _
    rw [es, eq_comm, List.all_eq_false]
    exact ⟨w, hw, by rw [decide_eq_false hs]; decide⟩
theorem topH_yes {q : Int → Bool} {m : Nat} (h : q m = true) : ∀ {N : Nat}, m ≤ N → (∀ k : Nat, m < k → k ≤ N → q k = false) → topH q N = m
  | 0, hm, _ => by
    have : m = 0 := by omega
    subst this
    rfl
  | N + 1, hm, hno => by
    unfold topH
    by_cases e : m = N + 1
    · subst e
      rw [if_pos h]
    · rw [if_neg (by rw [hno (N + 1) (by omega) (Nat.le_refl _)]; decide)]
      exact topH_yes h (by omega) fun k h1 h2 => hno k h1 (by omega)
theorem topH_none {q : Int → Bool} : ∀ {N : Nat}, (∀ k : Nat, 0 < k → k ≤ N → q k = false) → topH q N = 0
  | 0, _ => rfl
  | N + 1, hno => by
    unfold topH
    rw [if_neg (by rw [hno (N + 1) (by omega) (Nat.le_refl _)]; decide)]
    exact topH_none fun k h1 h2 => hno k h1 (by omega)
theorem good78 (hJ : Closed prog main J) {p : Pas} {s : SkyR} {fr dy : Int} (hK : ∀ H', SameX [] H H' → K (.tuple ⟨[vint (headN p s fr dy), vint (headE p s fr dy)]⟩) H') : Good prog J 78 [.agg ⟨p.cells⟩, .agg ⟨s.cells⟩, vint fr, vint dy] H K := by
  refine g78 hJ fun ok => ?_
  rw [e78]
  refine qBox (l := p.cells) rfl fun H1 p4 e1 S1 c4 l1 => qBox (l := s.cells) rfl fun H2 p5 e2 S2 c5 l2 => ?_
  have c42 := S2.get c4 (by simp)
  have T2 := S1.trans S2
  have b4 := lt_of_get c42
  have b5 := lt_of_get c5
  refine ⟨[p4, p5], load_part (c := p.cells) c42 (by simp [Pas.cells]) rfl rfl ⟨by simp [RdOk, ptr, ptrBlk], load_part (c := s.cells) c5 (by simp [SkyR.cells]) rfl rfl ⟨by simp [RdOk, ptr, ptrBlk], ?_⟩⟩⟩
  have sb : ∀ {H'}, SameX [] H2 H' → SameB (some [p4, p5]) H2 H' := fun S => sbTwo S b4 b5 (by simp) (by simp)
  refine good112 hJ ⟨sb SameX.refl, good113 hJ ⟨sb SameX.refl, by decide, fillP2 ⟨rfl, rfl⟩ ⟨rfl, rfl⟩ (qNew fun H3 p3 e3 S3 c3 l3 => ⟨sb S3, ?_⟩)⟩⟩
  refine good111 hJ (ownX_sli (ownX_new (s := 1) (n := 2) c3 rfl rfl)) ⟨sb S3, ?_⟩
  have T3 := T2.trans S3
  have c43 := S3.get c42 (by simp)
  have c53 := S3.get c5 (by simp)
  have fin : ∀ {e : Int} {H' : List AObj}, headE p s fr dy = e → e ≠ 0 → SameX [] H H' → retL H.length K [] [vint 0, vint e] H' := fun he h0 S => by
    have := hK _ S
    unfold headN at this
    rw [if_neg (by omega), he] at this
    exact retL_same (nu2 (by simp [unk]) (by simp [unk])) this
  refine neqI (cndI (fun h1 => fin ?_ h1 T3) fun h1 => ?_)
  · unfold headE; rw [if_pos h1]
  have hf : fst2 (pasE p) (skyE s) = 0 := by omega
  have f : pasOk p := by
    unfold fst2 at hf
    by_cases x : pasE p ≠ 0
    · rw [if_pos x] at hf
      exact absurd hf x
    · unfold pasE at x
      split at x
      · assumption
      · exact absurd (by decide) x
  have g : skyOk s := by
    unfold fst2 at hf
    by_cases x : pasE p ≠ 0
    · rw [if_pos x] at hf
      exact absurd hf x
    · rw [if_neg x] at hf
      unfold skyE at hf
      split at hf
      · assumption
      · cases hf
  obtain ⟨g1, g2, g3⟩ := id g
  refine offI (ldI (v := vint s.days) c53 rfl rfl (subI (by omega) (good114 hJ (notI (cndN (fun h2 => fin ?_ (by decide) T3) fun h2 => ?_)))))
  · unfold headE; rw [if_neg h1, if_pos h2]
  refine offI (ldI (v := vint s.days) c53 rfl rfl (subI (by omega) (good114 hJ (notI (cndN (fun h3 => fin ?_ (by decide) T3) fun h3 => ?_)))))
  · unfold headE; rw [if_neg h1, if_neg (not_not_intro h2), if_pos h3]
  have h0 : headE p s fr dy = 0 := by unfold headE; rw [if_neg h1, if_neg (not_not_intro h2), if_neg (not_not_intro h3)]
  obtain ⟨a, rfl⟩ := Int.eq_ofNat_of_zero_le (by omega : (0 : Int) ≤ fr)
  obtain ⟨b, rfl⟩ := Int.eq_ofNat_of_zero_le (by omega : (0 : Int) ≤ dy)
  refine l78_1 hJ (fun m : Nat => m) (fun m F H' => m ≤ 40 ∧ SameX [] H3 H' ∧ (∀ k : Nat, m < k → k ≤ 40 → stayB p s k (a : Nat) (b : Nat) = false) ∧ F.ds = [] ∧ F.r 2 = vint (a : Nat) ∧ F.r 3 = vint (b : Nat) ∧ F.r 4 = ptr p4 0 ∧ F.r 5 = ptr p5 0 ∧ F.r 11 = vint (m : Nat)) ?_ (s := 40)
    (.inl ⟨by omega, SameX.refl, fun k h1 h2 => absurd h1 (by omega), rfl, rfl, rfl, rfl, rfl, rfl⟩)
  rintro m F H' ⟨hm, S, hno, ds, r2, r3, r4, r5, r11⟩ okc hnc
  rw [s78_1, r2, r3, r4, r5, r11]
  have last : headN p s (a : Nat) (b : Nat) = m → retL H.length K [] [vint (m : Nat), vint 0] H' := fun he => by
    have := hK H' (T3.trans S)
    rw [he, h0] at this
    exact retL_same (nu2 (by simp [unk]) (by simp [unk])) this
  refine gtrI (cndI (fun hpos => ?_) fun hz => hold.2 ?_)
  · refine load_part (c := p.cells) (S.get c43 (by simp)) (by simp [Pas.cells]) rfl rfl (load_part (c := s.cells) (S.get c53 (by simp)) (by simp [SkyR.cells]) rfl rfl ?_)
    refine good115 hJ f g (by omega) (by omega) fun H4 S4 => notI (hold.2 ?_)
    rw [s78_2]
    show cnd (.bool (!stayB p s m (a : Nat) (b : Nat))) _ _
    refine cndB (fun hst => ?_) fun hst => ?_
    · have hst : stayB p s m (a : Nat) (b : Nat) = false := by simpa using hst
      show aBin prog .sub 3 (F.r 11) (vint 1) _
      rw [r11]
      refine subI (by omega) ⟨m - 1, by dsimp only; omega, .inl ⟨by omega, S.trans S4, fun k h1 h2 => ?_, ds, r2, r3, r4, r5, by show vint _ = vint _; congr 1; omega⟩⟩
      by_cases e : k = m
      · rw [e]
        exact hst
      · exact hno k (by omega) h2
    · have hst : stayB p s m (a : Nat) (b : Nat) = true := by simpa using hst
      show retL H.length K F.ds [F.r 11, vint 0] H4
      rw [ds, r11]
      have := hK H4 ((T3.trans S).trans S4)
      unfold headN at this
      rw [if_pos h0, topH_yes (q := fun n => stayB p s n (a : Nat) (b : Nat)) hst hm hno, h0] at this
      exact retL_same (nu2 (by simp [unk]) (by simp [unk])) this
  · have : m = 0 := by omega
    subst this
    rw [s78_2]
    show cnd (.bool false) _ _
    refine cnd_false.2 ?_
    show retL H.length K F.ds [F.r 11, vint 0] H'
    rw [ds, r11]
    refine last ?_
    unfold headN
    rw [if_pos h0]
    exact topH_none fun k h1 h2 => hno k (by omega) h2
end
def strsB : Nat → List (List UInt8)
  | 0 => [[]]
  | n + 1 => (strsB n).map (100 :: ·) ++ (strsB n).map (119 :: ·)
def fallX (s : SkyR) : Spl → List UInt8 → Bool
  | _, [] => true
  | x, c :: u => nextOk s x c && fallX s (nextX x c) u
theorem growB_strs {s : SkyR} : ∀ {n : Nat} {w : List UInt8} {x : Spl}, growB s n w x = ((strsB n).filter (fallX s x)).map (w ++ ·)
  | 0, w, x => by
    have e : List.filter (fallX s x) [[]] = [[]] := by
      rw [List.filter_cons, if_pos (show fallX s x [] = true by unfold fallX; rfl)]
      rfl
    show [w] = (List.filter (fallX s x) [[]]).map (w ++ ·)
    rw [e]
    simp
  | n + 1, w, x => by
    have part : ∀ c : UInt8, (if nextOk s x c = true then growB s n (w ++ [c]) (nextX x c) else []) = (((strsB n).map (c :: ·)).filter (fallX s x)).map (w ++ ·) := by
      intro c
      rw [List.filter_map]
      by_cases h : nextOk s x c = true
      · rw [if_pos h, growB_strs]
        have : (fallX s x ∘ fun x => c :: x) = fallX s (nextX x c) := by
          funext u
          show (nextOk s x c && fallX s (nextX x c) u) = _
          rw [h, Bool.true_and]
        rw [this, List.map_map]
        congr 1
        funext u
        simp
      · rw [if_neg h]
        have h' : nextOk s x c = false := by simpa using h
        have : (fallX s x ∘ fun x => c :: x) = fun _ => false := by
          funext u
          show (nextOk s x c && fallX s (nextX x c) u) = _
          rw [h', Bool.false_and]
        rw [this]
        simp
    unfold growB strsB
    rw [part, part, List.filter_append, List.map_append]
theorem rainsB_strs {s : SkyR} : rainsB s = (strsB s.days.toNat).filter (fallX s (0, 0)) := by
  unfold rainsB
  rw [growB_strs]
  simp
theorem strsB_len : ∀ {n : Nat}, ∀ u ∈ strsB n, u.length = n ∧ ∀ c ∈ u, c = 100 ∨ c = 119
  | 0, u, hu => by
    rw [List.mem_singleton.1 hu]
    exact ⟨rfl, by simp⟩
  | n + 1, u, hu => by
    unfold strsB at hu
    rcases List.mem_append.1 hu with hu | hu <;> obtain ⟨v, hv, rfl⟩ := List.mem_map.1 hu <;> obtain ⟨h1, h2⟩ := strsB_len v hv
    · exact ⟨by rw [List.length_cons, h1], fun c hc => by
        rcases List.mem_cons.1 hc with h | h
        · exact .inl h
        · exact h2 c h⟩
    · exact ⟨by rw [List.length_cons, h1], fun c hc => by
        rcases List.mem_cons.1 hc with h | h
        · exact .inr h
        · exact h2 c h⟩
theorem strsB_few : ∀ {n : Nat}, (strsB n).length = 2 ^ n
  | 0 => rfl
  | n + 1 => by
    unfold strsB
    rw [List.length_append, List.length_map, List.length_map, strsB_few, Nat.pow_succ]
    omega
def splN (w : List UInt8) : Nat → Spl
  | 0 => (0, 0)
  | k + 1 => nextX (splN w k) (w.getD k 0)
theorem splN_row {w : List UInt8} : ∀ k, 0 ≤ (splN w k).2 ∧ (splN w k).2 ≤ k
  | 0 => ⟨Int.le_refl _, Int.le_refl _⟩
  | k + 1 => by
    have := splN_row (w := w) k
    unfold splN nextX
    split
    · exact ⟨by dsimp only; omega, by dsimp only; omega⟩
    · exact ⟨by dsimp only; omega, by dsimp only; omega⟩
theorem splN_letter {w : List UInt8} {k : Nat} : (splN w (k + 1)).1 = w.getD k 0 := by
  unfold splN nextX
  split <;> rfl
theorem fallX_drop {s : SkyR} {w : List UInt8} : ∀ {n k : Nat}, k + n = w.length → (fallX s (splN w k) (w.drop k) = true ↔ ∀ i, k ≤ i → i < w.length → nextOk s (splN w i) (w.getD i 0) = true)
  | 0, k, h => by
    rw [List.drop_of_length_le (by omega)]
    exact ⟨fun _ i h1 h2 => absurd h2 (by omega), fun _ => rfl⟩
  | n + 1, k, h => by
    have hk : k < w.length := by omega
    rw [List.drop_eq_getElem_cons hk]
    have hg : w[k] = w.getD k 0 := by
      rw [List.getD_eq_getElem?_getD, List.getElem?_eq_getElem hk]
      rfl
    rw [hg]
    show (nextOk s (splN w k) (w.getD k 0) && fallX s (nextX (splN w k) (w.getD k 0)) (w.drop (k + 1))) = true ↔ _
    have hs : nextX (splN w k) (w.getD k 0) = splN w (k + 1) := rfl
    rw [hs, Bool.and_eq_true, fallX_drop (n := n) (by omega)]
    constructor
    · rintro ⟨h1, h2⟩ i hi1 hi2
      by_cases e : i = k
      · rw [e]
        exact h1
      · exact h2 i (by omega) hi2
    · intro hh
      exact ⟨hh k (Nat.le_refl _) hk, fun i h1 h2 => hh i (by omega) h2⟩
theorem fallX_all {s : SkyR} {w : List UInt8} : fallX s (0, 0) w = true ↔ ∀ i, i < w.length → nextOk s (splN w i) (w.getD i 0) = true := by
  have := fallX_drop (s := s) (w := w) (n := w.length) (k := 0) (by omega)
  rw [List.drop_zero] at this
  exact this.trans ⟨fun h i hi => h i (Nat.zero_le _) hi, fun h i _ hi => h i hi⟩
theorem fallX_no {s : SkyR} {w : List UInt8} {i : Nat} (hi : i < w.length) (h : nextOk s (splN w i) (w.getD i 0) = false) : fallX s (0, 0) w = false := by
  cases e : fallX s (0, 0) w with
  | false => rfl
  | true =>
    have := fallX_all.1 e i hi
    rw [h] at this
    cases this
theorem next_row {s : SkyR} (g : skyOk s) {w : List UInt8} {i : Nat} : nextOk s (splN w i) (w.getD i 0) = decide (¬ (splN w (i + 1)).2 > (if w.getD i 0 = 119 then s.flood else s.drought)) := by
  obtain ⟨g1, g2, g3⟩ := g
  have e : splN w (i + 1) = nextX (splN w i) (w.getD i 0) := rfl
  rw [e]
  unfold nextOk nextX
  by_cases h : (splN w i).1 ≠ w.getD i 0
  · rw [if_pos h, if_pos h]
    refine (decide_eq_true ?_).symm
    dsimp only
    split <;> omega
  · rw [if_neg h, if_neg h]
    refine decide_eq_decide.2 ?_
    dsimp only
    split <;> omega
section
variable {main : Bool} {J : JT} {h H : List AObj} {K : Value → List AObj → Prop} {KV : Value → Prop} {HL : List AObj → Prop} {n0 : Nat}
theorem good118 (hJ : Closed prog main J) {n lo hi : Int} (hK : K (.bool (decide (lo ≤ n ∧ n ≤ hi))) h) : Good prog J 118 [vint n, vint lo, vint hi] h K := by
  refine g118 hJ fun ok => ?_
  rw [e118]
  refine geqI (cndI (fun h1 => leqI (retL_same (by simp [unk]) ?_)) fun h1 => retL_same (by simp [unk]) ?_)
  · simpa [pack, h1] using hK
  · simpa [pack, h1] using hK
theorem good116 (hJ : Closed prog main J) {p : Pas} (hK : K (vint (pasE p)) h) : Good prog J 116 [.agg ⟨p.cells⟩] h K := by
  refine g116 hJ fun ok => ?_
  rw [e116]
  refine qBox (l := p.cells) rfl fun H1 p1 e1 S1 c1 l1 => ?_
  have fin : ∀ e : Int, pasE p = e → retL h.length K [] [vint e] H1 := fun e he => by
    subst he
    exact retX ok (Nat.le_refl _) S1 (by simp) (by simp [unk]) (by simp [pack, VOk]) hK
  have no : ∀ {q : Prop}, (pasOk p → q) → ¬ q → retL h.length K [] [vint 1] H1 := fun a b => fin 1 (by unfold pasE; rw [if_neg fun x => b (a x)])
  refine offI (ldI (v := vint p.bears) c1 rfl rfl (good118 hJ (notI (cndN (fun h1 => hold.2 ?_) fun h1 => ?_))))
  · rw [s116_1]
    exact cnd_true.2 (no (fun x => x.1) h1)
  refine offI (ldI (v := vint p.grass) c1 rfl rfl (offI (ldI (v := vint p.bears) c1 rfl rfl (good118 hJ (notI (cndN (fun h2 => hold.2 ?_) fun h2 => ?_))))))
  · rw [s116_1]
    exact cnd_true.2 (no (fun x => x.2.1) h2)
  refine offI (ldI (v := vint p.dry) c1 rfl rfl (good118 hJ (notI (cndN (fun h3 => hold.2 ?_) fun h3 => ?_))))
  · rw [s116_1]
    exact cnd_true.2 (no (fun x => x.2.2.1) h3)
  refine offI (ldI (v := vint p.wet) c1 rfl rfl (offI (ldI (v := vint p.dry) c1 rfl rfl (good118 hJ (notI (cndN (fun h4 => hold.2 ?_) fun h4 => ?_))))))
  · rw [s116_1]
    exact cnd_true.2 (no (fun x => x.2.2.2.1) h4)
  refine offI (ldI (v := vint p.stubble) c1 rfl rfl (offI (ldI (v := vint p.bears) c1 rfl rfl (good118 hJ (notI (cndN (fun h5 => hold.2 ?_) fun h5 => ?_))))))
  · rw [s116_1]
    exact cnd_true.2 (no (fun x => x.2.2.2.2.1) h5)
  refine offI (ldI (v := vint p.sleep) c1 rfl rfl (good118 hJ (notI (hold.2 ?_))))
  rw [s116_1]
  refine cndN (fun h6 => no (fun x => x.2.2.2.2.2) h6) fun h6 => fin 0 ?_
  unfold pasE
  rw [if_pos ⟨h1, h2, h3, h4, h5, h6⟩]
theorem good117 (hJ : Closed prog main J) {s : SkyR} (hK : K (vint (skyE s)) h) : Good prog J 117 [.agg ⟨s.cells⟩] h K := by
  refine g117 hJ fun ok => ?_
  rw [e117]
  refine qBox (l := s.cells) rfl fun H1 p1 e1 S1 c1 l1 => ?_
  have fin : ∀ e : Int, skyE s = e → retL h.length K [] [vint e] H1 := fun e he => by
    subst he
    exact retX ok (Nat.le_refl _) S1 (by simp) (by simp [unk]) (by simp [pack, VOk]) hK
  have no : ∀ {q : Prop}, (skyOk s → q) → ¬ q → retL h.length K [] [vint 1] H1 := fun a b => fin 1 (by unfold skyE; rw [if_neg fun x => b (a x)])
  refine offI (ldI (v := vint s.days) c1 rfl rfl (good118 hJ (notI (cndN (fun h1 => hold.2 ?_) fun h1 => ?_))))
  · rw [s117_1]
    exact cnd_true.2 (no (fun x => x.1) h1)
  refine offI (ldI (v := vint s.drought) c1 rfl rfl (offI (ldI (v := vint s.days) c1 rfl rfl (good118 hJ (notI (cndN (fun h2 => hold.2 ?_) fun h2 => ?_))))))
  · rw [s117_1]
    exact cnd_true.2 (no (fun x => x.2.1) h2)
  refine offI (ldI (v := vint s.flood) c1 rfl rfl (offI (ldI (v := vint s.days) c1 rfl rfl (good118 hJ (notI (hold.2 ?_))))))
  rw [s117_1]
  refine cndN (fun h3 => no (fun x => x.2.2) h3) fun h3 => fin 0 ?_
  unfold skyE
  rw [if_pos ⟨h1, h2, h3⟩]
def stC (x : Std) : List Value := [vint x.1, vint x.2]
theorem good142 (hJ : Closed prog main J) {p : Pas} {x : Std} {n : Int} {w : Bool} (f : pasOk p) (o : StdOk p x) (hn : 0 ≤ n ∧ n ≤ 1000000)
    (hK : ∀ H', SameX [] H H' → K (.tuple ⟨[.agg ⟨stC (dayR p x n w)⟩, .bool (shortR p x n), .bool (hungR x n)]⟩) H') : Good prog J 142 [.agg ⟨p.cells⟩, .agg ⟨stC x⟩, vint n, .bool w] H K := by
  refine g142 hJ fun ok => ?_
  rw [e142]
  have og := o.g
  have oa := o.a
  have hb := leftR_bd o hn.1
  obtain ⟨f1, f2, f3, f4, f5, f6⟩ := f
  refine qBox (l := p.cells) rfl fun H1 p1 e1 S1 c1 l1 => qBox (l := stC x) rfl fun H2 p2 e2 S2 c2 l2 => qAl fun H3 p3 e3 S3 c3 l3 => ?_
  have c13 := S3.get (S2.get c1 (by simp)) (by simp)
  have c23 := S3.get c2 (by simp)
  have T3 := (S1.trans S2).trans S3
  refine offI (ldI (v := vint x.1) c23 rfl rfl (lssI (offI (ldI (v := vint x.1) c23 rfl rfl (subI (by omega) (maxI ?_))))))
  have el : max 0 (x.1 - n) = leftR x n := by unfold leftR; omega
  have eh : decide (x.1 < n) = hungR x n := by unfold hungR; exact decide_eq_decide.2 (by omega)
  rw [el, eh]
  have post : ∀ {F : RG}, F.ds = [] → F.r 3 = .bool w → F.r 4 = ptr p1 0 → F.r 5 = ptr p2 0 → F.r 8 = ptr p3 0 → F.r 11 = .bool (hungR x n) → F.r 12 = vint (leftR x n) → F.r 30 = .bool (shortR p x n) →
      W prog J 58 H.length 142 (subC [1, 1, 1, 0, 1] (codeOf f142)) F H3 (contX pl142 prog J 58 H.length 142 ct142 [1, 1, 1, 0, 1] (codeOf f142) [] (RetQ prog [.cell 8 173, .tmp 9, .tmp 10] H.length K)) := by
    intro F ds r3 r4 r5 r8 r11 r12 r30
    rw [s142_1, r3, r4, r5, r8, r11, r12, r30]
    have fin : ∀ {y : Std} {H4 : List AObj} {F' : RG}, dayR p x n w = y → SameX [p3] H3 H4 → H4[p3]? = some (.cells (stC y) true 0) → F'.ds = [] → F'.r 8 = ptr p3 0 → F'.r 9 = .bool (shortR p x n) → F'.r 10 = .bool (hungR x n) → RetQ prog [.cell 8 173, .tmp 9, .tmp 10] H.length K .ret F' H4 := fun hy S4 c4 q0 q8 q9 q10 => by
      subst hy
      refine retQs q0 (resW_cell (gg := true) (s := 2) (by kernel_rfl) ?_)
      rw [q8]
      refine load_part (c := stC (dayR p x n w)) c4 (by simp [stC]) rfl rfl (resW_tmp (by rw [q9]; simp [unk]) (resW_tmp (by rw [q10]; simp [unk]) (resW_nil ?_)))
      rw [q9, q10]
      exact hK _ (T3.thru S4 (by simp; omega))
    refine cndB (fun hs => ?_) fun hs => ?_
    · refine offI (ldI (v := vint p.sleep) c13 rfl rfl (fillO (l := [vint (leftR x n)]) rfl rfl rfl (by decide) (fillO (l := [vint p.sleep]) rfl rfl rfl (by rw [wrAt_length]; decide) (fillI ?_))))
      refine qStA (c := stC (leftR x n, p.sleep)) c3 rfl rfl rfl fun H4 S4 c4 l4 => fin (y := (leftR x n, p.sleep)) ?_ S4 c4 ds r8 (by rw [hs]; rfl) rfl
      unfold dayR
      rw [if_pos hs]
    · have hs' : ¬ shortR p x n = true := by rw [hs]; decide
      refine offI (ldI (v := vint x.2) c23 rfl rfl (gtrI (cndI (fun h0 => ?_) fun h0 => ?_)))
      · refine offI (ldI (v := vint x.2) c23 rfl rfl (subI (by omega) (fillO (l := [vint (leftR x n)]) rfl rfl rfl (by decide) (fillO (l := [vint (x.2 - 1)]) rfl rfl rfl (by rw [wrAt_length]; decide) (fillI ?_)))))
        refine qStA (c := stC (leftR x n, x.2 - 1)) c3 rfl rfl rfl fun H4 S4 c4 l4 => fin (y := (leftR x n, x.2 - 1)) ?_ S4 c4 ds r8 (by rw [hs]; rfl) rfl
        unfold dayR
        rw [if_neg hs', if_pos h0]
      · have hx2 : x.2 = 0 := by omega
        refine offI (ldI (v := vint p.dry) c13 rfl rfl (cndB (fun hw => ?_) fun hw => ?_))
        · refine offI (ldI (v := vint p.wet) c13 rfl rfl (offI (ldI (v := vint p.bears) c13 rfl rfl (addI (by omega) (minI (fillO (l := [vint (min p.bears (leftR x n + p.wet))]) rfl rfl rfl (by decide) (fillO (l := [vint 0]) rfl rfl rfl (by rw [wrAt_length]; decide) (fillI ?_))))))))
          refine qStA (c := stC (min p.bears (leftR x n + p.wet), 0)) c3 rfl rfl rfl fun H4 S4 c4 l4 => fin (y := (min p.bears (leftR x n + p.wet), 0)) ?_ S4 c4 ds r8 (by rw [hs]; rfl) rfl
          unfold dayR
          rw [if_neg hs', if_neg h0, if_pos hw, hx2]
        · refine offI (ldI (v := vint p.bears) c13 rfl rfl (addI (by omega) (minI (fillO (l := [vint (min p.bears (leftR x n + p.dry))]) rfl rfl rfl (by decide) (fillO (l := [vint 0]) rfl rfl rfl (by rw [wrAt_length]; decide) (fillI ?_))))))
          refine qStA (c := stC (min p.bears (leftR x n + p.dry), 0)) c3 rfl rfl rfl fun H4 S4 c4 l4 => fin (y := (min p.bears (leftR x n + p.dry), 0)) ?_ S4 c4 ds r8 (by rw [hs]; rfl) rfl
          unfold dayR
          rw [if_neg hs', if_neg h0, if_neg (by rw [hw]; decide), hx2]
  refine gtrI (cndI (fun h0 => ?_) fun h0 => hold.2 ?_)
  · refine offI (ldI (v := vint p.stubble) c13 rfl rfl (lssI (hold.2 ?_)))
    refine post rfl rfl rfl rfl rfl rfl rfl ?_
    show Value.bool _ = Value.bool _
    unfold shortR
    rw [decide_eq_true h0]
    rfl
  · refine post rfl rfl rfl rfl rfl rfl rfl ?_
    show Value.bool _ = Value.bool _
    unfold shortR
    rw [decide_eq_false h0]
    rfl
theorem good141 (hJ : Closed prog main J) {s : SkyR} {w : List UInt8} (g : skyOk s) (hl : (w.length : Int) = s.days) (hw : ∀ c ∈ w, c = 100 ∨ c = 119) (hK : ∀ H', SameX [] H H' → K (.bool (fallX s (0, 0) w)) H') : Good prog J 141 [.agg ⟨s.cells⟩, strV w] H K := by
  refine g141 hJ fun ok => ?_
  rw [e141]
  obtain ⟨g1, g2, g3⟩ := id g
  refine qBox (l := s.cells) rfl fun H1 p1 e1 S1 c1 l1 => lenStrI (offI (ldI (v := vint s.days) c1 rfl rfl (neqI (cndI (fun hne => absurd hl hne) fun _ => ?_))))
  refine l141_1 hJ (fun i : Nat => w.length - i) (fun i F H' => SameX [] H1 H' ∧ i ≤ w.length ∧ (∀ j, j < i → nextOk s (splN w j) (w.getD j 0) = true) ∧ F.ds = [] ∧ F.r 1 = strV w ∧ F.r 2 = ptr p1 0 ∧ F.r 5 = vint (splN w i).2 ∧ F.r 6 = vint (i : Nat)) ?_ (s := 0)
    (.inl ⟨SameX.refl, by omega, fun j hj => absurd hj (Nat.not_lt_zero _), rfl, rfl, rfl, rfl, rfl⟩)
  rintro i F H' ⟨S, hi, hno, ds, r1, r2, r5, r6⟩ okc hnc
  rw [s141_1, r1, r6, ds]
  refine lenStrI (lssI (cndI (fun hlt => ?_) fun hge => ?_))
  rotate_left
  · have : i = w.length := by omega
    subst this
    have := hK H' (S1.trans S)
    rw [fallX_all.2 hno] at this
    exact retL_same (by simp [unk]) this
  have hil : i < w.length := by omega
  have gi : w[i]? = some (w.getD i 0) := by rw [List.getD_eq_getElem?_getD, List.getElem?_eq_getElem hil]; rfl
  have hrow := splN_row (w := w) (i + 1)
  have hrow0 := splN_row (w := w) i
  have hlet := hw _ (List.mem_of_getElem? gi)
  have hnext := next_row g (w := w) (i := i)
  have cp := S.get c1 (by simp)
  -- behind the counting
  have post3 : ∀ {F' : RG}, F'.ds = [] → F'.r 1 = strV w → F'.r 2 = ptr p1 0 → F'.r 5 = vint (splN w (i + 1)).2 → F'.r 6 = vint (i : Nat) →
      W prog J 54 H.length 141 (subC [1, 1, 1, 0, 1, 0, 0, 1, 0, 0, 1] (codeOf f141)) F' H' (contX pl141 prog J 54 H.length 141 ct141 [1, 1, 1, 0, 1, 0, 0, 1, 0, 0, 1] (codeOf f141) [Nx H.length (fun i : Nat => w.length - i) (fun i F H' => SameX [] H1 H' ∧ i ≤ w.length ∧ (∀ j, j < i → nextOk s (splN w j) (w.getD j 0) = true) ∧ F.ds = [] ∧ F.r 1 = strV w ∧ F.r 2 = ptr p1 0 ∧ F.r 5 = vint (splN w i).2 ∧ F.r 6 = vint (i : Nat)) i] (RetQ prog [.tmp 4] H.length K)) := by
    intro F' ds r1 r2 r5 r6
    rw [s141_3, r1, r2, r5, r6]
    have e100 : (Value.int .u8 100) = .int .u8 (100 : UInt8).toNat := rfl
    have bad : ∀ {F2 : RG}, nextOk s (splN w i) (w.getD i 0) = false → F2.ds = [] → F2.r 53 = .bool true →
        W prog J 54 H.length 141 (subC [1, 1, 1, 0, 1, 0, 0, 1, 0, 0, 1, 1] (codeOf f141)) F2 H' (contX pl141 prog J 54 H.length 141 ct141 [1, 1, 1, 0, 1, 0, 0, 1, 0, 0, 1, 1] (codeOf f141) [Nx H.length (fun i : Nat => w.length - i) (fun i F H' => SameX [] H1 H' ∧ i ≤ w.length ∧ (∀ j, j < i → nextOk s (splN w j) (w.getD j 0) = true) ∧ F.ds = [] ∧ F.r 1 = strV w ∧ F.r 2 = ptr p1 0 ∧ F.r 5 = vint (splN w i).2 ∧ F.r 6 = vint (i : Nat)) i] (RetQ prog [.tmp 4] H.length K)) := by
      intro F2 hb d2 q53
      rw [s141_4, q53, d2]
      have := hK H' (S1.trans S)
      rw [fallX_no hil hb] at this
      exact cnd_true.2 (retL_same (by simp [unk]) this)
    have fine : ∀ {F2 : RG}, nextOk s (splN w i) (w.getD i 0) = true → F2.ds = [] → F2.r 1 = strV w → F2.r 2 = ptr p1 0 → F2.r 5 = vint (splN w (i + 1)).2 → F2.r 6 = vint (i : Nat) → F2.r 53 = .bool false →
        W prog J 54 H.length 141 (subC [1, 1, 1, 0, 1, 0, 0, 1, 0, 0, 1, 1] (codeOf f141)) F2 H' (contX pl141 prog J 54 H.length 141 ct141 [1, 1, 1, 0, 1, 0, 0, 1, 0, 0, 1, 1] (codeOf f141) [Nx H.length (fun i : Nat => w.length - i) (fun i F H' => SameX [] H1 H' ∧ i ≤ w.length ∧ (∀ j, j < i → nextOk s (splN w j) (w.getD j 0) = true) ∧ F.ds = [] ∧ F.r 1 = strV w ∧ F.r 2 = ptr p1 0 ∧ F.r 5 = vint (splN w i).2 ∧ F.r 6 = vint (i : Nat)) i] (RetQ prog [.tmp 4] H.length K)) := by
      intro F2 hb d2 q1 q2 q5 q6 q53
      rw [s141_4, q53, q6]
      refine cnd_false.2 (addI (by omega) ⟨i + 1, by dsimp only; omega, .inl ⟨S, by omega, fun j hj => ?_, d2, q1, q2, q5, by show vint _ = vint _; congr 1⟩⟩)
      by_cases e : j = i
      · rw [e]
        exact hb
      · exact hno j (by omega)
    refine byteI gi ?_
    rw [e100]
    refine eqlU (cndI (fun hd => ?_) fun hd => ?_)
    · have hno9 : ¬ w.getD i 0 = 119 := by rw [hd]; decide
      rw [if_neg hno9] at hnext
      refine offI (ldI (v := vint s.drought) cp rfl rfl (gtrI (cndI (fun hgt => hold.2 (bad ?_ ds rfl)) fun hle => byteI gi (eqlW ?_))))
      · rw [hnext]
        exact decide_eq_false (not_not_intro hgt)
      · have : wetB (w.getD i 0) = false := decide_eq_false hno9
        rw [this]
        refine cnd_false.2 (hold.2 (fine ?_ ds r1 r2 r5 r6 rfl))
        rw [hnext]
        exact decide_eq_true hle
    · have h9 : w.getD i 0 = 119 := hlet.resolve_left hd
      rw [if_pos h9] at hnext
      refine byteI gi (eqlW ?_)
      have : wetB (w.getD i 0) = true := decide_eq_true h9
      rw [this]
      refine cnd_true.2 (offI (ldI (v := vint s.flood) cp rfl rfl (gtrI (hold.2 ?_))))
      by_cases hgt : (splN w (i + 1)).2 > s.flood
      · rw [decide_eq_true hgt]
        refine bad ?_ ds rfl
        rw [hnext]
        exact decide_eq_false (not_not_intro hgt)
      · rw [decide_eq_false hgt]
        refine fine ?_ ds r1 r2 r5 r6 rfl
        rw [hnext]
        exact decide_eq_true hgt
  have post2 : ∀ {F' : RG} {z : Bool}, z = decide ((splN w i).1 = w.getD i 0 ∧ 0 < i) → F'.ds = [] → F'.r 1 = strV w → F'.r 2 = ptr p1 0 → F'.r 5 = vint (splN w i).2 → F'.r 6 = vint (i : Nat) → F'.r 29 = .bool z →
      W prog J 54 H.length 141 (subC [1, 1, 1, 0, 1, 0, 0, 1, 0, 0, 0, 1] (codeOf f141)) F' H' (contX pl141 prog J 54 H.length 141 ct141 [1, 1, 1, 0, 1, 0, 0, 1, 0, 0, 0, 1] (codeOf f141) [Nx H.length (fun i : Nat => w.length - i) (fun i F H' => SameX [] H1 H' ∧ i ≤ w.length ∧ (∀ j, j < i → nextOk s (splN w j) (w.getD j 0) = true) ∧ F.ds = [] ∧ F.r 1 = strV w ∧ F.r 2 = ptr p1 0 ∧ F.r 5 = vint (splN w i).2 ∧ F.r 6 = vint (i : Nat)) i] (RetQ prog [.tmp 4] H.length K)) := by
    intro F' z hz ds r1 r2 r5 r6 r29
    rw [s141_2, r29, r5]
    have e : splN w (i + 1) = nextX (splN w i) (w.getD i 0) := rfl
    cases z with
    | true =>
      have hc := of_decide_eq_true hz.symm
      refine cnd_true.2 (addI (by omega) (hold.2 (post3 ds r1 r2 ?_ r6)))
      rw [e]
      unfold nextX
      rw [if_neg (not_not_intro hc.1)]
      rfl
    | false =>
      have hc := of_decide_eq_false hz.symm
      refine cnd_false.2 (hold.2 (post3 ds r1 r2 ?_ r6))
      rw [e]
      unfold nextX
      by_cases hne : (splN w i).1 ≠ w.getD i 0
      · rw [if_pos hne]
        rfl
      · have hi0 : i = 0 := by
          rcases Nat.eq_zero_or_pos i with x | x
          · exact x
          · exact absurd ⟨Classical.not_not.1 hne, x⟩ hc
        have : (0 : UInt8) = w.getD i 0 := by
          have := Classical.not_not.1 hne
          rw [hi0] at this ⊢
          exact this
        rcases hlet with x | x <;> rw [x] at this <;> cases this
  refine gtrI (cndI (fun hpos => ?_) fun hz => hold.2 ?_)
  · have hip : 0 < i := by omega
    obtain ⟨k, rfl⟩ : ∃ k, i = k + 1 := ⟨i - 1, by omega⟩
    have gk : w[k]? = some (w.getD k 0) := by rw [List.getD_eq_getElem?_getD, List.getElem?_eq_getElem (by omega)]; rfl
    refine byteI gi (subI (by omega) ?_)
    rw [show (((k + 1 : Nat) : Int) - 1) = ((k : Nat) : Int) by omega]
    refine byteI gk (eqlU (hold.2 (post2 ?_ ds r1 r2 r5 r6 rfl)))
    refine decide_eq_decide.2 ?_
    rw [splN_letter]
    exact ⟨fun e => ⟨e.symm, by omega⟩, fun e => e.1.symm⟩
  · refine post2 (z := false) ?_ ds r1 r2 r5 r6 rfl
    exact (decide_eq_false fun e => hz (by omega)).symm
end
def strL (l : List (List UInt8)) : List Value := l.map strV
def endsR (p : Pas) (heads : List Int) (w : List UInt8) (k : Nat) : List Int := (List.range k).map fun i => (stdR p heads w (i + 1)).1
def daysR (q : Nat → Bool) (k : Nat) : List Int := ((List.range k).filter q).map Int.ofNat
theorem endsR_succ {p : Pas} {heads : List Int} {w : List UInt8} {k : Nat} : endsR p heads w (k + 1) = endsR p heads w k ++ [(stdR p heads w (k + 1)).1] := by simp [endsR, List.range_succ]
theorem daysR_succ {q : Nat → Bool} {k : Nat} : daysR q (k + 1) = daysR q k ++ (if q k = true then [(k : Int)] else []) := by
  unfold daysR
  rw [List.range_succ, List.filter_append, List.map_append]
  congr 1
  by_cases h : q k = true
  · rw [if_pos h]
    simp [h]
  · rw [if_neg h]
    simp [h]
theorem daysR_few {q : Nat → Bool} {k : Nat} : (daysR q k).length ≤ k := by
  unfold daysR
  rw [List.length_map]
  have := List.length_filter_le q (List.range k)
  rw [List.length_range] at this
  exact this
theorem daysR_none {q : Nat → Bool} {k : Nat} : (daysR q k).length = 0 ↔ fstH q k < 0 := by
  constructor
  · intro h
    have : fstH q k = -1 := fstH_none fun i hi => by
      cases e : q i with
      | false => rfl
      | true =>
        have hm : (i : Int) ∈ daysR q k := List.mem_map.2 ⟨i, List.mem_filter.2 ⟨List.mem_range.2 hi, e⟩, rfl⟩
        rw [List.length_eq_zero_iff.1 h] at hm
        cases hm
    rw [this]
    decide
  · intro h
    rw [List.length_eq_zero_iff]
    cases e : daysR q k with
    | nil => rfl
    | cons x l =>
      have hm : x ∈ daysR q k := by rw [e]; exact List.mem_cons_self
      unfold daysR at hm
      obtain ⟨i, hi, _⟩ := List.mem_map.1 hm
      obtain ⟨h1, h2⟩ := List.mem_filter.1 hi
      have := fstH_pos h2 (List.mem_range.1 h1)
      omega
section
variable {main : Bool} {J : JT} {h H : List AObj} {K : Value → List AObj → Prop} {KV : Value → Prop} {HL : List AObj → Prop} {n0 : Nat}
theorem strAdd {c : UInt8} {u : List UInt8} {t : TypeId} (hu : u.length ≤ 1000000) (hk : KV (strV (c :: u))) : aBin prog .add t (Value.string { data := #[c] }) (strV u) KV := by
  have hrm : (2000000 : Nat) < room := by decide
  show (ByteArray.mk #[c]).size + (ByteArray.mk ⟨u⟩).size ≤ room ∧ KV (.string (ByteArray.mk #[c] ++ ByteArray.mk ⟨u⟩))
  have e1 : (ByteArray.mk #[c]).size = 1 := rfl
  have e2 : (ByteArray.mk ⟨u⟩).size = u.length := rfl
  have e3 : ByteArray.mk #[c] ++ ByteArray.mk ⟨u⟩ = ByteArray.mk ⟨c :: u⟩ := by
    apply ByteArray.ext
    rw [ByteArray.data_append]
    apply Array.ext'
    rw [Array.toList_append]
    rfl
  rw [e1, e2, e3]
  exact ⟨by omega, hk⟩
theorem strGet {v : Value} {L : List (List UInt8)} {c : List Value} (hc : c = strL L) (hs : Sli H v 1 L.length c) {i : Nat} {u : List UInt8} (hu : L[i]? = some u) {K2 : Value → Value → Prop} (hK : ∀ p, K2 p (strV u)) : aIdx 1 v (vint (i : Nat)) fun p => aLoad false 1 p H (K2 p) := by
  subst hc
  have hi := (List.getElem?_eq_some_iff.1 hu).1
  exact idx_load hs ⟨by omega, by omega⟩ (by rw [Int.toNat_natCast]; unfold strL; rw [List.getElem?_map, hu]; rfl) hK
theorem strMore {v : Value} {L : List (List UInt8)} {o : Option Nat} {u : List UInt8} (O : OwnX H 1 (strL L) L.length v o) (hl : L.length < 90000)
    (hk : ∀ v' H' o', SameX o.toList H H' → OwnX H' 1 (strL (L ++ [u])) (L ++ [u]).length v' (some o') → H.length ≤ o' → K v' H') :
    (((1 * 1 : Nat) ≤ 16777216 ∧ (1 : Nat) ≤ 16777216 ∧ List.length [(Value.string { data := #[] })] = 1) ∧ aFill (zrep [(Value.string { data := #[] })] 1) [(0, 1, strV u)] fun c6 => aNewS 1 c6 H fun v7 h8 =>
      ((List.length [(Value.string { data := #[] })] = 1 ∧ 0 < (1 : Nat) ∧ 0 < (16 : Nat) ∧ (16 : Nat) ≤ 1024) ∧ aApp 1 v v7 h8 K)) := by
  refine ⟨by decide, fillO (l := [strV u]) rfl rfl rfl (by decide) (fillI (qNew fun H1 p1 e1 S1 c1 l1 => ⟨by decide, ?_⟩))⟩
  have c1 : H1[p1]? = some (.cells [strV u] true 0) := c1
  have h1 := S1.1
  refine ownX_more (ownX_keep O S1 (by simp)) (by omega) (by omega) (ownX_sli (ownX_new (s := 1) (n := 1) c1 rfl rfl)) fun v' H' p' e' O' S' => hk v' H' p' (S1.weak0.trans S') ?_ (by omega)
  unfold strL at O' ⊢
  rw [List.map_append, List.length_append]
  exact O'
theorem good140 (hJ : Closed prog main J) : ∀ (n : Nat) {H : List AObj} {K : Value → List AObj → Prop}, n ≤ 8 → (∀ H' v o, SameX [] H H' → OwnX H' 1 (strL (strsB n)) (strsB n).length v (some o) → H.length ≤ o → K v H') → Good prog J 140 [vint (n : Nat)] H K
  | 0, H, K, _, hK => by
    refine g140 hJ fun ok => ?_
    rw [e140]
    refine eqlI (cndI (fun _ => ?_) fun hx => absurd rfl hx)
    refine ⟨by decide, fillO (l := [strV []]) rfl rfl rfl (by decide) (fillI (qNew fun H1 p1 e1 S1 c1 l1 => ?_))⟩
    have c1 : H1[p1]? = some (.cells [strV []] true 0) := c1
    have O := ownX_new (s := 1) (n := 1) c1 rfl rfl
    exact retL_same (by simp [unk]) (hK H1 _ p1 S1 O (by omega))
  | n + 1, H, K, hn, hK => by
    refine g140 hJ fun ok => ?_
    rw [e140]
    refine eqlI (cndI (fun hx => absurd hx (by omega)) fun _ => subI (by omega) ?_)
    rw [show (((n + 1 : Nat) : Int) - 1) = ((n : Nat) : Int) by omega]
    refine good140 hJ n (by omega) fun H1 av ao S1 A1 hao => ?_
    have hlen := strsB_few (n := n)
    have hpow : 2 ^ n ≤ 2 ^ 8 := Nat.pow_le_pow_right (by decide) (by omega)
    have hu : ∀ (i : Nat) (u : List UInt8), (strsB n)[i]? = some u → u.length ≤ 8 := fun i u hi => by
      have := (strsB_len u (List.mem_of_getElem? hi)).1
      omega
    let A := (strsB n).map (100 :: ·)
    refine l140_1 hJ (fun i : Nat => (strsB n).length - i) (fun i F H' => ∃ v o, SameX [] H1 H' ∧ i ≤ (strsB n).length ∧ OwnX H' 1 (strL (A.take i)) (A.take i).length v o ∧ (∀ j, o = some j → H1.length ≤ j) ∧ F.ds = [] ∧ F.r 3 = v ∧ F.r 4 = av ∧ F.r 5 = vint (i : Nat)) ?_ (s := 0)
      (.inl ⟨.slice none 0 0, none, SameX.refl, by omega, ⟨rfl, rfl, .inl ⟨rfl, rfl, rfl⟩⟩, by simp, rfl, rfl, rfl, rfl⟩)
    rintro i F Hc ⟨v, o, Sc, hi, O, ho, ds, r3, r4, r5⟩ okc hnc
    have Ac := ownX_keep A1 Sc (by simp)
    rw [s140_1, r3, r4, r5]
    refine lenI (ownX_sli Ac) (lssI (cndI (fun hlt => ?_) fun hge => ?_))
    · have hil : i < (strsB n).length := by omega
      have hui : (strsB n)[i]? = some (strsB n)[i] := List.getElem?_eq_getElem hil
      refine strGet rfl (ownX_sli Ac) hui fun p => strAdd (by have := hu i _ hui; omega) (strMore O (by simp [A]; omega) fun v' H5 o5 S5 O5 ho5 => addI (by omega) ⟨i + 1, by dsimp only; omega, .inl ⟨v', some o5, Sc.thru S5 fun y hy => .inr (ho y (by simpa using hy)), by omega, ?_, fun j hj => by cases hj; have := Sc.1; omega, ds, rfl, r4, by show vint _ = vint _; congr 1⟩⟩)
      have e : A.take (i + 1) = A.take i ++ [100 :: (strsB n)[i]] := by
        rw [List.take_add_one]
        congr 1
        rw [List.getElem?_map, hui]
        rfl
      rw [e]
      exact O5
    have hie : i = (strsB n).length := by omega
    subst hie
    have eA : A.take (strsB n).length = A := List.take_of_length_le (by simp [A])
    rw [eA] at O
    let B := (strsB n).map (119 :: ·)
    refine l140_2 hJ (fun i : Nat => (strsB n).length - i) (fun i F H' => ∃ v o, SameX [] H1 H' ∧ i ≤ (strsB n).length ∧ OwnX H' 1 (strL (A ++ B.take i)) (A ++ B.take i).length v o ∧ (∀ j, o = some j → H1.length ≤ j) ∧ F.ds = [] ∧ F.r 3 = v ∧ F.r 4 = av ∧ F.r 6 = vint (i : Nat)) ?_ (s := 0)
      (.inl ⟨v, o, Sc, by omega, by simpa using O, ho, ds, r3, r4, rfl⟩)
    clear ds r3 r4 r5 okc hnc O ho Ac Sc
    rintro i F Hd ⟨v, o, Sc, hi, O, ho, ds, r3, r4, r6⟩ okc hnc
    have Ac := ownX_keep A1 Sc (by simp)
    rw [s140_2, r3, r4, r6, ds]
    refine lenI (ownX_sli Ac) (lssI (cndI (fun hlt => ?_) fun hge => ?_))
    · have hil : i < (strsB n).length := by omega
      have hui : (strsB n)[i]? = some (strsB n)[i] := List.getElem?_eq_getElem hil
      refine strGet rfl (ownX_sli Ac) hui fun p => strAdd (by have := hu i _ hui; omega) (strMore O (by simp [A, B]; omega) fun v' H5 o5 S5 O5 ho5 => addI (by omega) ⟨i + 1, by dsimp only; omega, .inl ⟨v', some o5, Sc.thru S5 fun y hy => .inr (ho y (by simpa using hy)), by omega, ?_, fun j hj => by cases hj; have := Sc.1; omega, ds, rfl, r4, by show vint _ = vint _; congr 1⟩⟩)
      have e : B.take (i + 1) = B.take i ++ [119 :: (strsB n)[i]] := by
        rw [List.take_add_one]
        congr 1
        rw [List.getElem?_map, hui]
        rfl
      rw [e, ← List.append_assoc]
      exact O5
    · have hie : i = (strsB n).length := by omega
      subst hie
      have eB : B.take (strsB n).length = B := List.take_of_length_le (by simp [B])
      rw [eB] at O
      have hAB : strsB (n + 1) = A ++ B := rfl
      rw [← hAB] at O
      have hS1 := S1.1
      have hne : ∃ j, o = some j := by
        obtain ⟨_, _, ⟨h0, _, _⟩ | ⟨j, _, _, e, _⟩⟩ := id O
        · rw [strsB_few] at h0
          have := Nat.pow_pos (n := n + 1) (show 0 < 2 by decide)
          omega
        · exact ⟨j, e⟩
      obtain ⟨j, rfl⟩ := hne
      exact retL_same (by simpa using ownU O) (hK Hd v j (S1.trans Sc) O (by have := ho j rfl; omega))
theorem good137 (hJ : Closed prog main J) {s : SkyR} (g : skyOk s) (hK : ∀ H' v o, SameX [] H H' → OwnX H' 1 (strL (rainsB s)) (rainsB s).length v o → (∀ j, o = some j → H.length ≤ j) → K v H') : Good prog J 137 [.agg ⟨s.cells⟩] H K := by
  refine g137 hJ fun ok => ?_
  rw [e137]
  obtain ⟨g1, g2, g3⟩ := id g
  obtain ⟨n, hn⟩ := Int.eq_ofNat_of_zero_le (by omega : (0 : Int) ≤ s.days)
  have en : s.days.toNat = n := by omega
  refine qBox (l := s.cells) rfl fun H1 p1 e1 S1 c1 l1 => offI (ldI (v := vint s.days) c1 rfl rfl ?_)
  rw [hn]
  refine good140 hJ n (by omega) fun H2 av ao S2 A2 hao => ?_
  have hlen := strsB_few (n := n)
  have hpow : 2 ^ n ≤ 2 ^ 8 := Nat.pow_le_pow_right (by decide) (by omega)
  have T2 := S1.trans S2
  refine l137_1 hJ (fun i : Nat => (strsB n).length - i) (fun i F H' => ∃ v o, SameX [] H2 H' ∧ i ≤ (strsB n).length ∧ OwnX H' 1 (strL (((strsB n).take i).filter (fallX s (0, 0)))) (((strsB n).take i).filter (fallX s (0, 0))).length v o ∧ (∀ j, o = some j → H2.length ≤ j) ∧ F.ds = [] ∧ F.r 1 = ptr p1 0 ∧ F.r 3 = v ∧ F.r 4 = av ∧ F.r 5 = vint (i : Nat)) ?_ (s := 0)
    (.inl ⟨.slice none 0 0, none, SameX.refl, by omega, ⟨rfl, rfl, .inl ⟨rfl, rfl, rfl⟩⟩, by simp, rfl, rfl, rfl, rfl, rfl⟩)
  rintro i F Hc ⟨v, o, Sc, hi, O, ho, ds, r1, r3, r4, r5⟩ okc hnc
  have Ac := ownX_keep A2 Sc (by simp)
  rw [s137_1, r1, r3, r4, r5, ds]
  have hsc := Sc.1
  refine lenI (ownX_sli Ac) (lssI (cndI (fun hlt => ?_) fun hge => ?_))
  · have hil : i < (strsB n).length := by omega
    have hui : (strsB n)[i]? = some (strsB n)[i] := List.getElem?_eq_getElem hil
    have hw := strsB_len _ (List.getElem_mem hil)
    have et : (strsB n).take (i + 1) = (strsB n).take i ++ [(strsB n)[i]] := by
      rw [List.take_add_one, hui]
      rfl
    have hfl : (((strsB n).take i).filter (fallX s (0, 0))).length ≤ i := by
      have := List.length_filter_le (fallX s (0, 0)) ((strsB n).take i)
      rw [List.length_take] at this
      omega
    refine load_part (c := s.cells) ((S2.trans Sc).get c1 (by simp)) (by simp [SkyR.cells]) rfl rfl (strGet rfl (ownX_sli Ac) hui fun p => ?_)
    refine good141 hJ g (by rw [hw.1]; omega) hw.2 fun H3 S3 => cndB (fun hy => ?_) fun hno => ?_
    · refine strGet rfl (ownX_sli (ownX_keep Ac S3 (by simp))) hui fun p2 => strMore (ownX_keep O S3 (by simp)) (by omega) fun v' H5 o5 S5 O5 ho5 => addI (by omega) ⟨i + 1, by dsimp only; omega, .inl ⟨v', some o5, (Sc.trans S3).thru S5 fun y hy => .inr (ho y (by simpa using hy)), by omega, ?_, fun j hj => by cases hj; have := S3.1; omega, ds, r1, rfl, r4, by show vint _ = vint _; congr 1⟩⟩
      have e : ((strsB n).take (i + 1)).filter (fallX s (0, 0)) = ((strsB n).take i).filter (fallX s (0, 0)) ++ [(strsB n)[i]] := by
        rw [et, List.filter_append]
        simp [hy]
      rw [e]
      exact O5
    · refine addI (by omega) ⟨i + 1, by dsimp only; omega, .inl ⟨v, o, Sc.trans S3, by omega, ?_, ho, ds, r1, r3, r4, by show vint _ = vint _; congr 1⟩⟩
      have e : ((strsB n).take (i + 1)).filter (fallX s (0, 0)) = ((strsB n).take i).filter (fallX s (0, 0)) := by
        rw [et, List.filter_append]
        simp [hno]
      rw [e]
      exact ownX_keep O S3 (by simp)
  · have hie : i = (strsB n).length := by omega
    subst hie
    rw [List.take_of_length_le (Nat.le_refl _)] at O
    have er : rainsB s = (strsB n).filter (fallX s (0, 0)) := by rw [rainsB_strs, en]
    rw [← er] at O
    have hT2 := T2.1
    exact retL_same (by simpa using ownU O) (hK Hc v o (T2.trans Sc) O fun j hj => by have := ho j hj; omega)
end
section
variable {main : Bool} {J : JT} {h H Hb : List AObj} {K : Value → List AObj → Prop} {KV : Value → Prop} {HL : List AObj → Prop} {n0 : Nat}
def TillN (n : Nat) (H H' : List AObj) : Prop := H.length ≤ H'.length ∧ ∀ i, i < n → H'[i]? = H[i]?
theorem TillN.same {X : List Nat} (T : TillN Hb.length H h) (S : SameX X Hb H) : SameX X Hb h := ⟨Nat.le_trans S.1 T.1, fun i hi hx => by rw [T.2 i hi]; exact S.2 i hi hx⟩
theorem TillN.trans {n : Nat} {H1 H2 H3 : List AObj} (a : TillN n H1 H2) (b : TillN n H2 H3) : TillN n H1 H3 := ⟨Nat.le_trans a.1 b.1, fun i hi => (b.2 i hi).trans (a.2 i hi)⟩
theorem tillN_of {n : Nat} {X : List Nat} {H1 H2 : List AObj} (S : SameX X H1 H2) (hn : n ≤ H1.length) (hX : ∀ x ∈ X, n ≤ x) : TillN n H1 H2 := ⟨S.1, fun i hi => S.2 i (by omega) fun hx => by have := hX i hx; omega⟩
def Own3 (n : Nat) (H : List AObj) (a b c : List Int) (va vb vc : Value) : Prop :=
  ∃ oa ob oc, OwnX H 1 (a.map vint) a.length va oa ∧ OwnX H 1 (b.map vint) b.length vb ob ∧ OwnX H 1 (c.map vint) c.length vc oc ∧ (∀ j, oa = some j → n ≤ j ∧ ob ≠ some j ∧ oc ≠ some j) ∧ (∀ j, ob = some j → n ≤ j ∧ oc ≠ some j) ∧ (∀ j, oc = some j → n ≤ j)
theorem Own3.rot {n : Nat} {a b c : List Int} {va vb vc : Value} (O : Own3 n H a b c va vb vc) : Own3 n H b c a vb vc va := by
  obtain ⟨oa, ob, oc, A, B, C, h1, h2, h3⟩ := O
  exact ⟨ob, oc, oa, B, C, A, fun j hj => ⟨(h2 j hj).1, (h2 j hj).2, fun e => (h1 j e).2.1 hj⟩, fun j hj => ⟨h3 j hj, fun e => (h1 j e).2.2 hj⟩, fun j hj => (h1 j hj).1⟩
theorem Own3.keep {n : Nat} {a b c : List Int} {va vb vc : Value} {X : List Nat} {H' : List AObj} (O : Own3 n H a b c va vb vc) (S : SameX X H H') (hX : ∀ x ∈ X, x < n) : Own3 n H' a b c va vb vc := by
  obtain ⟨oa, ob, oc, A, B, C, h1, h2, h3⟩ := O
  refine ⟨oa, ob, oc, ownX_keep A S fun i hi hx => ?_, ownX_keep B S fun i hi hx => ?_, ownX_keep C S fun i hi hx => ?_, h1, h2, h3⟩
  · have := h1 i hi; have := hX i hx; omega
  · have := h2 i hi; have := hX i hx; omega
  · have := h3 i hi; have := hX i hx; omega
theorem Own3.nil {n : Nat} : Own3 n H [] [] [] (.slice none 0 0) (.slice none 0 0) (.slice none 0 0) := ⟨none, none, none, ⟨rfl, rfl, .inl ⟨rfl, rfl, rfl⟩⟩, ⟨rfl, rfl, .inl ⟨rfl, rfl, rfl⟩⟩, ⟨rfl, rfl, .inl ⟨rfl, rfl, rfl⟩⟩, by simp, by simp, by simp⟩
theorem Own3.add {n : Nat} {a b c : List Int} {va vb vc : Value} {x : Int} {K : Value → Value → List AObj → Prop} (O : Own3 n H a b c va vb vc) (hl : a.length < 90000) (hn : n ≤ H.length)
    (hK : ∀ y v' H', TillN n H H' → Own3 n H' (a ++ [x]) b c v' vb vc → K y v' H') :
    (((1 * 1 : Nat) ≤ 16777216 ∧ (1 : Nat) ≤ 16777216 ∧ List.length [(vint 0)] = 1) ∧ aFill (zrep [(vint 0)] 1) [(0, 1, vint x)] fun c6 => aNewS 1 c6 H fun v7 h8 =>
      ((List.length [(vint 0)] = 1 ∧ 0 < (1 : Nat) ∧ 0 < (8 : Nat) ∧ (8 : Nat) ≤ 1024) ∧ aApp 1 va v7 h8 (K v7))) := by
  obtain ⟨oa, ob, oc, A, B, C, h1, h2, h3⟩ := O
  refine ⟨by decide, fillO (l := [vint x]) rfl rfl rfl (by decide) (fillI (qNew fun H1 p1 e1 S1 c1 l1 => ⟨by decide, ?_⟩))⟩
  have c1 : H1[p1]? = some (.cells [vint x] true 0) := c1
  have hS := S1.1
  refine ownX_more (ownX_keep A S1 (by simp)) (by omega) (by omega) (ownX_sli (ownX_new (s := 1) (n := 1) c1 rfl rfl)) fun v' H' p' e' O' S' => ?_
  have hb1 := ownX_lt B
  have hc1 := ownX_lt C
  have na : ∀ z ∈ oa.toList, n ≤ z := fun z hz => (h1 z (Option.mem_toList.1 hz)).1
  refine hK _ v' H' ((tillN_of S1 hn (by simp)).trans (tillN_of S' (by omega) na)) ⟨some p', ob, oc, ?_, ownX_keep (ownX_keep B S1 (by simp)) S' fun j hj hm => (h1 j (Option.mem_toList.1 hm)).2.1 hj, ownX_keep (ownX_keep C S1 (by simp)) S' fun j hj hm => (h1 j (Option.mem_toList.1 hm)).2.2 hj, fun j hj => ?_, h2, h3⟩
  · rw [List.map_append, List.length_append]
    exact O'
  · cases hj
    exact ⟨by omega, fun e => by have := hb1 _ e; omega, fun e => by have := hc1 _ e; omega⟩
set_option maxHeartbeats 800000 in
/-- A rain, day by day. -/
theorem good138 (hJ : Closed prog main J) {p : Pas} {heads : List Int} {w : List UInt8} {hv : Value} (f : pasOk p) (hh : headsOk heads) (sh : Sli H hv 1 heads.length (heads.map vint)) (hl : w.length ≤ heads.length) (hw : w.length ≤ 1000)
    (hK : ∀ H' ev bv nv, SameX [] H H' → Own3 H.length H' (endsR p heads w w.length) (daysR (shortAt p heads w) w.length) (daysR (hungAt p heads w) w.length) ev bv nv → K (.tuple ⟨[ev, bv, nv]⟩) H') : Good prog J 138 [.agg ⟨p.cells⟩, hv, strV w] H K := by
  refine g138 hJ fun ok => ?_
  rw [e138]
  refine qBox (l := p.cells) rfl fun H1 p3 e1 S1 c3 l1 => offI (ldI (v := vint p.grass) c3 rfl rfl ?_)
  refine fillO (l := [vint p.grass]) rfl rfl rfl (by decide) (fillO (l := [vint 0]) rfl rfl rfl (by rw [wrAt_length]; decide) (fillI ?_))
  refine qAl fun H2 px e2 S2 cx l2 => qStA (c := stC (p.grass, 0)) cx rfl rfl rfl fun Hb Sb cx' lb => ?_
  have c3b : Hb[p3]? = some (.cells p.cells true 0) := Sb.get (S2.get c3 (by simp)) (by simp; omega)
  have Tb : SameX [] H Hb := (S1.trans S2).thru Sb (by simp; omega)
  have hlb : H.length ≤ Hb.length := Tb.1
  refine l138_1 hJ (fun k : Nat => w.length - k) (fun k F H' => ∃ ev bv nv, k ≤ w.length ∧ SameX [px] Hb H' ∧ H'[px]? = some (.cells (stC (stdR p heads w k)) true 0) ∧ Own3 Hb.length H' (endsR p heads w k) (daysR (shortAt p heads w) k) (daysR (hungAt p heads w) k) ev bv nv ∧ F.ds = [] ∧ F.r 1 = hv ∧ F.r 2 = strV w ∧ F.r 3 = ptr p3 0 ∧ F.r 9 = ev ∧ F.r 10 = bv ∧ F.r 11 = nv ∧ F.r 12 = ptr px 0 ∧ F.r 13 = vint (k : Nat)) ?_ (s := 0)
    (.inl ⟨_, _, _, by omega, SameX.refl, cx', Own3.nil, rfl, rfl, rfl, rfl, rfl, rfl, rfl, rfl, rfl⟩)
  rintro k F Hc ⟨ev, bv, nv, hk, S, cxc, O, ds, r1, r2, r3, r9, r10, r11, r12, r13⟩ okc hnc
  rw [s138_1, r1, r2, r3, r9, r10, r11, r12, r13, ds]
  have TH : SameX [] H Hc := Tb.thru S (by simp; omega)
  refine lenStrI (lssI (cndI (fun hlt => ?_) fun hge => ?_))
  rotate_left
  · have hkw : k = w.length := by omega
    subst hkw
    obtain ⟨oa, ob, oc, A, B, C, h1, h2, h3⟩ := id O
    refine retL_same ?_ (hK Hc ev bv nv TH ?_)
    · intro v hv
      simp only [List.mem_cons, List.not_mem_nil, or_false] at hv
      rcases hv with rfl | rfl | rfl
      · exact ownU A
      · exact ownU B
      · exact ownU C
    · exact ⟨oa, ob, oc, A, B, C, fun j hj => ⟨by have := (h1 j hj).1; omega, (h1 j hj).2⟩, fun j hj => ⟨by have := (h2 j hj).1; omega, (h2 j hj).2⟩, fun j hj => by have := h3 j hj; omega⟩
  have hkl : k < w.length := by omega
  have hb : w[k]? = some (w.getD k 0) := by rw [List.getD_eq_getElem?_getD, List.getElem?_eq_getElem hkl]; rfl
  have hx : heads[k]? = some (heads.getD k 0) := by rw [List.getD_eq_getElem?_getD, List.getElem?_eq_getElem (by omega)]; rfl
  have hbd := headsOk_getD hh k
  have so := stdR_ok (rain := w) f hh k
  have shc := TH.sli sh (by simp)
  obtain ⟨hb0, hbl, get⟩ := sliBlk shc (by omega)
  have c3c := S.get c3b (by simp; omega)
  have l3 := lt_of_get c3c
  have lx := lt_of_get cxc
  have hSc := S.1
  have lxb := lt_of_get cx'
  -- behind a day
  have post : ∀ {F' : RG} {H4 : List AObj} {pq : Nat}, F'.ds = [] → F'.r 1 = hv → F'.r 2 = strV w → F'.r 3 = ptr p3 0 → F'.r 9 = ev → F'.r 10 = bv → F'.r 11 = nv → F'.r 12 = ptr px 0 → F'.r 13 = vint (k : Nat) → F'.r 14 = ptr pq 0 → F'.r 15 = .bool (shortAt p heads w k) → F'.r 16 = .bool (hungAt p heads w k) → SameX [] Hc H4 → H4[pq]? = some (.cells (stC (stdR p heads w (k + 1))) true 0) → Hc.length ≤ pq →
      W prog J 60 H.length 138 (subC [1, 1, 1, 0, 1, 0, 0, 1, 0, 0, 1] (codeOf f138)) F' H4 (contX pl138 prog J 60 H.length 138 ct138 [1, 1, 1, 0, 1, 0, 0, 1, 0, 0, 1] (codeOf f138) [Nx H.length (fun k : Nat => w.length - k) (fun k F H' => ∃ ev bv nv, k ≤ w.length ∧ SameX [px] Hb H' ∧ H'[px]? = some (.cells (stC (stdR p heads w k)) true 0) ∧ Own3 Hb.length H' (endsR p heads w k) (daysR (shortAt p heads w) k) (daysR (hungAt p heads w) k) ev bv nv ∧ F.ds = [] ∧ F.r 1 = hv ∧ F.r 2 = strV w ∧ F.r 3 = ptr p3 0 ∧ F.r 9 = ev ∧ F.r 10 = bv ∧ F.r 11 = nv ∧ F.r 12 = ptr px 0 ∧ F.r 13 = vint (k : Nat)) k] (RetQ prog [.tmp 6, .tmp 7, .tmp 8] H.length K)) := by
    intro F' H4 pq q0 q1 q2 q3 q9 q10 q11 q12 q13 q14 q15 q16 S4 cq hpq
    rw [s138_2, q9, q10, q12, q13, q14, q15]
    have cx4 := S4.get cxc (by simp)
    have h4 := S4.1
    refine load_part (c := stC (stdR p heads w (k + 1))) cq (by simp [stC]) rfl rfl (qStA (c := stC (stdR p heads w (k + 1))) cx4 rfl rfl rfl fun H5 S5 cx5 l5 => offI (ldI (v := vint (stdR p heads w (k + 1)).1) cx5 rfl rfl ?_))
    have O5 : Own3 Hb.length H5 (endsR p heads w k) (daysR (shortAt p heads w) k) (daysR (hungAt p heads w) k) ev bv nv := (O.keep S4 (by simp)).keep S5 (by simp; omega)
    have Q5 : SameX [px] Hb H5 := (S.trans S4.weak0).trans S5
    have d1 : (endsR p heads w k).length ≤ 1000 := by simp [endsR]; omega
    have d2 := daysR_few (q := shortAt p heads w) (k := k)
    have d3 := daysR_few (q := hungAt p heads w) (k := k)
    refine O5.add (by omega) (by have := Q5.1; omega) fun _ ev' H6 T6 O6 => ?_
    rw [← endsR_succ] at O6
    have Q6 : SameX [px] Hb H6 := T6.same Q5
    have cx6 : H6[px]? = some (.cells (stC (stdR p heads w (k + 1))) true 0) := by rw [T6.2 px lxb]; exact cx5
    -- behind the bites
    have post2 : ∀ {F2 : RG} {H7 : List AObj} {bv' : Value}, F2.ds = [] → F2.r 1 = hv → F2.r 2 = strV w → F2.r 3 = ptr p3 0 → F2.r 9 = ev' → F2.r 10 = bv' → F2.r 11 = nv → F2.r 12 = ptr px 0 → F2.r 13 = vint (k : Nat) → F2.r 16 = .bool (hungAt p heads w k) → TillN Hb.length H6 H7 → Own3 Hb.length H7 (endsR p heads w (k + 1)) (daysR (shortAt p heads w) (k + 1)) (daysR (hungAt p heads w) k) ev' bv' nv →
        W prog J 60 H.length 138 (subC [1, 1, 1, 0, 1, 0, 0, 1, 0, 0, 1, 1, 1, 1] (codeOf f138)) F2 H7 (contX pl138 prog J 60 H.length 138 ct138 [1, 1, 1, 0, 1, 0, 0, 1, 0, 0, 1, 1, 1, 1] (codeOf f138) [Nx H.length (fun k : Nat => w.length - k) (fun k F H' => ∃ ev bv nv, k ≤ w.length ∧ SameX [px] Hb H' ∧ H'[px]? = some (.cells (stC (stdR p heads w k)) true 0) ∧ Own3 Hb.length H' (endsR p heads w k) (daysR (shortAt p heads w) k) (daysR (hungAt p heads w) k) ev bv nv ∧ F.ds = [] ∧ F.r 1 = hv ∧ F.r 2 = strV w ∧ F.r 3 = ptr p3 0 ∧ F.r 9 = ev ∧ F.r 10 = bv ∧ F.r 11 = nv ∧ F.r 12 = ptr px 0 ∧ F.r 13 = vint (k : Nat)) k] (RetQ prog [.tmp 6, .tmp 7, .tmp 8] H.length K)) := by
      intro F2 H7 bv' t0 t1 t2 t3 t9 t10 t11 t12 t13 t16 T7 O7
      rw [s138_3, t11, t13, t16]
      have Q7 := T7.same Q6
      have cx7 : H7[px]? = some (.cells (stC (stdR p heads w (k + 1))) true 0) := by rw [T7.2 px lxb]; exact cx6
      refine cndB (fun hy => ?_) fun hno => ?_
      · refine O7.rot.rot.add (by omega) (by have := Q7.1; omega) fun _ nv' H8 T8 O8 => addI (by omega) ⟨k + 1, by dsimp only; omega, .inl ⟨ev', bv', nv', by omega, T8.same Q7, by rw [T8.2 px lxb]; exact cx7, ?_, t0, t1, t2, t3, t9, t10, rfl, t12, by show vint _ = vint _; congr 1⟩⟩
        have := O8.rot
        rw [daysR_succ (q := hungAt p heads w), if_pos hy]
        exact this
      · refine addI (by omega) ⟨k + 1, by dsimp only; omega, .inl ⟨ev', bv', nv, by omega, Q7, cx7, ?_, t0, t1, t2, t3, t9, t10, t11, t12, by show vint _ = vint _; congr 1⟩⟩
        rw [daysR_succ (q := hungAt p heads w), if_neg (by rw [hno]; decide), List.append_nil]
        exact O7
    refine cndB (fun hy => ?_) fun hno => hold.2 ?_
    · refine O6.rot.add (by omega) (by have := Q6.1; omega) fun _ bv' H7 T7 O7 => hold.2 (post2 q0 q1 q2 q3 rfl rfl q11 q12 q13 q16 T7 ?_)
      have := O7.rot.rot
      rw [daysR_succ (q := shortAt p heads w), if_pos hy]
      exact this
    · refine post2 q0 q1 q2 q3 rfl q10 q11 q12 q13 q16 ⟨Nat.le_refl _, fun _ _ => rfl⟩ ?_
      rw [daysR_succ (q := shortAt p heads w), if_neg (by rw [hno]; decide), List.append_nil]
      exact O6
  have sb : ∀ {H'}, SameX [] Hc H' → SameB (some [p3, px, hb0]) Hc H' := fun S' b hb' => S'.2 b (by simp at hb'; rcases hb' with rfl | rfl | rfl <;> omega) (by simp)
  refine ⟨[p3, px, hb0], load_part (c := p.cells) c3c (by simp [Pas.cells]) rfl rfl ⟨by simp [RdOk, ptr, ptrBlk], load_part (c := stC (stdR p heads w k)) cxc (by simp [stC]) rfl rfl ⟨by simp [RdOk, ptr, ptrBlk], get SameX.refl hx fun o => ⟨by simp [RdOk, ptr, ptrBlk], byteI hb (eqlW ⟨?_, ?_⟩)⟩⟩⟩⟩
  · refine good142 hJ f so ⟨hbd.1, by omega⟩ fun H3 S3 => ext30 (ext31 (ext32 (qAl fun H4 pq e4 S4 cq l4 => ⟨sb (S3.trans S4), ?_⟩)))
    have h3 := S3.1
    refine qStA (c := stC (stdR p heads w (k + 1))) cq rfl rfl rfl fun H5 S5 cq5 l5 => hold.2 ?_
    exact post ds r1 r2 r3 r9 r10 r11 r12 r13 rfl rfl rfl ((S3.trans S4).thru S5 (by simp; omega)) cq5 (by omega)
  · refine qAl fun H3 pq e3 S3 cq l3 => ⟨sb S3, ?_⟩
    refine good142 hJ f so ⟨hbd.1, by omega⟩ fun H4 S4 => ext30 (ext31 (ext32 ?_))
    have h4 := S4.1
    refine qStA (c := stC (stdR p heads w (k + 1))) (S4.get cq (by simp)) rfl rfl rfl fun H5 S5 cq5 l5 => hold.2 ?_
    exact post ds r1 r2 r3 r9 r10 r11 r12 r13 rfl rfl rfl ((S3.trans S4).thru S5 (by simp; omega)) cq5 (by omega)
theorem good107 (hJ : Closed prog main J) {a fr dy : Nat} {n : Int} (ha : a ≤ 8) (hfd : fr + dy ≤ a) (hK : ∀ H' v o, SameX [] H H' → OwnX H' 1 ((stayH a fr dy n).map vint) (stayH a fr dy n).length v (some o) → H.length ≤ o → K v H') : Good prog J 107 [vint (a : Nat), vint n, vint (fr : Nat), vint (dy : Nat)] H K := by
  refine g107 hJ fun ok => ?_
  rw [e107]
  have hrm : (2000 : Nat) < room := by decide
  refine ⟨by decide, by omega, Int.le_refl _, by omega, ?_⟩
  rw [Int.toNat_natCast]
  have zl : ∀ k, zrep [vint 0] k = (List.replicate k (0 : Int)).map vint := by
    intro k
    induction k with
    | zero => rfl
    | succ k ih =>
      show [vint 0] ++ zrep [vint 0] k = _
      rw [ih, List.replicate_succ]
      rfl
  generalize hH5 : H ++ [AObj.cells (zrep [vint 0] a) true 0] = H5
  have c5 : H5[H.length]? = some (.cells ((stayH a fr 0 n).map vint) true 0) := by rw [← hH5, zl, stayH_zero]; simp
  have S5 : SameX [] H H5 := by rw [← hH5]; exact SameX.refl.app
  generalize hpl : H.length = pl at c5
  refine l107_1 hJ (fun i : Nat => dy - i) (fun i F H' => i ≤ dy ∧ SameX [pl] H5 H' ∧ H'[pl]? = some (.cells ((stayH a fr i n).map vint) true 0) ∧ F.ds = [] ∧ F.r 1 = vint n ∧ F.r 2 = vint (fr : Nat) ∧ F.r 3 = vint (dy : Nat) ∧ F.r 9 = .slice (some ⟨pl, 0, none⟩) a a ∧ F.r 10 = vint ((fr + i : Nat) : Int)) ?_ (s := 0)
    (.inl ⟨by omega, SameX.refl, c5, rfl, rfl, rfl, rfl, rfl, rfl⟩)
  rintro i F H' ⟨hi, S, cl, ds, r1, r2, r3, r9, r10⟩ okc hnc
  rw [s107_1, r1, r2, r3, r9, r10, ds]
  refine addI (by omega) (lssI (cndI (fun hlt => ?_) fun hge => ?_))
  · refine idxI ⟨by omega, by omega⟩ ?_
    have e1 : 0 + ((fr + i : Nat) : Int).toNat * 1 = fr + i := by omega
    rw [e1]
    refine qSt cl (by simp [stayH_len]; omega) rfl rfl fun H8 S8 c8' l8 => addI (by omega) ⟨i + 1, by dsimp only; omega, .inl ⟨by omega, S.trans S8, ?_, ds, r1, r2, r3, r9, by show vint _ = vint _; congr 1⟩⟩
    rw [c8', ← List.map_set, stayH_set (by omega)]
  · have hid : i = dy := by omega
    subst hid
    refine retL_same (by simp [unk]) (hK H' (.slice (some ⟨pl, 0, none⟩) a a) pl (S5.thru S (by simp; omega)) ⟨by simp, knV _, .inr ⟨pl, a, 0, rfl, by rw [stayH_len], cl, .inr (by rw [stayH_len])⟩⟩ (by omega))
theorem good130 (hJ : Closed prog main J) {p : Pas} {heads : List Int} {s : SkyR} {hv : Value} (f : pasOk p) (g : skyOk s) (hh : headsOk heads) (sh : Sli H hv 1 heads.length (heads.map vint)) (hl : s.days ≤ heads.length)
    (hK : ∀ H', SameX [] H H' → K (.tuple ⟨[vint (((rainsB s).filter fun w => decide (starvR p heads w < 0)).length : Nat), vint ((rainsB s).length : Nat)]⟩) H') : Good prog J 130 [.agg ⟨p.cells⟩, hv, .agg ⟨s.cells⟩] H K := by
  refine g130 hJ fun ok => ?_
  rw [e130]
  obtain ⟨g1, g2, g3⟩ := id g
  refine qBox (l := p.cells) rfl fun H1 p3 e1 S1 c3 l1 => qBox (l := s.cells) rfl fun H2 p5 e2 S2 c5 l2 => load_part (c := s.cells) c5 (by simp [SkyR.cells]) rfl rfl ?_
  refine good137 hJ g fun H3 av ao S3 A3 hao => ?_
  have T3 := (S1.trans S2).trans S3
  have c33 := S3.get (S2.get c3 (by simp)) (by simp)
  have hfew := rainsB_few g
  refine l130_1 hJ (fun i : Nat => (rainsB s).length - i) (fun i F H' => SameX [] H3 H' ∧ i ≤ (rainsB s).length ∧ F.ds = [] ∧ F.r 1 = hv ∧ F.r 3 = ptr p3 0 ∧ F.r 8 = vint ((((rainsB s).take i).filter fun w => decide (starvR p heads w < 0)).length : Nat) ∧ F.r 9 = av ∧ F.r 10 = vint (i : Nat)) ?_ (s := 0)
    (.inl ⟨SameX.refl, by omega, rfl, rfl, rfl, rfl, rfl, rfl⟩)
  rintro i F Hc ⟨S, hi, ds, r1, r3, r8, r9, r10⟩ okc hnc
  have Ac := ownX_keep A3 S (by simp)
  rw [s130_1, r1, r3, r8, r9, r10, ds]
  refine lenI (ownX_sli Ac) (lssI (cndI (fun hlt => ?_) fun hge => ?_))
  rotate_left
  · have hie : i = (rainsB s).length := by omega
    subst hie
    rw [List.take_of_length_le (Nat.le_refl _)]
    exact lenI (ownX_sli Ac) (retL_same (nu2 (by simp [unk]) (by simp [unk])) (hK Hc (T3.trans S)))
  have hil : i < (rainsB s).length := by omega
  have hui : (rainsB s)[i]? = some (rainsB s)[i] := List.getElem?_eq_getElem hil
  have hwl := rainsB_len (List.getElem_mem hil)
  have et : (rainsB s).take (i + 1) = (rainsB s).take i ++ [(rainsB s)[i]] := by
    rw [List.take_add_one, hui]
    rfl
  have hfl : (((rainsB s).take i).filter fun w => decide (starvR p heads w < 0)).length ≤ i := by
    have := List.length_filter_le (fun w => decide (starvR p heads w < 0)) ((rainsB s).take i)
    rw [List.length_take] at this
    omega
  refine load_part (c := p.cells) (S.get c33 (by simp)) (by simp [Pas.cells]) rfl rfl (strGet rfl (ownX_sli Ac) hui fun q => ?_)
  refine good138 hJ f hh ((T3.trans S).sli sh (by simp)) (by omega) (by omega) fun H4 ev bv nv S4 O4 => ext30 (ext31 (ext32 ?_))
  obtain ⟨_, _, oc, _, _, C, _, _, _⟩ := O4
  have hz := daysR_none (q := hungAt p heads (rainsB s)[i]) (k := (rainsB s)[i].length)
  refine lenI (ownX_sli C) (eqlI (cndI (fun h0 => ?_) fun h0 => ?_))
  · refine addI (by omega) (addI (by omega) ⟨i + 1, by dsimp only; omega, .inl ⟨S.trans S4, by omega, ds, r1, r3, ?_, r9, by show vint _ = vint _; congr 1⟩⟩)
    have hs : starvR p heads (rainsB s)[i] < 0 := hz.1 (by omega)
    show vint _ = vint _
    rw [et, List.filter_append, List.length_append]
    simp [hs]
  · refine addI (by omega) ⟨i + 1, by dsimp only; omega, .inl ⟨S.trans S4, by omega, ds, r1, r3, ?_, r9, by show vint _ = vint _; congr 1⟩⟩
    have hs : ¬ starvR p heads (rainsB s)[i] < 0 := fun e => h0 (by have := hz.2 e; omega)
    show F.r 8 = _
    rw [r8, et, List.filter_append, List.length_append]
    simp [hs]
theorem good119 (hJ : Closed prog main J) {p : Pas} {s : SkyR} {n : Int} {fr dy : Nat} (f : pasOk p) (g : skyOk s) (hn : 0 ≤ n ∧ n ≤ 40) (hfd : ((fr + dy : Nat) : Int) ≤ s.days)
    (hK : ∀ H', SameX [] H H' → K (.bool (stayB p s n fr dy)) H') : Good prog J 119 [.agg ⟨p.cells⟩, .agg ⟨s.cells⟩, vint n, vint (fr : Nat), vint (dy : Nat)] H K := by
  refine g119 hJ fun ok => ?_
  rw [e119]
  obtain ⟨g1, g2, g3⟩ := id g
  obtain ⟨a, ha⟩ := Int.eq_ofNat_of_zero_le (by omega : (0 : Int) ≤ s.days)
  have ea : s.days.toNat = a := by omega
  refine qBox (l := p.cells) rfl fun H1 p1 e1 S1 c1 l1 => qBox (l := s.cells) rfl fun H2 p2 e2 S2 c2 l2 => ?_
  have c12 := S2.get c1 (by simp)
  have b1 := lt_of_get c12
  have b2 := lt_of_get c2
  have T2 := S1.trans S2
  refine ⟨[p1, p2], load_part (c := p.cells) c12 (by simp [Pas.cells]) rfl rfl ⟨by simp [RdOk, ptr, ptrBlk], offI (ldI (v := vint s.days) c2 rfl rfl ⟨by simp [RdOk, ptr, ptrBlk], load_part (c := s.cells) c2 (by simp [SkyR.cells]) rfl rfl ⟨by simp [RdOk, ptr, ptrBlk], ?_⟩⟩)⟩⟩
  rw [ha]
  refine good107 hJ (a := a) (by omega) (by omega) fun H3 v o S3 O3 ho => ⟨sbTwo S3 b1 b2 (by simp) (by simp), ?_⟩
  refine good130 hJ f g (stayH_ok hn) (ownX_sli O3) (by rw [stayH_len]; omega) fun H4 S4 => ⟨sbTwo (S3.trans S4) b1 b2 (by simp) (by simp), ext0 (ext1 (eqlI (retL_same (by simp [unk]) ?_)))⟩
  have := hK H4 ((T2.trans S3).trans S4)
  have e : decide ((((rainsB s).filter fun w => decide (starvR p (stayH a fr dy n) w < 0)).length : Int) = ((rainsB s).length : Int)) = stayB p s n fr dy := by
    unfold stayB fedB
    rw [ea, Int.toNat_natCast, Int.toNat_natCast]
    cases hall : (rainsB s).all fun w => decide (starvR p (stayH a fr dy n) w < 0) with
    | true =>
      rw [List.filter_eq_self.2 (fun w hw => List.all_eq_true.1 hall w hw)]
      exact decide_eq_true rfl
    | false =>
      refine decide_eq_false fun e => ?_
      have e' : ((rainsB s).filter fun w => decide (starvR p (stayH a fr dy n) w < 0)).length = (rainsB s).length := by omega
      have := List.length_filter_eq_length_iff.1 e'
      rw [List.all_eq_false] at hall
      obtain ⟨w, hw, hno⟩ := hall
      exact hno (this w hw)
  rw [e]
  exact this
theorem good84 (hJ : Closed prog main J) {p : Pas} {s : SkyR} {fr dy : Int} (hK : ∀ H', SameX [] H H' → K (.tuple ⟨[vint (headN p s fr dy), vint (headE p s fr dy)]⟩) H') : Good prog J 84 [.agg ⟨p.cells⟩, .agg ⟨s.cells⟩, vint fr, vint dy] H K := by
  refine g84 hJ fun ok => ?_
  rw [e84]
  refine qBox (l := p.cells) rfl fun H1 p4 e1 S1 c4 l1 => qBox (l := s.cells) rfl fun H2 p5 e2 S2 c5 l2 => ?_
  have c42 := S2.get c4 (by simp)
  have T2 := S1.trans S2
  have fin : ∀ {e : Int}, headE p s fr dy = e → e ≠ 0 → retL H.length K [] [vint 0, vint e] H2 := fun he h0 => by
    have := hK _ T2
    unfold headN at this
    rw [if_neg (by omega), he] at this
    exact retL_same (nu2 (by simp [unk]) (by simp [unk])) this
  refine load_part (c := p.cells) c42 (by simp [Pas.cells]) rfl rfl (good116 hJ (neqI (cndI (fun h1 => fin ?_ h1) fun h1 => ?_)))
  · unfold headE fst2
    rw [if_pos h1, if_pos h1]
  have z1 : pasE p = 0 := by omega
  refine load_part (c := s.cells) c5 (by simp [SkyR.cells]) rfl rfl (good117 hJ (neqI (cndI (fun h1s => fin ?_ h1s) fun h1s => ?_)))
  · unfold headE fst2
    rw [if_neg h1, if_pos h1s]
  have z2 : skyE s = 0 := by omega
  have hf : ¬ fst2 (pasE p) (skyE s) ≠ 0 := by unfold fst2; rw [if_neg h1]; exact h1s
  have f : pasOk p := by
    unfold pasE at z1
    split at z1
    · assumption
    · cases z1
  have g : skyOk s := by
    unfold skyE at z2
    split at z2
    · assumption
    · cases z2
  obtain ⟨g1, g2, g3⟩ := id g
  refine offI (ldI (v := vint s.days) c5 rfl rfl (subI (by omega) (good118 hJ (notI (cndN (fun h2 => fin ?_ (by decide)) fun h2 => ?_)))))
  · unfold headE; rw [if_neg hf, if_pos h2]
  refine offI (ldI (v := vint s.days) c5 rfl rfl (subI (by omega) (good118 hJ (notI (cndN (fun h3 => fin ?_ (by decide)) fun h3 => ?_)))))
  · unfold headE; rw [if_neg hf, if_neg (not_not_intro h2), if_pos h3]
  have h0 : headE p s fr dy = 0 := by unfold headE; rw [if_neg hf, if_neg (not_not_intro h2), if_neg (not_not_intro h3)]
  obtain ⟨a, rfl⟩ := Int.eq_ofNat_of_zero_le (by omega : (0 : Int) ≤ fr)
  obtain ⟨b, rfl⟩ := Int.eq_ofNat_of_zero_le (by omega : (0 : Int) ≤ dy)
  let q : Int → Bool := fun n => stayB p s n (a : Nat) (b : Nat)
  refine l84_1 hJ (fun m : Nat => 41 - m) (fun m F H' => m ≤ 41 ∧ SameX [] H2 H' ∧ F.ds = [] ∧ F.r 2 = vint (a : Nat) ∧ F.r 3 = vint (b : Nat) ∧ F.r 4 = ptr p4 0 ∧ F.r 5 = ptr p5 0 ∧ F.r 12 = vint (topH q (m - 1)) ∧ F.r 13 = vint (m : Nat)) ?_ (s := 0)
    (.inl ⟨by omega, SameX.refl, rfl, rfl, rfl, rfl, rfl, rfl, rfl⟩)
  rintro m F H' ⟨hm, S, ds, r2, r3, r4, r5, r12, r13⟩ okc hnc
  rw [s84_1, r2, r3, r4, r5, r12, r13, ds]
  refine leqI (cndI (fun hle => ?_) fun hgt => ?_)
  · refine load_part (c := p.cells) (S.get c42 (by simp)) (by simp [Pas.cells]) rfl rfl (load_part (c := s.cells) (S.get c5 (by simp)) (by simp [SkyR.cells]) rfl rfl ?_)
    refine good119 hJ f g (by omega) (by omega) fun H4 S4 => ?_
    have step : topH q (m + 1 - 1) = if q (m : Nat) = true then (m : Int) else topH q (m - 1) := by
      rcases Nat.eq_zero_or_pos m with h | h
      · subst h
        show topH q 0 = _
        split <;> rfl
      · obtain ⟨k, rfl⟩ : ∃ k, m = k + 1 := ⟨m - 1, by omega⟩
        rfl
    refine cndB (fun hy => ?_) fun hno => ?_
    · refine addI (by omega) ⟨m + 1, by dsimp only; omega, .inl ⟨by omega, S.trans S4, ds, r2, r3, r4, r5, ?_, by show vint _ = vint _; congr 1⟩⟩
      rw [step, if_pos (show q (m : Nat) = true from hy)]
      rfl
    · refine addI (by omega) ⟨m + 1, by dsimp only; omega, .inl ⟨by omega, S.trans S4, ds, r2, r3, r4, r5, ?_, by show vint _ = vint _; congr 1⟩⟩
      rw [step, if_neg (show ¬ q (m : Nat) = true by rw [show q (m : Nat) = _ from hno]; decide)]
      exact r12
  · have : m = 41 := by omega
    subst this
    have := hK H' (T2.trans S)
    unfold headN at this
    rw [if_pos h0, h0] at this
    exact retL_same (nu2 (by simp [unk]) (by simp [unk])) this
end
end Go.Proofs.Ytindillghipjjaa
namespace Go.Proofs.Ytindillghipjjaa
open Go.Conc Go.Proofs.Try
set_option maxRecDepth 100000
set_option maxHeartbeats 4000000
set_option linter.unusedVariables false
section
variable {main : Bool} {J : JT} {n0 : Nat} {h : List AObj} {K : Value → List AObj → Prop}
theorem at83 : prog.funcs[83]? = some f83 := by kernel_rfl
theorem body83 : f83.body = some (codeOf f83) := by kernel_rfl
def pl83 : Plans := []
def ct83 : Cuts := .bin (.go) (.bin (.bin (.go) (.cut (.go))) (.go))
theorem pok83 : plansOk prog pl83 (codeOf f83) = true := by kernel_rfl
theorem e83 {a0 : Value} : W prog J 21 h.length 83 (codeOf f83) (RG.mk (regs [a0]) []) h (RetQ prog [.tmp 2] h.length K) =
(aBox a0 h fun v1 h2 =>
aOff v1 1 fun v3 =>
aLoad false 1 v3 h2 fun v4 =>
Good prog J 75 [v4, (vint 1), (vint 40)] h2 fun v5 h6 =>
aUn .not v5 fun v7 =>
cnd v7
(Hold (W prog J 21 h.length 83 (subC [1, 0, 1] (codeOf f83)) (RG.p (RG.p (RG.p (RG.p (RG.p (RG.p (RG.p (RG.p (RG.p (RG.p (RG.p (RG.p (RG.p (RG.p (RG.p (RG.p (RG.p (RG.p (RG.p (RG.p (RG.p (RG.p (RG.mk (regs [a0]) []) 1 v1) 2 (vint 0)) 3 v3) 4 v4) 5 v5) 6 v7) 7 v7) 7 (Value.bool true)) 8 undef) 9 undef) 10 undef) 11 undef) 12 undef) 13 undef) 14 (Value.bool true)) 15 (Value.bool true)) 15 (Value.bool true)) 16 undef) 17 undef) 18 undef) 19 undef) 20 (Value.bool true)) h6 (contX pl83 prog J 21 h.length 83 ct83 [1, 0, 1] (codeOf f83) [] (RetQ prog [.tmp 2] h.length K))))
(aOff v1 0 fun v8 =>
aLoad false 1 v8 h6 fun v9 =>
aOff v1 1 fun v10 =>
aLoad false 1 v10 h6 fun v11 =>
Good prog J 75 [v9, (vint 0), v11] h6 fun v12 h13 =>
aUn .not v12 fun v14 =>
cnd v14
(Hold (W prog J 21 h.length 83 (subC [1, 0, 1] (codeOf f83)) (RG.p (RG.p (RG.p (RG.p (RG.p (RG.p (RG.p (RG.p (RG.p (RG.p (RG.p (RG.p (RG.p (RG.p (RG.p (RG.p (RG.p (RG.p (RG.p (RG.p (RG.p (RG.p (RG.mk (regs [a0]) []) 1 v1) 2 (vint 0)) 3 v3) 4 v4) 5 v5) 6 v7) 7 v7) 7 (Value.bool false)) 8 v8) 9 v9) 10 v10) 11 v11) 12 v12) 13 v14) 14 v14) 15 v14) 15 (Value.bool true)) 16 undef) 17 undef) 18 undef) 19 undef) 20 (Value.bool true)) h13 (contX pl83 prog J 21 h.length 83 ct83 [1, 0, 1] (codeOf f83) [] (RetQ prog [.tmp 2] h.length K))))
(aOff v1 2 fun v15 =>
aLoad false 1 v15 h13 fun v16 =>
Good prog J 75 [v16, (vint 0), (vint 20)] h13 fun v17 h18 =>
aUn .not v17 fun v19 =>
Hold (W prog J 21 h.length 83 (subC [1, 0, 1] (codeOf f83)) (RG.p (RG.p (RG.p (RG.p (RG.p (RG.p (RG.p (RG.p (RG.p (RG.p (RG.p (RG.p (RG.p (RG.p (RG.p (RG.p (RG.p (RG.p (RG.p (RG.p (RG.p (RG.p (RG.mk (regs [a0]) []) 1 v1) 2 (vint 0)) 3 v3) 4 v4) 5 v5) 6 v7) 7 v7) 7 (Value.bool false)) 8 v8) 9 v9) 10 v10) 11 v11) 12 v12) 13 v14) 14 v14) 15 v14) 15 (Value.bool false)) 16 v15) 17 v16) 18 v17) 19 v19) 20 v19) h18 (contX pl83 prog J 21 h.length 83 ct83 [1, 0, 1] (codeOf f83) [] (RetQ prog [.tmp 2] h.length K)))))) := top_eq pok83 ct83 (by kernel_rfl)
theorem g83 (hJ : Closed prog main J) {a0 : Value} (hs : heapOk h → W prog J 21 h.length 83 (codeOf f83) (RG.mk (regs [a0]) []) h (RetQ prog [.tmp 2] h.length K)) : Good prog J 83 [a0] h K :=
  good_of_W hJ mixed at83 body83 (by kernel_rfl) (Nat.le_of_ble_eq_true rfl) hs
theorem s83_1 {f : RG} : W prog J 21 n0 83 (subC [1, 0, 1] (codeOf f83)) f h (contX pl83 prog J 21 n0 83 ct83 [1, 0, 1] (codeOf f83) [] (RetQ prog [.tmp 2] n0 K)) =
(cnd (f.r 20)
(retL n0 K f.ds [(vint 1)] h)
(retL n0 K f.ds [(vint 0)] h)) := sub_eq pok83 ct83 (by kernel_rfl)
end
section
variable {main : Bool} {J : JT} {n0 : Nat} {h : List AObj} {K : Value → List AObj → Prop}
def pl51 : Plans := []
def ct51 : Cuts := .go
theorem pok51 : plansOk prog pl51 (codeOf f51) = true := by kernel_rfl
theorem e51 {a0 a1 a2 : Value} : W prog J 38 h.length 51 (codeOf f51) (RG.mk (regs [a0, a1, a2]) []) h (RetQ prog [.tmp 6, .tmp 7] h.length K) =
(aBox a0 h fun v1 h2 =>
aBin prog .geq 3 a2 (vint 0) fun v3 =>
cnd v3
(aOff v1 3 fun v4 =>
aLoad false 1 v4 h2 fun v5 =>
aIdx 2 v5 a2 fun v6 =>
aOff v6 0 fun v7 =>
aLoad false 1 v7 h2 fun v8 =>
aBin prog .lss 3 a1 v8 fun v9 =>
aOff v1 3 fun v10 =>
aLoad false 1 v10 h2 fun v11 =>
aIdx 2 v11 a2 fun v12 =>
aOff v12 0 fun v13 =>
aLoad false 1 v13 h2 fun v14 =>
aBin prog .sub 3 a1 v14 fun v15 =>
aMax (vint 0) [v15] fun v16 =>
aOff v1 0 fun v17 =>
aOff v17 1 fun v18 =>
aLoad false 1 v18 h2 fun v19 =>
aOff v1 0 fun v20 =>
aOff v20 2 fun v21 =>
aLoad false 1 v21 h2 fun v22 =>
aBin prog .add 3 v16 v22 fun v23 =>
aMin v19 [v23] fun v24 =>
retL h.length K [] [v24, v9] h2)
(aOff v1 0 fun v25 =>
aOff v25 1 fun v26 =>
aLoad false 1 v26 h2 fun v27 =>
aOff v1 0 fun v28 =>
aOff v28 2 fun v29 =>
aLoad false 1 v29 h2 fun v30 =>
aBin prog .add 3 a1 v30 fun v31 =>
aMin v27 [v31] fun v32 =>
retL h.length K [] [v32, (Value.bool false)] h2)) := top_eq pok51 ct51 (by kernel_rfl)
def pl10 : Plans := []
def ct10 : Cuts := .bin (.go) (.bin (.go) (.bin (.go) (.bin (.go) (.bin (.go) (.bin (.go) (.bin (.bin (.go) (.cut (.go))) (.bin (.bin (.go) (.cut (.go))) (.bin (.go) (.bin (.bin (.go) (.un (.un (.bin (.go) (.bin (.un (.bin (.go) (.bin (.go) (.bin (.go) (.bin (.go) (.bin (.go) (.cut (.go)))))))) (.go)))))) (.go))))))))))
theorem pok10 : plansOk prog pl10 (codeOf f10) = true := by kernel_rfl
theorem e10 {a0 : Value} : W prog J 132 h.length 10 (codeOf f10) (RG.mk (regs [a0]) []) h (RetQ prog [.tmp 2] h.length K) =
(Good prog J 20 [a0] h fun v1 h2 =>
Good prog J 21 [v1, (vint 3), (vint 14)] h2 fun v3 h4 =>
aAlloc [(vint 0), (vint 0), (vint 0), (Value.slice none 0 0)] h4 fun v5 h6 =>
aStore 4 v5 v3 h6 fun h7 =>
aLoad true 4 v5 h7 fun v8 =>
Good prog J 36 [v1, v8, (vint 4)] h7 fun v9 h10 =>
aLoad true 4 v5 h10 fun v11 =>
Good prog J 38 [v11, v9] h10 fun v12 h13 =>
aExt v12 0 fun v14 =>
aExt v12 1 fun v15 =>
aLoad true 4 v5 h13 fun v16 =>
Good prog J 46 [v16, v9, (vint 48)] h13 fun v17 h18 =>
aExt v17 0 fun v19 =>
aExt v17 1 fun v20 =>
aBin prog .neq 39 v20 (vint 0) fun v21 =>
cnd v21
(Hold (W prog J 132 h.length 10 (subC [1, 1, 1, 1, 1, 1, 0, 1] (codeOf f10)) (RG.p (RG.p (RG.p (RG.p (RG.p (RG.p (RG.p (RG.p (RG.p (RG.p (RG.p (RG.p (RG.p (RG.p (RG.p (RG.p (RG.p (RG.p (RG.p (RG.p (RG.p (RG.p (RG.p (RG.p (RG.p (RG.p (RG.p (RG.p (RG.p (RG.p (RG.p (RG.p (RG.p (RG.p (RG.p (RG.p (RG.p (RG.p (RG.mk (regs [a0]) []) 2 (Value.bool false)) 16 a0) 17 v1) 3 v1) 18 v1) 19 v3) 4 v5) 20 v1) 21 v8) 22 v9) 5 v9) 24 v11) 25 v9) 26 v12) 23 v12) 27 v14) 28 v15) 6 v14) 7 v15) 30 v16) 31 v9) 32 v17) 29 v17) 33 v19) 34 v20) 8 v19) 9 v20) 35 v20) 36 v21) 37 v21) 37 (Value.bool true)) 38 undef) 39 undef) 40 undef) 41 undef) 42 undef) 43 undef) 44 (Value.bool true)) h18 (contX pl10 prog J 132 h.length 10 ct10 [1, 1, 1, 1, 1, 1, 0, 1] (codeOf f10) [] (RetQ prog [.tmp 2] h.length K))))
(aBin prog .neq 39 v15 (vint 0) fun v22 =>
cnd v22
(aBin prog .neq 39 v15 (vint 11) fun v23 =>
Hold (W prog J 132 h.length 10 (subC [1, 1, 1, 1, 1, 1, 0, 1] (codeOf f10)) (RG.p (RG.p (RG.p (RG.p (RG.p (RG.p (RG.p (RG.p (RG.p (RG.p (RG.p (RG.p (RG.p (RG.p (RG.p (RG.p (RG.p (RG.p (RG.p (RG.p (RG.p (RG.p (RG.p (RG.p (RG.p (RG.p (RG.p (RG.p (RG.p (RG.p (RG.p (RG.p (RG.p (RG.p (RG.p (RG.p (RG.p (RG.p (RG.p (RG.mk (regs [a0]) []) 2 (Value.bool false)) 16 a0) 17 v1) 3 v1) 18 v1) 19 v3) 4 v5) 20 v1) 21 v8) 22 v9) 5 v9) 24 v11) 25 v9) 26 v12) 23 v12) 27 v14) 28 v15) 6 v14) 7 v15) 30 v16) 31 v9) 32 v17) 29 v17) 33 v19) 34 v20) 8 v19) 9 v20) 35 v20) 36 v21) 37 v21) 37 (Value.bool false)) 38 v15) 39 v22) 40 v22) 40 (Value.bool true)) 41 v15) 42 v23) 43 v23) 44 v23) h18 (contX pl10 prog J 132 h.length 10 ct10 [1, 1, 1, 1, 1, 1, 0, 1] (codeOf f10) [] (RetQ prog [.tmp 2] h.length K))))
(Hold (W prog J 132 h.length 10 (subC [1, 1, 1, 1, 1, 1, 0, 1] (codeOf f10)) (RG.p (RG.p (RG.p (RG.p (RG.p (RG.p (RG.p (RG.p (RG.p (RG.p (RG.p (RG.p (RG.p (RG.p (RG.p (RG.p (RG.p (RG.p (RG.p (RG.p (RG.p (RG.p (RG.p (RG.p (RG.p (RG.p (RG.p (RG.p (RG.p (RG.p (RG.p (RG.p (RG.p (RG.p (RG.p (RG.p (RG.p (RG.p (RG.p (RG.mk (regs [a0]) []) 2 (Value.bool false)) 16 a0) 17 v1) 3 v1) 18 v1) 19 v3) 4 v5) 20 v1) 21 v8) 22 v9) 5 v9) 24 v11) 25 v9) 26 v12) 23 v12) 27 v14) 28 v15) 6 v14) 7 v15) 30 v16) 31 v9) 32 v17) 29 v17) 33 v19) 34 v20) 8 v19) 9 v20) 35 v20) 36 v21) 37 v21) 37 (Value.bool false)) 38 v15) 39 v22) 40 v22) 40 (Value.bool false)) 41 undef) 42 undef) 43 (Value.bool false)) 44 (Value.bool false)) h18 (contX pl10 prog J 132 h.length 10 ct10 [1, 1, 1, 1, 1, 1, 0, 1] (codeOf f10) [] (RetQ prog [.tmp 2] h.length K)))))) := top_eq pok10 ct10 (by kernel_rfl)
end
section
variable {main : Bool} {J : JT} {n0 : Nat} {h : List AObj} {K : Value → List AObj → Prop}
def pl9 : Plans := []
def ct9 : Cuts := .bin (.go) (.bin (.go) (.bin (.go) (.bin (.go) (.bin (.go) (.bin (.go) (.bin (.bin (.go) (.cut (.go))) (.bin (.go) (.bin (.bin (.go) (.un (.un (.bin (.go) (.bin (.un (.bin (.go) (.bin (.go) (.cut (.bin (.bin (.go) (.bin (.bin (.bin (.go) (.cut (.go))) (.go)) (.go))) (.bin (.go) (.bin (.go) (.cut (.go))))))))) (.go)))))) (.go)))))))))
theorem pok9 : plansOk prog pl9 (codeOf f9) = true := by kernel_rfl
theorem e9 {a0 : Value} : W prog J 109 h.length 9 (codeOf f9) (RG.mk (regs [a0]) []) h (RetQ prog [.tmp 2] h.length K) =
(Good prog J 20 [a0] h fun v1 h2 =>
Good prog J 21 [v1, (vint 3), (vint 20)] h2 fun v3 h4 =>
aAlloc [(vint 0), (vint 0), (vint 0), (Value.slice none 0 0)] h4 fun v5 h6 =>
aStore 4 v5 v3 h6 fun h7 =>
aLoad true 4 v5 h7 fun v8 =>
Good prog J 36 [v1, v8, (vint 5)] h7 fun v9 h10 =>
aLoad true 4 v5 h10 fun v11 =>
Good prog J 37 [v11, v9, (vint 40)] h10 fun v12 h13 =>
aExt v12 0 fun v14 =>
aExt v12 1 fun v15 =>
aLoad true 4 v5 h13 fun v16 =>
Good prog J 46 [v16, v9, (vint 40)] h13 fun v17 h18 =>
aExt v17 0 fun v19 =>
aExt v17 1 fun v20 =>
aBin prog .neq 39 v15 (vint 0) fun v21 =>
cnd v21
(Hold (W prog J 109 h.length 9 (subC [1, 1, 1, 1, 1, 1, 0, 1] (codeOf f9)) (RG.p (RG.p (RG.p (RG.p (RG.p (RG.p (RG.p (RG.p (RG.p (RG.p (RG.p (RG.p (RG.p (RG.p (RG.p (RG.p (RG.p (RG.p (RG.p (RG.p (RG.p (RG.p (RG.p (RG.p (RG.p (RG.p (RG.p (RG.p (RG.p (RG.p (RG.p (RG.p (RG.p (RG.p (RG.p (RG.p (RG.p (RG.p (RG.p (RG.p (RG.mk (regs [a0]) []) 2 (Value.bool false)) 15 a0) 16 v1) 3 v1) 17 v1) 18 v3) 4 v5) 19 v1) 20 v8) 21 v9) 5 v9) 23 v11) 24 v9) 25 v12) 22 v12) 26 v14) 27 v15) 6 v14) 7 v15) 29 v16) 30 v9) 31 v17) 28 v17) 32 v19) 33 v20) 8 v19) 9 v20) 34 v15) 35 v21) 36 v21) 36 (Value.bool true)) 37 undef) 38 undef) 39 (Value.bool true)) 40 (Value.bool true)) 40 (Value.bool true)) 41 undef) 42 undef) 43 undef) 44 (Value.bool true)) h18 (contX pl9 prog J 109 h.length 9 ct9 [1, 1, 1, 1, 1, 1, 0, 1] (codeOf f9) [] (RetQ prog [.tmp 2] h.length K))))
(aBin prog .neq 39 v20 (vint 0) fun v22 =>
cnd v22
(Hold (W prog J 109 h.length 9 (subC [1, 1, 1, 1, 1, 1, 0, 1] (codeOf f9)) (RG.p (RG.p (RG.p (RG.p (RG.p (RG.p (RG.p (RG.p (RG.p (RG.p (RG.p (RG.p (RG.p (RG.p (RG.p (RG.p (RG.p (RG.p (RG.p (RG.p (RG.p (RG.p (RG.p (RG.p (RG.p (RG.p (RG.p (RG.p (RG.p (RG.p (RG.p (RG.p (RG.p (RG.p (RG.p (RG.p (RG.p (RG.p (RG.p (RG.p (RG.mk (regs [a0]) []) 2 (Value.bool false)) 15 a0) 16 v1) 3 v1) 17 v1) 18 v3) 4 v5) 19 v1) 20 v8) 21 v9) 5 v9) 23 v11) 24 v9) 25 v12) 22 v12) 26 v14) 27 v15) 6 v14) 7 v15) 29 v16) 30 v9) 31 v17) 28 v17) 32 v19) 33 v20) 8 v19) 9 v20) 34 v15) 35 v21) 36 v21) 36 (Value.bool false)) 37 v20) 38 v22) 39 v22) 40 v22) 40 (Value.bool true)) 41 undef) 42 undef) 43 undef) 44 (Value.bool true)) h18 (contX pl9 prog J 109 h.length 9 ct9 [1, 1, 1, 1, 1, 1, 0, 1] (codeOf f9) [] (RetQ prog [.tmp 2] h.length K))))
(aLenS v14 fun v23 =>
aBin prog .neq 3 v23 (vint 40) fun v24 =>
Hold (W prog J 109 h.length 9 (subC [1, 1, 1, 1, 1, 1, 0, 1] (codeOf f9)) (RG.p (RG.p (RG.p (RG.p (RG.p (RG.p (RG.p (RG.p (RG.p (RG.p (RG.p (RG.p (RG.p (RG.p (RG.p (RG.p (RG.p (RG.p (RG.p (RG.p (RG.p (RG.p (RG.p (RG.p (RG.p (RG.p (RG.p (RG.p (RG.p (RG.p (RG.p (RG.p (RG.p (RG.p (RG.p (RG.p (RG.p (RG.p (RG.p (RG.p (RG.mk (regs [a0]) []) 2 (Value.bool false)) 15 a0) 16 v1) 3 v1) 17 v1) 18 v3) 4 v5) 19 v1) 20 v8) 21 v9) 5 v9) 23 v11) 24 v9) 25 v12) 22 v12) 26 v14) 27 v15) 6 v14) 7 v15) 29 v16) 30 v9) 31 v17) 28 v17) 32 v19) 33 v20) 8 v19) 9 v20) 34 v15) 35 v21) 36 v21) 36 (Value.bool false)) 37 v20) 38 v22) 39 v22) 40 v22) 40 (Value.bool false)) 41 v14) 42 v23) 43 v24) 44 v24) h18 (contX pl9 prog J 109 h.length 9 ct9 [1, 1, 1, 1, 1, 1, 0, 1] (codeOf f9) [] (RetQ prog [.tmp 2] h.length K)))))) := top_eq pok9 ct9 (by kernel_rfl)
end
section
variable {main : Bool} {J : JT} {n0 : Nat} {h : List AObj} {K : Value → List AObj → Prop}
theorem at67 : prog.funcs[67]? = some f67 := by kernel_rfl
theorem body67 : f67.body = some (codeOf f67) := by kernel_rfl
def pl67 : Plans := []
def ct67 : Cuts := .go
theorem pok67 : plansOk prog pl67 (codeOf f67) = true := by kernel_rfl
theorem e67 : W prog J 2 h.length 67 (codeOf f67) (RG.mk (regs []) []) h (RetQ prog [.cell 0 46] h.length K) =
(aAlloc [(vint 0), (vint 0), (vint 0), (vint 0), (vint 0), (vint 0)] h fun v1 h2 =>
aFill [(vint 0), (vint 0), (vint 0), (vint 0), (vint 0), (vint 0)] [(0, 1, (vint 12)), (1, 1, (vint 20)), (2, 1, (vint 1)), (3, 1, (vint 4)), (4, 1, (vint 3)), (5, 1, (vint 2))] fun c3 =>
aStore 6 v1 (Value.agg ⟨c3⟩) h2 fun h4 =>
RetQ prog [.cell 0 46] h.length K .ret (RG.p (RG.p (RG.mk (regs []) []) 0 v1) 1 (Value.agg ⟨c3⟩)) h4) := top_eq pok67 ct67 (by kernel_rfl)
theorem g67 (hJ : Closed prog main J) (hs : heapOk h → W prog J 2 h.length 67 (codeOf f67) (RG.mk (regs []) []) h (RetQ prog [.cell 0 46] h.length K)) : Good prog J 67 [] h K :=
  good_of_W hJ mixed at67 body67 (by kernel_rfl) (Nat.le_of_ble_eq_true rfl) hs
theorem at68 : prog.funcs[68]? = some f68 := by kernel_rfl
theorem body68 : f68.body = some (codeOf f68) := by kernel_rfl
def pl68 : Plans := []
def ct68 : Cuts := .go
theorem pok68 : plansOk prog pl68 (codeOf f68) = true := by kernel_rfl
theorem e68 : W prog J 2 h.length 68 (codeOf f68) (RG.mk (regs []) []) h (RetQ prog [.cell 0 48] h.length K) =
(aAlloc [(vint 0), (vint 0), (vint 0)] h fun v1 h2 =>
aFill [(vint 0), (vint 0), (vint 0)] [(0, 1, (vint 3)), (1, 1, (vint 2)), (2, 1, (vint 2))] fun c3 =>
aStore 3 v1 (Value.agg ⟨c3⟩) h2 fun h4 =>
RetQ prog [.cell 0 48] h.length K .ret (RG.p (RG.p (RG.mk (regs []) []) 0 v1) 1 (Value.agg ⟨c3⟩)) h4) := top_eq pok68 ct68 (by kernel_rfl)
theorem g68 (hJ : Closed prog main J) (hs : heapOk h → W prog J 2 h.length 68 (codeOf f68) (RG.mk (regs []) []) h (RetQ prog [.cell 0 48] h.length K)) : Good prog J 68 [] h K :=
  good_of_W hJ mixed at68 body68 (by kernel_rfl) (Nat.le_of_ble_eq_true rfl) hs
end
section
variable {main : Bool} {J : JT} {n0 : Nat} {h : List AObj} {K : Value → List AObj → Prop}
theorem at66 : prog.funcs[66]? = some f66 := by kernel_rfl
theorem body66 : f66.body = some (codeOf f66) := by kernel_rfl
def pl66 : Plans := []
def ct66 : Cuts := .go
theorem pok66 : plansOk prog pl66 (codeOf f66) = true := by kernel_rfl
theorem e66 : W prog J 6 h.length 66 (codeOf f66) (RG.mk (regs []) []) h (RetQ prog [.cell 0 26] h.length K) =
(aAlloc [(vint 0), (vint 0), (vint 0), (Value.slice none 0 0)] h fun v1 h2 =>
aFill [(vint 0), (vint 0), (vint 0)] [(0, 1, (vint 6)), (1, 1, (vint 10)), (2, 1, (vint 3))] fun c3 =>
aFill [(vint 0), (vint 0)] [(0, 1, (vint 4)), (1, 1, (vint 3))] fun c4 =>
aFill [(vint 0), (vint 0)] [(0, 1, (vint 5)), (1, 1, (vint 4))] fun c5 =>
(((2 * 2 : Nat) ≤ 16777216 ∧ (2 : Nat) ≤ 16777216 ∧ List.length [(vint 0), (vint 0)] = 2) ∧ aFill (zrep [(vint 0), (vint 0)] 2) [(0, 2, (Value.agg ⟨c4⟩)), (2, 2, (Value.agg ⟨c5⟩))] fun c6 =>
aNewS 2 c6 h2 fun v7 h8 =>
aFill [(vint 0), (vint 0), (vint 0), (Value.slice none 0 0)] [(0, 3, (Value.agg ⟨c3⟩)), (3, 1, v7)] fun c9 =>
aStore 4 v1 (Value.agg ⟨c9⟩) h8 fun h10 =>
RetQ prog [.cell 0 26] h.length K .ret (RG.p (RG.p (RG.p (RG.p (RG.p (RG.p (RG.mk (regs []) []) 0 v1) 1 (Value.agg ⟨c3⟩)) 2 (Value.agg ⟨c4⟩)) 3 (Value.agg ⟨c5⟩)) 4 v7) 5 (Value.agg ⟨c9⟩)) h10)) := top_eq pok66 ct66 (by kernel_rfl)
theorem g66 (hJ : Closed prog main J) (hs : heapOk h → W prog J 6 h.length 66 (codeOf f66) (RG.mk (regs []) []) h (RetQ prog [.cell 0 26] h.length K)) : Good prog J 66 [] h K :=
  good_of_W hJ mixed at66 body66 (by kernel_rfl) (Nat.le_of_ble_eq_true rfl) hs
theorem at19 : prog.funcs[19]? = some f19 := by kernel_rfl
theorem body19 : f19.body = some (codeOf f19) := by kernel_rfl
def pl19 : Plans := []
def ct19 : Cuts := .go
theorem pok19 : plansOk prog pl19 (codeOf f19) = true := by kernel_rfl
theorem e19 : W prog J 89 h.length 19 (codeOf f19) (RG.mk (regs []) []) h (RetQ prog [.tmp 0] h.length K) =
(Good prog J 66 [] h fun v1 h2 =>
(((3 * 1 : Nat) ≤ 16777216 ∧ (3 : Nat) ≤ 16777216 ∧ List.length [(vint 0)] = 1) ∧ aFill (zrep [(vint 0)] 3) [(0, 1, (vint 0)), (1, 1, (vint 1)), (2, 1, (vint (-1)))] fun c3 =>
aNewS 3 c3 h2 fun v4 h5 =>
Good prog J 37 [v1, v4, (vint 4)] h5 fun v6 h7 =>
aExt v6 0 fun v8 =>
aExt v6 1 fun v9 =>
Good prog J 66 [] h7 fun v10 h11 =>
(((2 * 1 : Nat) ≤ 16777216 ∧ (2 : Nat) ≤ 16777216 ∧ List.length [(vint 0)] = 1) ∧ aFill (zrep [(vint 0)] 2) [(0, 1, (vint 0)), (1, 1, (vint 1))] fun c12 =>
aNewS 2 c12 h11 fun v13 h14 =>
Good prog J 38 [v10, v13] h14 fun v15 h16 =>
aExt v15 0 fun v17 =>
aExt v15 1 fun v18 =>
Good prog J 66 [] h16 fun v19 h20 =>
Good prog J 39 [v19] h20 fun v21 h22 =>
aExt v21 0 fun v23 =>
aExt v21 1 fun v24 =>
Good prog J 66 [] h22 fun v25 h26 =>
(((2 * 1 : Nat) ≤ 16777216 ∧ (2 : Nat) ≤ 16777216 ∧ List.length [(vint 0)] = 1) ∧ aFill (zrep [(vint 0)] 2) [(0, 1, (vint 2)), (1, 1, (vint 0))] fun c27 =>
aNewS 2 c27 h26 fun v28 h29 =>
Good prog J 26 [v25, v28] h29 fun v30 h31 =>
aExt v30 0 fun v32 =>
aExt v30 1 fun v33 =>
aExt v30 2 fun v34 =>
Good prog J 66 [] h31 fun v35 h36 =>
aField true 3 0 v35 fun v37 =>
Good prog J 67 [] h36 fun v38 h39 =>
Good prog J 68 [] h39 fun v40 h41 =>
Good prog J 34 [v37, v38, v40, (vint 0), (vint 3)] h41 fun v42 h43 =>
aExt v42 0 fun v44 =>
aExt v42 1 fun v45 =>
aBin prog .eql 39 v9 (vint 0) fun v46 =>
cnd v46
(aBin prog .eql 39 v18 (vint 0) fun v47 =>
cnd v47
(aBin prog .eql 39 v24 (vint 0) fun v48 =>
cnd v48
(aBin prog .eql 39 v34 (vint 0) fun v49 =>
cnd v49
(aBin prog .eql 39 v45 (vint 0) fun v50 =>
cnd v50
(aBin prog .eql 3 v17 (vint 2) fun v51 =>
cnd v51
(aBin prog .eql 3 v33 (vint 0) fun v52 =>
cnd v52
(aBin prog .eql 3 v44 (vint 4) fun v53 =>
cnd v53
((((4 * 1 : Nat) ≤ 16777216 ∧ (4 : Nat) ≤ 16777216 ∧ List.length [(vint 0)] = 1) ∧ aFill (zrep [(vint 0)] 4) [(0, 1, (vint 5)), (1, 1, (vint 3)), (2, 1, (vint 6)), (3, 1, (vint 5))] fun c54 =>
aNewS 4 c54 h43 fun v55 h56 =>
Good prog J 28 [v8, v55] h56 fun v57 h58 =>
cnd v57
((((3 * 1 : Nat) ≤ 16777216 ∧ (3 : Nat) ≤ 16777216 ∧ List.length [(vint 0)] = 1) ∧ aFill (zrep [(vint 0)] 3) [(0, 1, (vint (-1))), (1, 1, (vint 0)), (2, 1, (vint 1))] fun c59 =>
aNewS 3 c59 h58 fun v60 h61 =>
Good prog J 28 [v23, v60] h61 fun v62 h63 =>
cnd v62
((((2 * 1 : Nat) ≤ 16777216 ∧ (2 : Nat) ≤ 16777216 ∧ List.length [(vint 0)] = 1) ∧ aFill (zrep [(vint 0)] 2) [(0, 1, (vint 1)), (1, 1, (vint 0))] fun c64 =>
aNewS 2 c64 h63 fun v65 h66 =>
Good prog J 28 [v32, v65] h66 fun v67 h68 =>
retL h.length K [] [v67] h68))
(retL h.length K [] [(Value.bool false)] h63)))
(retL h.length K [] [(Value.bool false)] h58)))
(retL h.length K [] [(Value.bool false)] h43))
(retL h.length K [] [(Value.bool false)] h43))
(retL h.length K [] [(Value.bool false)] h43))
(retL h.length K [] [(Value.bool false)] h43))
(retL h.length K [] [(Value.bool false)] h43))
(retL h.length K [] [(Value.bool false)] h43))
(retL h.length K [] [(Value.bool false)] h43))
(retL h.length K [] [(Value.bool false)] h43))))) := top_eq pok19 ct19 (by kernel_rfl)
theorem g19 (hJ : Closed prog main J) (hs : heapOk h → W prog J 89 h.length 19 (codeOf f19) (RG.mk (regs []) []) h (RetQ prog [.tmp 0] h.length K)) : Good prog J 19 [] h K :=
  good_of_W hJ mixed at19 body19 (by kernel_rfl) (Nat.le_of_ble_eq_true rfl) hs
end
section
variable {main : Bool} {J : JT} {n0 : Nat} {h : List AObj} {K : Value → List AObj → Prop}
section
variable {Sx : RG → List AObj → Prop}
theorem at26 : prog.funcs[26]? = some f26 := by kernel_rfl
theorem body26 : f26.body = some (codeOf f26) := by kernel_rfl
def pl26 : Plans := []
def ct26 : Cuts := .go
theorem pok26 : plansOk prog pl26 (trunc 6 (codeOf f26)) = true := by kernel_rfl
theorem e26 {a0 a1 : Value} : W prog J 109 h.length 26 (trunc 6 (codeOf f26)) (RG.mk (regs [a0, a1]) []) h (thenK Sx (RetQ prog [.tmp 4, .tmp 5, .tmp 6] h.length K)) =
(aBox a0 h fun v1 h2 =>
aBox a1 h2 fun v3 h4 =>
aLoad true 4 v1 h4 fun v5 =>
Good prog J 48 [v5] h4 fun v6 h7 =>
aBin prog .neq 39 v6 (vint 0) fun v8 =>
cnd v8
(retL h.length K [] [(Value.slice none 0 0), (vint 0), v6] h7)
(aLoad false 1 v3 h7 fun v9 =>
aLenS v9 fun v10 =>
aOff v1 3 fun v11 =>
aLoad false 1 v11 h7 fun v12 =>
aLenS v12 fun v13 =>
aOff v1 3 fun v14 =>
aLoad false 1 v14 h7 fun v15 =>
aLenS v15 fun v16 =>
Good prog J 70 [v10, v13, v16] h7 fun v17 h18 =>
aBin prog .neq 39 v17 (vint 0) fun v19 =>
cnd v19
(retL h.length K [] [(Value.slice none 0 0), (vint 0), v17] h18)
(aLoad false 1 v3 h18 fun v20 =>
aLenS v20 fun v21 =>
Sem J 109 h.length 26 (subC [1, 1, 1, 0, 1, 0] (trunc 6 (codeOf f26))) (RG.p (RG.p (RG.p (RG.p (RG.p (RG.p (RG.p (RG.p (RG.p (RG.p (RG.p (RG.p (RG.p (RG.p (RG.p (RG.p (RG.p (RG.p (RG.p (RG.p (RG.p (RG.p (RG.p (RG.p (RG.p (RG.mk (regs [a0, a1]) []) 2 v1) 3 v3) 4 (Value.slice none 0 0)) 5 (vint 0)) 6 (vint 0)) 20 v5) 21 v6) 7 v6) 22 v6) 23 v8) 25 v9) 26 v10) 27 v11) 28 v12) 29 v13) 30 v14) 31 v15) 32 v16) 33 v17) 8 v17) 34 v17) 35 v19) 37 v20) 38 v21) 39 (vint 0)) h18 (contX pl26 prog J 109 h.length 26 ct26 [1, 1, 1, 0, 1, 0] (trunc 6 (codeOf f26)) [] (thenK Sx (RetQ prog [.tmp 4, .tmp 5, .tmp 6] h.length K)))))) := top_eq pok26 ct26 (by kernel_rfl)
theorem s26_1 {f : RG} {nx0 : RG → List AObj → Prop} : W prog J 109 n0 26 (subC [1, 1, 1, 0, 1, 0, 0] (trunc 6 (codeOf f26))) f h (thenK nx0 (contX pl26 prog J 109 n0 26 ct26 [1, 1, 1, 0, 1, 0] (trunc 6 (codeOf f26)) [] (thenK Sx (RetQ prog [.tmp 4, .tmp 5, .tmp 6] n0 K)))) =
(aBin prog .lss 3 (f.r 39) (f.r 38) fun v1 =>
cnd v1
(aIdx 1 (f.r 37) (f.r 39) fun v2 =>
aLoad false 1 v2 h fun v3 =>
Good prog J 71 [v3, (vint 0), (vint 48)] h fun v4 h5 =>
aUn .not v4 fun v6 =>
cnd v6
(retL n0 K f.ds [(Value.slice none 0 0), (vint 0), (vint 1)] h5)
(aBin prog .add 3 (f.r 39) (vint 1) fun v7 =>
nx0 (RG.p (RG.p (RG.p (RG.p (RG.p (RG.p (RG.p (RG.p (RG.p f 40 v1) 41 v2) 42 v3) 10 v3) 43 v3) 44 v4) 45 v6) 46 v7) 39 v7) h5))
(aLoad false 1 (f.r 3) h fun v8 =>
aLenS v8 fun v9 =>
Good prog J 72 [v9, (Value.slice none 0 0)] h fun v10 h11 =>
((16 : Nat) ≤ 1024 ∧ aMkC (vint 0) h11 fun v12 h13 =>
aAlloc [(Value.chan none)] h13 fun v14 h15 =>
aStore 1 v14 v12 h15 fun h16 =>
Sx (RG.p (RG.p (RG.p (RG.p (RG.p (RG.p (RG.p f 40 v1) 47 v8) 48 v9) 49 v10) 11 v10) 50 v12) 12 v14) h16))) := sub_eq pok26 ct26 (by kernel_rfl)
theorem l26_1 (hJ : Closed prog main J) {S : Type} (μ : S → Nat) (I : S → RG → List AObj → Prop) (hI : ∀ s f h, I s f h → heapOk h → n0 ≤ h.length → W prog J 109 n0 26 (subC [1, 1, 1, 0, 1, 0, 0] (trunc 6 (codeOf f26))) f h (thenK (Nx n0 μ I s) (contX pl26 prog J 109 n0 26 ct26 [1, 1, 1, 0, 1, 0] (trunc 6 (codeOf f26)) [] (thenK Sx (RetQ prog [.tmp 4, .tmp 5, .tmp 6] n0 K)))))
  {s : S} {f : RG} (hi : Gets n0 I s f h) : Sem J 109 n0 26 (subC [1, 1, 1, 0, 1, 0] (trunc 6 (codeOf f26))) f h (contX pl26 prog J 109 n0 26 ct26 [1, 1, 1, 0, 1, 0] (trunc 6 (codeOf f26)) [] (thenK Sx (RetQ prog [.tmp 4, .tmp 5, .tmp 6] n0 K))) :=
  loop_rule hJ mixed (b := subC [1, 1, 1, 0, 1, 0, 0] (trunc 6 (codeOf f26))) (by kernel_rfl) μ I hI hi
end
theorem q26_1 {f : RG} {fr : FuncId} {Q : QT} : W prog J 109 n0 fr (subC [1, 1, 1, 1, 1, 1, 0, 0] (codeOf f26)) f h Q =
(aLenS (f.r 11) fun v1 =>
Q .normal (RG.p (RG.p (RG.p f 51 (f.r 11)) 52 v1) 53 (vint 0)) h) := by kernel_rfl
theorem q26_2 {f : RG} {fr : FuncId} {Q : QT} : W prog J 109 n0 fr (subC [1, 1, 1, 1, 1, 1, 0, 1, 0, 0, 0] (codeOf f26)) f h Q =
(aBin prog .lss 3 (f.r 53) (f.r 52) fun v1 =>
Q .normal (RG.p f 54 v1) h) := by kernel_rfl
theorem q26_3 {f : RG} {fr : FuncId} {Q : QT} : W prog J 109 n0 fr (subC [1, 1, 1, 1, 1, 1, 0, 1, 0, 0, 1, 0] (codeOf f26)) f h Q =
(cnd (f.r 54)
(Q .normal f h)
(Q (.exit 2) f h)) := by kernel_rfl
theorem q26_4 {f : RG} {fr : FuncId} {Q : QT} : W prog J 109 n0 fr (subC [1, 1, 1, 1, 1, 1, 0, 1, 0, 0, 1, 1, 0, 0, 0] (codeOf f26)) f h Q =
(aIdx 1 (f.r 51) (f.r 53) fun v1 =>
aLoad false 1 v1 h fun v2 =>
aAlloc [(vint 0)] h fun v3 h4 =>
aAlloc [(Value.slice none 0 0)] h4 fun v5 h6 =>
aStore 1 v3 (f.r 53) h6 fun h7 =>
aStore 1 v5 v2 h7 fun h8 =>
Q .normal (RG.p (RG.p (RG.p (RG.p (RG.p f 55 (f.r 53)) 56 v1) 57 v2) 13 v3) 14 v5) h8) := by kernel_rfl
theorem q26_5 {f : RG} {fr : FuncId} {Q : QT} : W prog J 109 n0 fr (subC [1, 1, 1, 1, 1, 1, 0, 1, 0, 0, 1, 1, 1] (codeOf f26)) f h Q =
(aBin prog .add 3 (f.r 53) (vint 1) fun v1 =>
Q .normal (RG.p (RG.p f 59 v1) 53 v1) h) := by kernel_rfl
theorem q26_6 {f : RG} {fr : FuncId} {Q : QT} : W prog J 109 n0 fr (subC [1, 1, 1, 1, 1, 1, 1, 0] (codeOf f26)) f h Q =
(aLenS (f.r 11) fun v1 =>
((List.length [(vint 0)] = 1 ∧ (8 : Nat) ≤ 1024) ∧ aMkS [(vint 0)] v1 v1 h fun v2 h3 =>
Q .normal (RG.p (RG.p (RG.p (RG.p f 60 (f.r 11)) 61 v1) 62 v2) 15 v2) h3)) := by kernel_rfl
theorem q26_7 {f : RG} {fr : FuncId} {Q : QT} : W prog J 109 n0 fr (subC [1, 1, 1, 1, 1, 1, 1, 1, 0, 0] (codeOf f26)) f h Q =
(aLenS (f.r 11) fun v1 =>
Q .normal (RG.p (RG.p (RG.p f 63 (f.r 11)) 64 v1) 65 (vint 0)) h) := by kernel_rfl
theorem q26_8 {f : RG} {fr : FuncId} {Q : QT} : W prog J 109 n0 fr (subC [1, 1, 1, 1, 1, 1, 1, 1, 0, 1, 0, 0, 0] (codeOf f26)) f h Q =
(aBin prog .lss 3 (f.r 65) (f.r 64) fun v1 =>
Q .normal (RG.p f 66 v1) h) := by kernel_rfl
theorem q26_9 {f : RG} {fr : FuncId} {Q : QT} : W prog J 109 n0 fr (subC [1, 1, 1, 1, 1, 1, 1, 1, 0, 1, 0, 0, 1, 0] (codeOf f26)) f h Q =
(cnd (f.r 66)
(Q .normal f h)
(Q (.exit 4) f h)) := by kernel_rfl
theorem q26_10 {f : RG} {fr : FuncId} {Q : QT} : W prog J 109 n0 fr (subC [1, 1, 1, 1, 1, 1, 1, 1, 0, 1, 0, 0, 1, 1, 0, 0, 1] (codeOf f26)) f h Q =
(aOff (f.r 16) 0 fun v1 =>
aLoad false 1 v1 h fun v2 =>
aOff (f.r 16) 1 fun v3 =>
aLoad false 1 v3 h fun v4 =>
aIdx 1 (f.r 15) v2 fun v5 =>
aStore 1 v5 v4 h fun h6 =>
Q .normal (RG.p (RG.p (RG.p (RG.p (RG.p (RG.p f 69 (f.r 15)) 70 v1) 71 v2) 72 v3) 73 v4) 74 v5) h6) := by kernel_rfl
theorem q26_11 {f : RG} {fr : FuncId} {Q : QT} : W prog J 109 n0 fr (subC [1, 1, 1, 1, 1, 1, 1, 1, 0, 1, 0, 0, 1, 1, 1] (codeOf f26)) f h Q =
(aBin prog .add 3 (f.r 65) (vint 1) fun v1 =>
Q .normal (RG.p (RG.p f 75 v1) 65 v1) h) := by kernel_rfl
noncomputable def ops26_1 : Array Oper := opsAt [1, 1, 1, 1, 1, 1, 0, 1, 0, 0, 1, 1, 0, 0, 1] (codeOf f26)
theorem z26_1 : ops26_1.size = 2 := by kernel_rfl
noncomputable def p26_1_0 : Oper := opGet ops26_1 0
theorem o26_1_0 {J : JT} : ops26_1[0]? = some p26_1_0 ∧ p26_1_0.dst = some 58 ∧ dstOk 109 p26_1_0 = true ∧ (∀ r, gd ops26_1 p26_1_0 r = some true) ∧ (∀ (f : RG) (h : List AObj) (H : Value → List AObj → Prop), opW prog (Good prog J) p26_1_0 f.r h H = (aMkF 73 [] [(f.r 12), (f.r 13), (f.r 2), (f.r 3), (f.r 14)] fun v1 =>
H v1 h)) := ⟨by kernel_rfl, by kernel_rfl, by kernel_rfl, fun _ => by kernel_rfl, fun _ _ _ => by kernel_rfl⟩
noncomputable def p26_1_1 : Oper := opGet ops26_1 1
theorem o26_1_1 {J : JT} : ops26_1[1]? = some p26_1_1 ∧ p26_1_1.dst = none ∧ dstOk 109 p26_1_1 = true ∧ (∀ r, gd ops26_1 p26_1_1 r = some true) ∧ (p26_1_1.op = (Go.Op.go { callee := (Go.Callee.value (Go.Operand.tmp 58)), args := #[], argTypes := #[] })) := ⟨by kernel_rfl, by kernel_rfl, by kernel_rfl, fun _ => by kernel_rfl, by kernel_rfl⟩
noncomputable def ops26_2 : Array Oper := opsAt [1, 1, 1, 1, 1, 1, 1, 1, 0, 1, 0, 0, 1, 1, 0, 0, 0] (codeOf f26)
theorem z26_2 : ops26_2.size = 4 := by kernel_rfl
noncomputable def p26_2_0 : Oper := opGet ops26_2 0
theorem o26_2_0 {J : JT} : ops26_2[0]? = some p26_2_0 ∧ p26_2_0.dst = some 67 ∧ dstOk 109 p26_2_0 = true ∧ (∀ r, gd ops26_2 p26_2_0 r = some true) ∧ (∀ (f : RG) (h : List AObj) (H : Value → List AObj → Prop), opW prog (Good prog J) p26_2_0 f.r h H = (aLoad false 1 (f.r 12) h fun v1 =>
H v1 h)) := ⟨by kernel_rfl, by kernel_rfl, by kernel_rfl, fun _ => by kernel_rfl, fun _ _ _ => by kernel_rfl⟩
noncomputable def p26_2_1 : Oper := opGet ops26_2 1
theorem o26_2_1 {J : JT} : ops26_2[1]? = some p26_2_1 ∧ p26_2_1.dst = some 68 ∧ dstOk 109 p26_2_1 = true ∧ (∀ r, gd ops26_2 p26_2_1 r = some true) ∧ (p26_2_1.op = (Go.Op.recv 93 (Go.Operand.tmp 67) false)) := ⟨by kernel_rfl, by kernel_rfl, by kernel_rfl, fun _ => by kernel_rfl, by kernel_rfl⟩
noncomputable def p26_2_2 : Oper := opGet ops26_2 2
theorem o26_2_2 {J : JT} : ops26_2[2]? = some p26_2_2 ∧ p26_2_2.dst = some 16 ∧ dstOk 109 p26_2_2 = true ∧ (∀ r, gd ops26_2 p26_2_2 r = some true) ∧ (∀ (f : RG) (h : List AObj) (H : Value → List AObj → Prop), opW prog (Good prog J) p26_2_2 f.r h H = (aAlloc [(vint 0), (vint 0)] h fun v1 h2 =>
H v1 h2)) := ⟨by kernel_rfl, by kernel_rfl, by kernel_rfl, fun _ => by kernel_rfl, fun _ _ _ => by kernel_rfl⟩
noncomputable def p26_2_3 : Oper := opGet ops26_2 3
theorem o26_2_3 {J : JT} : ops26_2[3]? = some p26_2_3 ∧ p26_2_3.dst = none ∧ dstOk 109 p26_2_3 = true ∧ (∀ r, gd ops26_2 p26_2_3 r = some true) ∧ (∀ (f : RG) (h : List AObj) (H : Value → List AObj → Prop), opW prog (Good prog J) p26_2_3 f.r h H = (aStore 2 (f.r 16) (f.r 68) h fun h1 =>
H unk h1)) := ⟨by kernel_rfl, by kernel_rfl, by kernel_rfl, fun _ => by kernel_rfl, fun _ _ _ => by kernel_rfl⟩
def pl26t : Plans := [(35, true, .take 0 (.take 1 (.take 2 (.take 3 (.take 4 (.take 5 (.take 6 (.take 7 (.take 8 (.take 9 (.take 10 (.fin))))))))))))]
def ct26t : Cuts := .bin (.go) (.bin (.go) (.bin (.go) (.bin (.go) (.bin (.go) (.bin (.go) (.bin (.go) (.bin (.go) (.bin (.go) (.cut (.bin (.go) (.bin (.bin (.go) (.un (.un (.bin (.go) (.bin (.go) (.bin (.un (.bin (.go) (.bin (.go) (.cut (.go))))) (.go))))))) (.go))))))))))))
theorem pok26t : plansOk prog pl26t (codeOf f26) = true := by kernel_rfl
theorem s26t_1 {f : RG} : W prog J 109 n0 26 (subC [1, 1, 1, 1, 1, 1, 1, 1, 1] (codeOf f26)) f h (contX pl26t prog J 109 n0 26 ct26t [1, 1, 1, 1, 1, 1, 1, 1, 1] (codeOf f26) [] (RetQ prog [.tmp 4, .tmp 5, .tmp 6] n0 K)) =
(aLenS (f.r 15) fun v1 =>
Sem J 109 n0 26 (subC [1, 1, 1, 1, 1, 1, 1, 1, 1, 1, 0, 1, 0] (codeOf f26)) (RG.p (RG.p (RG.p (RG.p f 17 (vint (-1))) 76 (f.r 15)) 77 v1) 78 (vint 0)) h (contX pl26t prog J 109 n0 26 ct26t [1, 1, 1, 1, 1, 1, 1, 1, 1, 1, 0, 1, 0] (codeOf f26) [] (RetQ prog [.tmp 4, .tmp 5, .tmp 6] n0 K))) := sub_eq pok26t ct26t (by kernel_rfl)
theorem s26t_2 {f : RG} {nx0 : RG → List AObj → Prop} : W prog J 109 n0 26 (subC [1, 1, 1, 1, 1, 1, 1, 1, 1, 1, 0, 1, 0, 0] (codeOf f26)) f h (thenK nx0 (contX pl26t prog J 109 n0 26 ct26t [1, 1, 1, 1, 1, 1, 1, 1, 1, 1, 0, 1, 0] (codeOf f26) [] (RetQ prog [.tmp 4, .tmp 5, .tmp 6] n0 K))) =
(aBin prog .lss 3 (f.r 78) (f.r 77) fun v1 =>
cnd v1
(aIdx 1 (f.r 76) (f.r 78) fun v2 =>
aLoad false 1 v2 h fun v3 =>
aBin prog .geq 3 v3 (vint 0) fun v4 =>
cnd v4
(aBin prog .lss 3 (f.r 17) (vint 0) fun v5 =>
cnd v5
(Hold (W prog J 109 n0 26 (subC [1, 1, 1, 1, 1, 1, 1, 1, 1, 1, 0, 1, 0, 0, 1, 1, 0, 0, 1, 1] (codeOf f26)) (RG.p (RG.p (RG.p (RG.p (RG.p (RG.p (RG.p (RG.p (RG.p (RG.p (RG.p (RG.p (RG.p (RG.p (RG.p (RG.p (RG.p (RG.p (RG.p (RG.p (RG.p (RG.p f 79 v1) 80 (f.r 78)) 81 v2) 82 v3) 18 (f.r 78)) 19 v3) 83 v3) 84 v4) 85 v4) 85 (Value.bool true)) 86 (f.r 17)) 87 v5) 88 v5) 88 (Value.bool true)) 89 undef) 90 undef) 91 undef) 92 undef) 93 undef) 94 undef) 95 (Value.bool true)) 96 (Value.bool true)) h (contX pl26t prog J 109 n0 26 ct26t [1, 1, 1, 1, 1, 1, 1, 1, 1, 1, 0, 1, 0, 0, 1, 1, 0, 0, 1, 1] (codeOf f26) [nx0] (RetQ prog [.tmp 4, .tmp 5, .tmp 6] n0 K))))
(aIdx 1 (f.r 15) (f.r 17) fun v6 =>
aLoad false 1 v6 h fun v7 =>
aBin prog .lss 3 v3 v7 fun v8 =>
Hold (W prog J 109 n0 26 (subC [1, 1, 1, 1, 1, 1, 1, 1, 1, 1, 0, 1, 0, 0, 1, 1, 0, 0, 1, 1] (codeOf f26)) (RG.p (RG.p (RG.p (RG.p (RG.p (RG.p (RG.p (RG.p (RG.p (RG.p (RG.p (RG.p (RG.p (RG.p (RG.p (RG.p (RG.p (RG.p (RG.p (RG.p (RG.p (RG.p f 79 v1) 80 (f.r 78)) 81 v2) 82 v3) 18 (f.r 78)) 19 v3) 83 v3) 84 v4) 85 v4) 85 (Value.bool true)) 86 (f.r 17)) 87 v5) 88 v5) 88 (Value.bool false)) 89 v3) 90 (f.r 15)) 91 (f.r 17)) 92 v6) 93 v7) 94 v8) 95 v8) 96 v8) h (contX pl26t prog J 109 n0 26 ct26t [1, 1, 1, 1, 1, 1, 1, 1, 1, 1, 0, 1, 0, 0, 1, 1, 0, 0, 1, 1] (codeOf f26) [nx0] (RetQ prog [.tmp 4, .tmp 5, .tmp 6] n0 K)))))
(Hold (W prog J 109 n0 26 (subC [1, 1, 1, 1, 1, 1, 1, 1, 1, 1, 0, 1, 0, 0, 1, 1, 0, 0, 1, 1] (codeOf f26)) (RG.p (RG.p (RG.p (RG.p (RG.p (RG.p (RG.p (RG.p (RG.p (RG.p (RG.p (RG.p (RG.p (RG.p (RG.p (RG.p (RG.p (RG.p (RG.p (RG.p (RG.p f 79 v1) 80 (f.r 78)) 81 v2) 82 v3) 18 (f.r 78)) 19 v3) 83 v3) 84 v4) 85 v4) 85 (Value.bool false)) 86 undef) 87 undef) 88 undef) 89 undef) 90 undef) 91 undef) 92 undef) 93 undef) 94 undef) 95 undef) 96 (Value.bool false)) h (contX pl26t prog J 109 n0 26 ct26t [1, 1, 1, 1, 1, 1, 1, 1, 1, 1, 0, 1, 0, 0, 1, 1, 0, 0, 1, 1] (codeOf f26) [nx0] (RetQ prog [.tmp 4, .tmp 5, .tmp 6] n0 K)))))
(aBin prog .lss 3 (f.r 17) (vint 0) fun v9 =>
cnd v9
(retL n0 K f.ds [(Value.slice none 0 0), (vint 0), (vint 11)] h)
(aIdx 1 (f.r 11) (f.r 17) fun v10 =>
aLoad false 1 v10 h fun v11 =>
aIdx 1 (f.r 15) (f.r 17) fun v12 =>
aLoad false 1 v12 h fun v13 =>
retL n0 K f.ds [v11, v13, (vint 0)] h))) := sub_eq pok26t ct26t (by kernel_rfl)
theorem l26t_2 (hJ : Closed prog main J) {S : Type} (μ : S → Nat) (I : S → RG → List AObj → Prop) (hI : ∀ s f h, I s f h → heapOk h → n0 ≤ h.length → W prog J 109 n0 26 (subC [1, 1, 1, 1, 1, 1, 1, 1, 1, 1, 0, 1, 0, 0] (codeOf f26)) f h (thenK (Nx n0 μ I s) (contX pl26t prog J 109 n0 26 ct26t [1, 1, 1, 1, 1, 1, 1, 1, 1, 1, 0, 1, 0] (codeOf f26) [] (RetQ prog [.tmp 4, .tmp 5, .tmp 6] n0 K))))
  {s : S} {f : RG} (hi : Gets n0 I s f h) : Sem J 109 n0 26 (subC [1, 1, 1, 1, 1, 1, 1, 1, 1, 1, 0, 1, 0] (codeOf f26)) f h (contX pl26t prog J 109 n0 26 ct26t [1, 1, 1, 1, 1, 1, 1, 1, 1, 1, 0, 1, 0] (codeOf f26) [] (RetQ prog [.tmp 4, .tmp 5, .tmp 6] n0 K)) :=
  loop_rule hJ mixed (b := subC [1, 1, 1, 1, 1, 1, 1, 1, 1, 1, 0, 1, 0, 0] (codeOf f26)) (by kernel_rfl) μ I hI hi
theorem s26t_3 {f : RG} {nx0 : RG → List AObj → Prop} : W prog J 109 n0 26 (subC [1, 1, 1, 1, 1, 1, 1, 1, 1, 1, 0, 1, 0, 0, 1, 1, 0, 0, 1, 1] (codeOf f26)) f h (contX pl26t prog J 109 n0 26 ct26t [1, 1, 1, 1, 1, 1, 1, 1, 1, 1, 0, 1, 0, 0, 1, 1, 0, 0, 1, 1] (codeOf f26) [nx0] (RetQ prog [.tmp 4, .tmp 5, .tmp 6] n0 K)) =
(cnd (f.r 96)
(aBin prog .add 3 (f.r 78) (vint 1) fun v1 =>
nx0 (RG.p (RG.p (RG.p (RG.p f 97 (f.r 18)) 17 (f.r 18)) 98 v1) 78 v1) h)
(aBin prog .add 3 (f.r 78) (vint 1) fun v2 =>
nx0 (RG.p (RG.p f 98 v2) 78 v2) h)) := sub_eq pok26t ct26t (by kernel_rfl)
end
section
variable {main : Bool} {J : JT} {n0 : Nat} {h : List AObj} {K : Value → List AObj → Prop}
theorem at73 : prog.funcs[73]? = some f73 := by kernel_rfl
theorem body73 : f73.body = some (codeOf f73) := by kernel_rfl
noncomputable def ops73_1 : Array Oper := opsAt [] (codeOf f73)
theorem r73_1 : subC [] (codeOf f73) = .region 0 ops73_1 true := by kernel_rfl
theorem z73_1 : ops73_1.size = 8 := by kernel_rfl
noncomputable def p73_1_7 : Oper := opGet ops73_1 7
theorem o73_1_7 {J : JT} : ops73_1[7]? = some p73_1_7 ∧ p73_1_7.dst = none ∧ dstOk 12 p73_1_7 = true ∧ (∀ r, gd ops73_1 p73_1_7 r = some true) ∧ (p73_1_7.op = (Go.Op.send (Go.Operand.tmp 5) (Go.Operand.tmp 11))) := ⟨by kernel_rfl, by kernel_rfl, by kernel_rfl, fun _ => by kernel_rfl, by kernel_rfl⟩
end
end Go.Proofs.Ytindillghipjjaa
namespace Go.Proofs.Ytindillghipjjaa
open Go.Conc
open Go.ConcN (sumTo upd sumTo_upd upd_ne upd_same)
def Ends (P : Program) (Post : Value → World → Prop) (m : Machine) (t : Trace) : Prop :=
  ∃ N last o w' t', runNT P (N + 1) m t = (.ended o w', t') ∧ runN P N m = .next last ∧ step P last = .ended o w' ∧ Go.Conc.Good P Post last o w' t'
structure Base (W0 w : World) : Prop where
  tape : w.tape = W0.tape
  os : w.os = W0.os
  output : w.output = W0.output
  size : W0.heap.size ≤ w.heap.size
def J1 (P : Program) (W0 : World) (Post : Value → World → Prop) (g : Goroutine) (w : World) (ft : Foot) : Prop :=
  ∀ (gs : Array Goroutine) (w₁ : World) (sl : Option (Nat × Nat)) (t : Trace) (q : Nat → Nat), (∀ b, ft.rd b → b < w₁.heap.size) → (∀ b, ft.wr b → ft.rd b) → RelyW ft w w₁ → Base W0 w₁ → gs[0]? = some g → Leavers P t gs q → Past (fun _ => False) w₁.heap.size t →
    Ends P Post (crowd gs w₁ sl) t
section
variable {P : Program} {W0 : World} {Post : Value → World → Prop} {g : Goroutine} {w w₁ : World} {ft : Foot}
theorem Ends.next {m m' : Machine} {t : Trace} {ops : Array MemOp} (hs : stepT P m = (.next m', ops)) (h : Ends P Post m' (t ++ ops)) : Ends P Post m t := by
  obtain ⟨n, last, o, w, t', h1, h2, h3, h4⟩ := h
  exact ⟨n + 1, last, o, w, t', by rw [runNT_succ_next hs]; exact h1, by rw [runN_succ_next hs]; exact h2, h3, h4⟩
theorem evL_of {e : Event} {B : Nat} (he : EvOk ft e) (hb : ∀ b, ft.rd b → b < B) : EvL (fun _ => False) B e := by
  obtain ⟨loc, wr, sync⟩ := e
  unfold EvOk at he
  refine ⟨fun x _ hs => hs.elim, ?_, ?_, ?_⟩
  · intro hl
    simp only at hl
    subst hl
    exact he
  · intro hl
    simp only at hl
    subst hl
    exact he
  · cases loc with
    | cell a => exact hb _ he.2.1
    | obj r =>
      have hs : sync = false := he.1
      subst hs
      have := hb _ he.2.1
      cases wr <;> exact this
    | mark m =>
      cases m <;> first | exact he.elim | trivial
    | output => trivial
    | goroutines => trivial
theorem mem_g {i : Nat} {fn : FuncId} {pos : String} {es : Array Event} {op : MemOp} (h : op ∈ MemOp.ofEvents i fn pos es) : op.g = i := by
  rw [ofEvents_eq] at h
  obtain ⟨e, he, rfl⟩ := Array.mem_map.1 h
  rfl
theorem relyW_at (ft : Foot) (w : World) (d : Nat) : RelyW ft w (w.at d) := ⟨fun _ _ => rfl, Nat.le_refl _, rfl, rfl, rfl⟩
theorem J1.both (hrun : g.status = .running)
    (h : ∀ w₁, RelyW ft w w₁ → Base W0 w₁ → (∃ g' w' es, stepG P true g w₁ = .go g' w' es ∧ g'.status = .running ∧ GuarW ft w₁ w' es ∧ J1 P W0 Post g' w' (ft.ext w₁.heap.size w'.heap.size)) ∨
      ∃ v es, stepG P true g w₁ = .ended (.done v) w₁ es ∧ (∀ e ∈ es, EvOk ft e) ∧ Post v w₁) : J1 P W0 Post g w ft := by
  intro gs w₁ sl t q hbd hsub hrel hbase h0 hL hP
  generalize hM : sumTo gs.size q = M
  induction M using Nat.strongRecOn generalizing gs w₁ sl t q with
  | ind M ih =>
    have haw : ∀ g ∈ gs, awake g := by
      intro x hx
      obtain ⟨i, hi, rfl⟩ := Array.mem_iff_getElem.1 hx
      rcases Nat.eq_zero_or_pos i with rfl | hpos
      · have : gs[0] = g := by simpa [Array.getElem?_eq_getElem hi] using h0
        rw [this]; exact awake_of (.inl hrun)
      · exact awake_of ((hL.old i _ hpos (Array.getElem?_eq_getElem hi)).status.elim .inl fun x => .inr (.inr x))
    obtain ⟨i, x, d, sl', hi, hg, hst⟩ := crowd_pick (P := P) (w := w₁) (sl := sl) haw ⟨0, g, h0, hrun⟩
    rcases Nat.eq_zero_or_pos i with rfl | hpos
    · obtain rfl : x = g := by rw [h0] at hi; exact (Option.some.inj hi).symm
      rcases h (w₁.at d) (hrel.trans (relyW_at ft w₁ d)) ⟨hbase.tape, hbase.os, hbase.output, hbase.size⟩ with ⟨g', w', es, hgo, hrun', hgu, hJ⟩ | ⟨v, es, hend, hes, hpost⟩
      · have hrunT := runT_crowd_go (P := P) (sl := sl') (i := 0) hi (show stepG P (0 == 0) x (w₁.at d) = _ from hgo)
        have hsz : ((gs.map (woken P x g' w')).setIfInBounds 0 g').size = gs.size := by simp
        have hlt : 0 < gs.size := (Array.getElem?_eq_some_iff.1 h0).1
        have hw' : w₁.heap.size ≤ w'.heap.size := hgu.size
        refine Ends.next (hst.trans hrunT) ?_
        refine hJ _ w' sl' _ q (fun b hb => ?_) (fun b hb => ?_) (RelyW.refl _ _) ⟨hgu.tape.trans hbase.tape, hgu.os.trans hbase.os, hgu.output.trans hbase.output, Nat.le_trans hbase.size hgu.size⟩ (by simp [hlt]) ⟨fun j y hj hy => ?_, fun j hj => ?_⟩ ?_
        · rcases hb with hb | hb
          · exact Nat.lt_of_lt_of_le (hbd b hb) hw'
          · exact hb.2
        · rcases hb with hb | hb
          · exact .inl (hsub b hb)
          · exact .inr hb
        · have hne : 0 ≠ j := by omega
          rw [Array.getElem?_setIfInBounds_ne hne, Array.getElem?_map] at hy
          obtain ⟨z, hz, rfl⟩ := Option.map_eq_some_iff.1 hy
          have hq := hL.old j z hj hz
          rw [woken_quitsD hq, Deaf_other t (by omega) _ (fun op hop => mem_g hop)]
          exact hq
        · rw [Deaf_other t (g' := 0) (by simp at hj; omega) _ (fun op hop => mem_g hop)]
          exact hL.above j (by simpa using hj)
        · exact (hP.mono hw').own fun e he => evL_of (hgu.evs e he) fun b hb => Nat.lt_of_lt_of_le (hbd b hb) hw'
      · have hrunT := runT_many_ended (P := P) (sl := sl') (i := 0) hi (show stepG P (0 == 0) x (w₁.at d) = _ from hend)
        have hP' := hP.own (fn := x.frame.fn) (pos := x.frame.place) fun e he => evL_of (hes e he) hbd
        refine ⟨0, crowd gs w₁ sl, .done v, w₁.at d, _, by simp only [runNT, hst.trans hrunT], rfl, by simp [step, hst.trans hrunT], v, rfl, hpost, hP'.clean, hP'.over, ⟨fun y hy => ?_, rfl⟩, fun j y hy hj => ?_⟩
        · obtain ⟨j, hj⟩ := List.mem_iff_getElem?.1 hy
          rw [List.getElem?_drop] at hj
          exact ⟨_, (hL.old (1 + j) y (by omega) (by simpa [crowd] using hj)).leaves⟩
        · have hq := hL.old j y (by omega) hy
          refine ⟨q j, ?_⟩
          have e : (t ++ MemOp.ofEvents 0 x.frame.fn x.frame.place es).deaf j (t ++ MemOp.ofEvents 0 x.frame.fn x.frame.place es).size = Deaf t j :=
            Deaf_other t (g := j) (g' := 0) (by omega) _ (fun op hop => mem_g hop)
          rw [e]
          exact hq.hears _
    · have hq := hL.old i x hpos hi
      have hi0 : (i == 0) = false := by simp; omega
      have hlt : i < gs.size := (Array.getElem?_eq_some_iff.1 hi).1
      cases hqi : q i with
      | zero => rw [hqi] at hq; rw [hq.1] at hg; cases hg
      | succ k =>
        rw [hqi] at hq
        rcases hq with ⟨hf, _⟩ | ⟨_, g', es, hm, hstp, hq'⟩
        · rw [hf] at hg; cases hg
        have hrunT := runT_crowd_go (P := P) (sl := sl') (i := i) hi (by rw [hi0]; exact hstp (w₁.at d))
        have hsz : ((gs.map (woken P x g' (w₁.at d))).setIfInBounds i g').size = gs.size := by simp
        have hsum : sumTo gs.size (upd q i k) + (k + 1) = sumTo gs.size q + k := by
          have := sumTo_upd q k id hlt
          simpa [hqi] using this
        refine Ends.next (hst.trans hrunT) (ih (sumTo gs.size (upd q i k)) (by omega) _ (w₁.at d) sl' _ (upd q i k) hbd (hrel.trans (relyW_at ft w₁ d)) ⟨hbase.tape, hbase.os, hbase.output, hbase.size⟩ ?_ ⟨fun j y hj hy => ?_, fun j hj => ?_⟩ (hP.mute (by omega) hm) (by rw [hsz]))
        · have hne : i ≠ 0 := by omega
          rw [Array.getElem?_setIfInBounds_ne hne, Array.getElem?_map, h0]
          simp [woken_run hrun]
        · by_cases hji : i = j
          · subst hji
            rw [Array.getElem?_setIfInBounds_self_of_lt (by simpa using hlt)] at hy
            obtain rfl := Option.some.inj hy
            rw [upd_same, Deaf_own]
            exact hq'
          · rw [Array.getElem?_setIfInBounds_ne hji, Array.getElem?_map] at hy
            obtain ⟨z, hz, rfl⟩ := Option.map_eq_some_iff.1 hy
            have hqj := hL.old j z hj hz
            rw [woken_quitsD hqj, upd_ne q k (Ne.symm hji), Deaf_other t hji _ (fun op hop => mem_g hop)]
            exact hqj
        · rw [Deaf_other t (g' := i) (by simp at hj; omega) _ (fun op hop => mem_g hop)]
          exact hL.above j (by simpa using hj)
theorem J1.closed (P : Program) (W0 : World) (Post : Value → World → Prop) : Closed P true (J1 P W0 Post) where
  rely := fun h hr gs w₂ sl t q hbd hsub hrel hbase h0 hL hP => h gs w₂ sl t q hbd hsub (hr.trans hrel) hbase h0 hL hP
  step := fun hrun h => J1.both hrun fun w₁ h₁ _ => by
    obtain ⟨g', w', es, a, b, c, d⟩ := h w₁ h₁
    exact .inl ⟨g', w', es, a, b, c, d⟩
end
end Go.Proofs.Ytindillghipjjaa
namespace Go.Proofs.Ytindillghipjjaa
open Go.Conc
def putAt {X : Type} (f : Nat → X) (i : Nat) (x : X) : Nat → X := fun j => if j = i then x else f j
theorem putAt_self {X : Type} (f : Nat → X) (i : Nat) (x : X) : putAt f i x i = x := by simp [putAt]
theorem putAt_ne {X : Type} (f : Nat → X) {i j : Nat} (x : X) (h : j ≠ i) : putAt f i x j = f j := by simp [putAt, h]
def Less {X : Type} (r : X → X → Prop) (n : Nat) (f' f : Nat → X) : Prop := ∃ i, i < n ∧ r (f' i) (f i) ∧ ∀ j, j ≠ i → f' j = f j
theorem less_acc {X : Type} (r : X → X → Prop) : ∀ (n : Nat) (f : Nat → X), (∀ i, i < n → Acc r (f i)) → Acc (Less r n) f
  | 0, f, _ => ⟨f, fun _ h => by obtain ⟨i, hi, _⟩ := h; omega⟩
  | n + 1, f, h => by
    have key : ∀ a, Acc r a → ∀ g : Nat → X, Acc (Less r n) g → Acc (Less r (n + 1)) (putAt g n a) := by
      intro a ha
      induction ha with
      | intro a _ iha =>
        intro g hg
        induction hg with
        | intro g hgs ihg =>
          refine ⟨_, fun y hy => ?_⟩
          obtain ⟨i, hi, hr, ho⟩ := hy
          by_cases hin : i = n
          · subst hin
            rw [putAt_self] at hr
            have : y = putAt g i (y i) := by
              funext j
              by_cases hj : j = i
              · subst hj; rw [putAt_self]
              · rw [putAt_ne _ _ hj, ho j hj, putAt_ne _ _ hj]
            rw [this]
            exact iha (y i) hr g ⟨g, hgs⟩
          · rw [putAt_ne _ _ hin] at hr
            have : y = putAt (putAt g i (y i)) n a := by
              funext j
              by_cases hj : j = n
              · subst hj
                rw [putAt_self, ho j (fun e => hin e.symm), putAt_self]
              · rw [putAt_ne _ _ hj]
                by_cases hji : j = i
                · subst hji; rw [putAt_self]
                · rw [putAt_ne _ _ hji, ho j hji, putAt_ne _ _ hj]
            rw [this]
            refine ihg _ ⟨i, by omega, by rw [putAt_self]; exact hr, fun j hj => putAt_ne _ _ hj⟩
    have e : f = putAt f n (f n) := by
      funext j
      by_cases hj : j = n
      · subst hj; rw [putAt_self]
      · rw [putAt_ne _ _ hj]
    rw [e]
    exact key (f n) (h n (by omega)) f (less_acc r n f fun i hi => h i (by omega))
inductive Toward (P : Program) (Stop : JT) : Goroutine → World → Foot → Prop where
  | stop {g : Goroutine} {w : World} {ft : Foot} : g.status = .running → (∀ w₁, RelyW ft w w₁ → Stop g w₁ ft) → Toward P Stop g w ft
  | step {g : Goroutine} {w : World} {ft : Foot} : g.status = .running → (∀ w₁, RelyW ft w w₁ → ∃ g' w' es, stepG P false g w₁ = .go g' w' es ∧ g'.status = .running ∧ GuarW ft w₁ w' es) →
      (∀ w₁ g' w' es, RelyW ft w w₁ → stepG P false g w₁ = .go g' w' es → Toward P Stop g' w' (ft.ext w₁.heap.size w'.heap.size)) → Toward P Stop g w ft
theorem Toward.running {P : Program} {Stop : JT} {g : Goroutine} {w : World} {ft : Foot} (h : Toward P Stop g w ft) : g.status = .running := by
  cases h with
  | stop h _ => exact h
  | step h _ _ => exact h
theorem Toward.rely {P : Program} {Stop : JT} {g : Goroutine} {w w₁ : World} {ft : Foot} (h : Toward P Stop g w ft) (hr : RelyW ft w w₁) : Toward P Stop g w₁ ft := by
  cases h with
  | stop h1 h2 => exact .stop h1 fun w₂ h₂ => h2 w₂ (hr.trans h₂)
  | step h1 h2 h3 => exact .step h1 (fun w₂ h₂ => h2 w₂ (hr.trans h₂)) fun w₂ g' w' es h₂ hs => h3 w₂ g' w' es (hr.trans h₂) hs
theorem Toward.closed (P : Program) (Stop : JT) : Closed P false (Toward P Stop) where
  rely := fun h hr => h.rely hr
  step := fun hrun h => .step hrun (fun w₁ h₁ => by
    obtain ⟨g', w', es, a, b, c, _⟩ := h w₁ h₁
    exact ⟨g', w', es, a, b, c⟩) fun w₁ g' w' es h₁ hs => by
    obtain ⟨g2, w2, es2, a, b, c, d⟩ := h w₁ h₁
    rw [hs] at a
    cases a
    exact d
inductive WS where
  | quit (n : Nat)
  | way (w : World) (ft : Foot)
  | park
inductive WLt (P : Program) : Goroutine × WS → Goroutine × WS → Prop where
  | step {g g' : Goroutine} {w w₁ w' : World} {ft : Foot} {es : Array Event} : RelyW ft w w₁ → stepG P false g w₁ = .go g' w' es → WLt P (g', .way w' (ft.ext w₁.heap.size w'.heap.size)) (g, .way w ft)
  | quit {g g' : Goroutine} {w : World} {ft : Foot} {n : Nat} : WLt P (g', .quit n) (g, .way w ft)
  | park {g g' : Goroutine} {w : World} {ft : Foot} : WLt P (g', .park) (g, .way w ft)
  | out {g g' : Goroutine} {n : Nat} : WLt P (g', .quit n) (g, .park)
  | less {g g' : Goroutine} {n m : Nat} : n < m → WLt P (g', .quit n) (g, .quit m)
theorem acc_quit (P : Program) : ∀ (n : Nat) (g : Goroutine), Acc (WLt P) (g, .quit n) := by
  intro n
  induction n using Nat.strongRecOn with
  | ind n ih =>
    intro g
    refine ⟨_, fun y hy => ?_⟩
    cases hy with
    | less h => exact ih _ h _
theorem acc_park (P : Program) (g : Goroutine) : Acc (WLt P) (g, .park) :=
  ⟨_, fun y hy => by cases hy with | out => exact acc_quit P _ _⟩
def Halts (P : Program) (Stop : JT) : Prop := ∀ g w ft g' w' es, Stop g w ft → stepG P false g w ≠ .go g' w' es
theorem acc_way {P : Program} {Stop : JT} (hS : Halts P Stop) {g : Goroutine} {w : World} {ft : Foot} (h : Toward P Stop g w ft) : Acc (WLt P) (g, .way w ft) := by
  induction h with
  | stop h1 h2 =>
    refine ⟨_, fun y hy => ?_⟩
    cases hy with
    | step hr hs => exact absurd hs (hS _ _ _ _ _ _ (h2 _ hr))
    | quit => exact acc_quit P _ _
    | park => exact acc_park P _
  | step h1 h2 _ ih =>
    refine ⟨_, fun y hy => ?_⟩
    cases hy with
    | step hr hs => exact ih _ _ _ _ hr hs
    | quit => exact acc_quit P _ _
    | park => exact acc_park P _
def locBlk : Loc → Option Nat
  | .cell a => some a.block
  | .obj r => some r
  | _ => none
def KnowsOk (t : Trace) (x : Nat) (ft : Foot) : Prop :=
  ∀ i a, touchAt t i = some a → a.loc.isMemory = true → Knows t x i ∨ ∀ b, locBlk a.loc = some b → ¬ ft.wr b ∧ (a.write = true → ¬ ft.rd b)
theorem evOk_touch {ft : Foot} {e : Event} {a : Touch} (he : EvOk ft e) (ha : (MemAct.ofEvent e).touch? = some a) : ∃ b, locBlk a.loc = some b ∧ ft.rd b ∧ (a.write = true → ft.wr b) := by
  obtain ⟨loc, wr, sync⟩ := e
  unfold EvOk at he
  cases loc with
  | cell x =>
    simp only at he
    simp only [MemAct.ofEvent, MemAct.touch?, Option.some.injEq] at ha
    subst ha
    exact ⟨_, rfl, he.2.1, he.2.2⟩
  | obj r =>
    obtain ⟨rfl, h1, h2⟩ := he
    cases wr <;> (simp only [MemAct.ofEvent, MemAct.touch?, Option.some.injEq] at ha; subst ha; exact ⟨_, rfl, h1, h2⟩)
  | mark m => cases m <;> first | exact he.elim | (simp [MemAct.ofEvent, MemAct.touch?] at ha)
  | output => exact he.elim
  | goroutines => exact he.elim
theorem touch_low {x : MemAct} {a : Touch} {n b : Nat} (hl : x.low n) (ha : x.touch? = some a) (hb : locBlk a.loc = some b) : b < n := by
  cases x with
  | access e =>
    obtain ⟨loc, wr, sy⟩ := e
    simp only [MemAct.touch?, Option.some.injEq] at ha
    subst ha
    cases loc with
    | cell x => injection hb with hb; subst hb; exact hl
    | obj x => injection hb with hb; subst hb; exact hl
    | _ => cases hb
  | mark mk =>
    cases mk with
    | read x => injection ha with ha; subst ha; injection hb with hb; subst hb; exact hl
    | write x => injection ha with ha; subst ha; injection hb with hb; subst hb; exact hl
    | _ => cases ha
  | _ => cases ha
theorem touch_app {t u : Trace} {i : Nat} {a : Touch} (h : touchAt (t ++ u) i = some a) : (i < t.size ∧ touchAt t i = some a) ∨ ∃ op ∈ u, (t ++ u)[i]? = some op ∧ op.act.touch? = some a := by
  obtain ⟨x, hx, hxa⟩ := touch_of h
  rcases getElem?_append_cases hx with ⟨hi, hx'⟩ | ⟨_, hxu⟩
  · exact .inl ⟨hi, by rw [touchAt_of hx']; exact hxa⟩
  · exact .inr ⟨x, hxu, hx, hxa⟩
theorem conf_blk {said : Bool} {a b : Touch} (h : a.conflicts said b) : locBlk a.loc = locBlk b.loc ∧ a.loc.isMemory = true ∧ (a.write = true ∨ b.write = true) := ⟨by rw [h.1], h.2.1, h.2.2.1⟩
section
variable {t u : Trace} {x y : Nat} {ft fy : Foot} {fn : FuncId} {pos : String} {es : Array Event}
theorem KnowsOk.noRace {said : Bool} (hc : ¬ Race said t) (hk : KnowsOk t x ft) (he : ∀ e ∈ es, EvOk ft e) : ¬ Race said (t ++ MemOp.ofEvents x fn pos es) := by
  refine noRace_append hc (fun op hop => mem_g hop) fun i a ha op hop b hb hcf => ?_
  obtain ⟨e, hee, rfl⟩ := Go.Conc.mem_ofEvents hop
  obtain ⟨bl, h1, h2, h3⟩ := evOk_touch (he e hee) hb
  obtain ⟨c1, c2, c3⟩ := conf_blk hcf
  rcases hk i a ha c2 with h | h
  · exact h
  · obtain ⟨n1, n2⟩ := h bl (by rw [c1]; exact h1)
    rcases c3 with c | c
    · exact absurd h2 (n2 c)
    · exact absurd (h3 c) n1
theorem KnowsOk.mute (hk : KnowsOk t y fy) (hu : ∀ op ∈ u, op.act.touch? = none) : KnowsOk (t ++ u) y fy := by
  intro i a ha hm
  rcases touch_app ha with ⟨hi, h⟩ | ⟨op, hop, _, h⟩
  · exact (hk i a h hm).imp (·.app u) id
  · rw [hu op hop] at h; cases h
theorem KnowsOk.other (hk : KnowsOk t y fy) (he : ∀ e ∈ es, EvOk ft e) (d1 : ∀ b, ft.wr b → ¬ fy.rd b) (d2 : ∀ b, fy.wr b → ¬ ft.rd b) : KnowsOk (t ++ MemOp.ofEvents x fn pos es) y fy := by
  intro i a ha hm
  rcases touch_app ha with ⟨hi, h⟩ | ⟨op, hop, _, h⟩
  · exact (hk i a h hm).imp (·.app _) id
  · obtain ⟨e, hee, rfl⟩ := Go.Conc.mem_ofEvents hop
    obtain ⟨bl, h1, h2, h3⟩ := evOk_touch (he e hee) h
    refine .inr fun b hb => ?_
    rw [h1] at hb
    cases hb
    exact ⟨fun hw => d2 _ hw h2, fun hw => d1 _ (h3 hw)⟩
theorem KnowsOk.own {n m : Nat} (hk : KnowsOk t x ft) (he : ∀ e ∈ es, EvOk ft e) (hs : ∀ op ∈ t, op.act.low n) : KnowsOk (t ++ MemOp.ofEvents x fn pos es) x (ft.ext n m) := by
  intro i a ha hm
  rcases touch_app ha with ⟨hi, h⟩ | ⟨op, hop, hg, h⟩
  · rcases hk i a h hm with hh | hh
    · exact .inl (hh.app _)
    · refine .inr fun b hb => ?_
      obtain ⟨n1, n2⟩ := hh b hb
      have hlow : b < n := by
        obtain ⟨z, hz, hza⟩ := touch_of h
        exact touch_low (hs z (Array.mem_of_getElem? hz)) hza hb
      exact ⟨fun hw => hw.elim n1 (fun e => by omega), fun hw hr => hr.elim (n2 hw) fun e => by omega⟩
  · have := knows_own hg
    rw [mem_g hop] at this
    exact .inl this
theorem KnowsOk.less {f' : Foot} (hk : KnowsOk t x ft) (h1 : ∀ b, f'.rd b → ft.rd b) (h2 : ∀ b, f'.wr b → ft.wr b) : KnowsOk t x f' := fun i a ha hm =>
  (hk i a ha hm).imp id fun hh b hb => ⟨fun hw => (hh b hb).1 (h2 b hw), fun hw hr => (hh b hb).2 hw (h1 b hr)⟩
theorem low_events {n : Nat} (he : ∀ e ∈ es, EvOk ft e) (hb : ∀ b, ft.rd b → b < n) : ∀ op ∈ MemOp.ofEvents x fn pos es, op.act.low n := fun op hop => by
  obtain ⟨e, hee, rfl⟩ := Go.Conc.mem_ofEvents hop
  exact (evL_of (he e hee) hb).2.2.2
end
structure Crew where
  ch : Nat → Option (Nat × Array Value × Bool)
  c : Nat
  pend : List Nat
  phi : Nat → Value → Prop
def AtSend (P : Program) (c : Nat) (Φ : Value → Prop) : JT := fun g w _ =>
  ∃ g₂ v z, stepG P false g w = .comm g₂ #[scase c v z] true .send w #[] ∧ Φ v ∧ ∃ n, QuitsD P n 0 (Conc.served g₂ undef)
theorem atSend_halts (P : Program) (c : Nat) (Φ : Value → Prop) : Halts P (AtSend P c Φ) := fun g w ft g' w' es h e => by
  obtain ⟨g₂, v, z, h, _⟩ := h
  rw [h] at e
  cases e
structure WayOk (P : Program) (T : Crew) (t : Trace) (i k : Nat) (ft : Foot) (w : World) (g : Goroutine) (wi : World) (fi : Foot) : Prop where
  way : Toward P (AtSend P T.c (T.phi k)) g wi fi
  rely : RelyW fi wi w
  lt : ∀ b, fi.rd b → b < w.heap.size
  sub : ∀ b, fi.wr b → fi.rd b
  ch : ∀ b x, T.ch b = some x → ¬ fi.rd b
  d1 : ∀ b, fi.wr b → ¬ ft.rd b
  d2 : ∀ b, ft.wr b → ¬ fi.rd b
  know : KnowsOk t i fi
def ParkOk (P : Program) (T : Crew) (k : Nat) (g : Goroutine) : Prop := ∃ g₂ v z, g = parked g₂ #[scase T.c v z] .send ∧ T.phi k v ∧ ∃ n, QuitsD P n 0 (Conc.served g₂ undef)
structure Inv (P : Program) (W0 : World) (T : Crew) (ft : Foot) (gs : Array Goroutine) (w : World) (t : Trace) (st : Nat → WS) (ix : Nat → Nat) : Prop where
  base : Base W0 w
  lt : ∀ b, ft.rd b → b < w.heap.size
  sub : ∀ b, ft.wr b → ft.rd b
  chan : ∀ b x, T.ch b = some x → ∃ s r tm, w.heap[b]? = some (.chan x.1 x.2.1 x.2.2 s r tm)
  cnt : ∀ b x s r tm, T.ch b = some x → w.heap[b]? = some (.chan x.1 x.2.1 x.2.2 s r tm) → s = r + x.2.1.size
  chft : ∀ b x, T.ch b = some x → ¬ ft.rd b
  own : T.pend ≠ [] → T.ch T.c = some (0, #[], false)
  nd : T.pend.Nodup
  ixr : ∀ k ∈ T.pend, 0 < ix k ∧ ix k < gs.size
  inj : ∀ k ∈ T.pend, ∀ l ∈ T.pend, ix k = ix l → k = l
  pnd : ∀ k ∈ T.pend, ∃ g, gs[ix k]? = some g ∧ Deaf t (ix k) = 0 ∧ ((∃ wi fi, st (ix k) = .way wi fi ∧ WayOk P T t (ix k) k ft w g wi fi) ∨ (st (ix k) = .park ∧ ParkOk P T k g))
  old : ∀ i g, 0 < i → gs[i]? = some g → (∀ k ∈ T.pend, ix k ≠ i) → ∃ n, st i = .quit n ∧ QuitsD P n (Deaf t i) g
  disj : ∀ k ∈ T.pend, ∀ l ∈ T.pend, k ≠ l → ∀ wk fk wl fl, st (ix k) = .way wk fk → st (ix l) = .way wl fl → ∀ b, fk.wr b → ¬ fl.rd b
  above : ∀ j, gs.size ≤ j → Deaf t j = 0
  hears : Deaf t 0 = 0
  clean : ∀ said, ¬ Race said t
  known : KnowsOk t 0 ft
  done : ∀ i a, touchAt t i = some a → a.loc.isMemory = true → Knows t 0 i ∨ ∃ k ∈ T.pend, t.g? i = some (ix k)
  seen : ∀ op ∈ t, op.act.low w.heap.size
def MainOk (T : Crew) (g : Goroutine) : Prop := g.status = .running ∨ ∃ g₂ z sh, g = parked g₂ #[rcase T.c z] sh ∧ T.ch T.c = some (0, #[], false)
def JC (P : Program) (W0 : World) (Post : Value → World → Prop) (T : Crew) (g : Goroutine) (w : World) (ft : Foot) : Prop :=
  ∀ (gs : Array Goroutine) (w₁ : World) (sl : Option (Nat × Nat)) (t : Trace) (st : Nat → WS) (ix : Nat → Nat), RelyW ft w w₁ → gs[0]? = some g → Inv P W0 T ft gs w₁ t st ix → Ends P Post (crowd gs w₁ sl) t
section
variable {P : Program} {W0 : World} {Post : Value → World → Prop} {T : Crew} {g : Goroutine} {w w₁ w' : World} {ft : Foot} {gs : Array Goroutine} {t : Trace} {st : Nat → WS} {ix : Nat → Nat} {i : Nat} {sl : Option (Nat × Nat)}
theorem Inv.at (I : Inv P W0 T ft gs w t st ix) (d : Nat) : Inv P W0 T ft gs (w.at d) t st ix where
  base := ⟨I.base.tape, I.base.os, I.base.output, I.base.size⟩
  lt := I.lt
  sub := I.sub
  chan := I.chan
  cnt := I.cnt
  chft := I.chft
  own := I.own
  nd := I.nd
  ixr := I.ixr
  inj := I.inj
  pnd := fun k hk => by
    obtain ⟨g, h1, h2, h3⟩ := I.pnd k hk
    refine ⟨g, h1, h2, h3.imp (fun ⟨wi, fi, e, W⟩ => ⟨wi, fi, e, ?_⟩) id⟩
    exact ⟨W.way, W.rely.trans (relyW_at fi w d), W.lt, W.sub, W.ch, W.d1, W.d2, W.know⟩
  old := I.old
  disj := I.disj
  above := I.above
  hears := I.hears
  clean := I.clean
  known := I.known
  done := I.done
  seen := I.seen
theorem moved_get {f : Goroutine → Goroutine} {g' : Goroutine} {j : Nat} {y : Goroutine} (hne : i ≠ j) (h : ((gs.map f).setIfInBounds i g')[j]? = some y) : ∃ z, gs[j]? = some z ∧ y = f z := by
  rw [Array.getElem?_setIfInBounds_ne hne, Array.getElem?_map] at h
  obtain ⟨z, hz, e⟩ := Option.map_eq_some_iff.1 h
  exact ⟨z, hz, e.symm⟩
theorem moved_put {f : Goroutine → Goroutine} {g' : Goroutine} {j : Nat} {z : Goroutine} (hne : i ≠ j) (h : gs[j]? = some z) (e : f z = z) : ((gs.map f).setIfInBounds i g')[j]? = some z := by
  rw [Array.getElem?_setIfInBounds_ne hne, Array.getElem?_map, h]
  simp [e]
theorem moved_own {f : Goroutine → Goroutine} {g g' : Goroutine} (h : gs[i]? = some g) : ((gs.map f).setIfInBounds i g')[i]? = some g' := by
  have hlt := (Array.getElem?_eq_some_iff.1 h).1
  rw [Array.getElem?_setIfInBounds_self_of_lt (by simpa using hlt)]
theorem main_still {x g' : Goroutine} (hm : MainOk T g) (hc : T.ch T.c = some (0, #[], false) → ∃ s r tm, w'.heap[T.c]? = some (.chan 0 #[] false s r tm)) : woken P x g' w' g = g := by
  rcases hm with h | ⟨g₂, z, sh, rfl, h⟩
  · exact woken_run h
  · obtain ⟨s, r, tm, h⟩ := hc h
    exact woken_recv_open _ _ h
theorem pend_still {x g' y : Goroutine} {k : Nat} (hc : T.ch T.c = some (0, #[], false)) (hch : ∃ s r tm, w'.heap[T.c]? = some (.chan 0 #[] false s r tm)) (h : (∃ wi fi, WayOk P T t i k ft w y wi fi) ∨ ParkOk P T k y) : woken P x g' w' y = y := by
  rcases h with ⟨wi, fi, W⟩ | ⟨g₂, v, z, rfl, _⟩
  · exact woken_run W.way.running
  · obtain ⟨s, r, tm, h⟩ := hch
    exact woken_send_open _ _ h
theorem deaf_evs {fi : Foot} {fn : FuncId} {pos : String} {es : Array Event} {n : Nat} (he : ∀ e ∈ es, EvOk fi e) (hb : ∀ b, fi.rd b → b < n) (j : Nat) : Deaf (t ++ MemOp.ofEvents i fn pos es) j = Deaf t j := by
  by_cases h : i = j
  · subst h
    rw [Deaf_own]
    exact deafBehind_still (fun e hm => ⟨(evL_of (he e hm) hb).2.1, (evL_of (he e hm) hb).2.2.1⟩) _
  · rw [Deaf_other t h _ (fun op hop => mem_g hop)]
theorem g_app {u : Trace} {j : Nat} {y : Nat} (h : t.g? j = some y) : (t ++ u).g? j = some y := by
  unfold Trace.g? at h ⊢
  obtain ⟨z, hz, e⟩ := Option.map_eq_some_iff.1 h
  rw [getElem?_append_old (lt_size_of_getElem? hz), hz]
  simp [e]
theorem done_mute {u : Trace} (hd : ∀ i a, touchAt t i = some a → a.loc.isMemory = true → Knows t 0 i ∨ ∃ k ∈ T.pend, t.g? i = some (ix k)) (hu : ∀ op ∈ u, op.act.touch? = none) :
    ∀ i a, touchAt (t ++ u) i = some a → a.loc.isMemory = true → Knows (t ++ u) 0 i ∨ ∃ k ∈ T.pend, (t ++ u).g? i = some (ix k) := by
  intro i a ha hm
  rcases touch_app ha with ⟨_, h⟩ | ⟨op, hop, _, h⟩
  · exact (hd i a h hm).imp (·.app u) fun ⟨k, hk, e⟩ => ⟨k, hk, g_app e⟩
  · rw [hu op hop] at h; cases h
theorem Inv.quit (I : Inv P W0 T ft gs w t st ix) {x g' : Goroutine} {es : Array Event} {m : Nat} (hpos : 0 < i) (hi : gs[i]? = some x) (hn : ∀ k ∈ T.pend, ix k ≠ i) (hm : ∀ e ∈ es, Event.mute e = true)
    (hq : QuitsD P m (deafBehind (Deaf t i) es) g') : Inv P W0 T ft ((gs.map (woken P x g' w)).setIfInBounds i g') w (t ++ MemOp.ofEvents i x.frame.fn x.frame.place es) (putAt st i (.quit m)) ix := by
  have htn : ∀ op ∈ MemOp.ofEvents i x.frame.fn x.frame.place es, op.act.touch? = none := fun op hop => by
    obtain ⟨e, he, rfl⟩ := Go.Conc.mem_ofEvents hop
    exact touch_mute (hm e he)
  have hdo : ∀ j, i ≠ j → Deaf (t ++ MemOp.ofEvents i x.frame.fn x.frame.place es) j = Deaf t j := fun j hj => Deaf_other t hj _ (fun op hop => mem_g hop)
  have hlt : i < gs.size := (Array.getElem?_eq_some_iff.1 hi).1
  refine { base := I.base, lt := I.lt, sub := I.sub, chan := I.chan, cnt := I.cnt, chft := I.chft, own := I.own, nd := I.nd, ixr := fun k hk => ?_, inj := I.inj, pnd := fun k hk => ?_, old := fun j y hj hy hnj => ?_, disj := fun k hk l hl hkl wk fk wl fl e1 e2 => ?_, above := fun j hj => ?_, hears := ?_, clean := fun said => ?_, known := I.known.mute htn, done := done_mute I.done htn, seen := ?_ }
  · simpa using I.ixr k hk
  · obtain ⟨y, h1, h2, h3⟩ := I.pnd k hk
    have hne : i ≠ ix k := fun e => hn k hk e.symm
    have hown := I.own (List.ne_nil_of_mem hk)
    have hst : woken P x g' w y = y := pend_still (t := t) (i := ix k) (ft := ft) (w := w) hown (I.chan _ _ hown) (h3.imp (fun ⟨a, b, _, c⟩ => ⟨a, b, c⟩) fun h => h.2)
    refine ⟨y, moved_put hne h1 hst, by rw [hdo _ hne]; exact h2, ?_⟩
    rw [putAt_ne _ _ (Ne.symm hne)]
    refine h3.imp (fun ⟨wi, fi, e, W⟩ => ⟨wi, fi, e, W.way, W.rely, W.lt, W.sub, W.ch, W.d1, W.d2, W.know.mute htn⟩) id
  · by_cases hji : i = j
    · subst hji
      rw [moved_own hi] at hy
      cases hy
      exact ⟨m, putAt_self _ _ _, by rw [Deaf_own]; exact hq⟩
    · obtain ⟨z, hz, rfl⟩ := moved_get hji hy
      obtain ⟨n, e, hqz⟩ := I.old j z hj hz hnj
      refine ⟨n, by rw [putAt_ne _ _ (Ne.symm hji)]; exact e, ?_⟩
      rw [woken_quitsD hqz, hdo _ hji]
      exact hqz
  · rw [putAt_ne _ _ (hn k hk)] at e1
    rw [putAt_ne _ _ (hn l hl)] at e2
    exact I.disj k hk l hl hkl wk fk wl fl e1 e2
  · have : i ≠ j := by simp at hj; omega
    rw [hdo _ this]
    exact I.above j (by simpa using hj)
  · rw [hdo _ (by omega)]
    exact I.hears
  · exact noRace_append (I.clean said) (fun op hop => mem_g hop) fun _ _ _ op hop b hb _ => by rw [htn op hop] at hb; cases hb
  · exact seen_app I.seen fun op hop => by
      obtain ⟨e, he, rfl⟩ := Go.Conc.mem_ofEvents hop
      exact low_mute (hm e he) _
theorem Inv.walk (I : Inv P W0 T ft gs w t st ix) {k : Nat} (hk : k ∈ T.pend) {x g' : Goroutine} {es : Array Event} {wi : World} {fi : Foot} (hi : gs[ix k]? = some x) (hst : st (ix k) = .way wi fi) (W : WayOk P T t (ix k) k ft w x wi fi)
    (hgu : GuarW fi w w' es) (hto : Toward P (AtSend P T.c (T.phi k)) g' w' (fi.ext w.heap.size w'.heap.size)) :
    Inv P W0 T ft ((gs.map (woken P x g' w')).setIfInBounds (ix k) g') w' (t ++ MemOp.ofEvents (ix k) x.frame.fn x.frame.place es) (putAt st (ix k) (.way w' (fi.ext w.heap.size w'.heap.size))) ix := by
  have hsz := hgu.size
  have hdf := fun j => deaf_evs (t := t) (i := ix k) (fn := x.frame.fn) (pos := x.frame.place) hgu.evs W.lt j
  have hch : ∀ b y, T.ch b = some y → ∃ s r tm, w'.heap[b]? = some (.chan y.1 y.2.1 y.2.2 s r tm) := fun b y hb => by
    obtain ⟨s, r, tm, e⟩ := I.chan b y hb
    have hlt : b < w.heap.size := (Array.getElem?_eq_some_iff.1 e).1
    exact ⟨s, r, tm, by rw [hgu.heap b hlt fun hw => W.ch b y hb (W.sub b hw)]; exact e⟩
  have hcnt : ∀ b y s r tm, T.ch b = some y → w'.heap[b]? = some (.chan y.1 y.2.1 y.2.2 s r tm) → s = r + y.2.1.size := fun b y s r tm hb hw' => by
    obtain ⟨s', r', tm', e⟩ := I.chan b y hb
    have hlt : b < w.heap.size := (Array.getElem?_eq_some_iff.1 e).1
    rw [hgu.heap b hlt fun hw => W.ch b y hb (W.sub b hw)] at hw'
    exact I.cnt b y s r tm hb hw'
  have hown := I.own (List.ne_nil_of_mem hk)
  have other : ∀ {fy : Foot}, (∀ b, fi.wr b → ¬ fy.rd b) → (∀ b, fy.rd b → b < w.heap.size) → ∀ b, fy.rd b → w'.heap[b]? = w.heap[b]? := fun hd hl b hb => hgu.heap b (hl b hb) fun hw => hd b hw hb
  refine { base := ⟨hgu.tape.trans I.base.tape, hgu.os.trans I.base.os, hgu.output.trans I.base.output, Nat.le_trans I.base.size hsz⟩, lt := fun b hb => Nat.lt_of_lt_of_le (I.lt b hb) hsz, sub := I.sub, chan := hch, cnt := hcnt, chft := I.chft, own := I.own, nd := I.nd, ixr := fun l hl => ?_, inj := I.inj, pnd := fun l hl => ?_, old := fun j y hj hy hnj => ?_, disj := fun a ha b hb hab wa fa wb fb e1 e2 => ?_, above := fun j hj => ?_, hears := ?_, clean := fun said => W.know.noRace (I.clean said) hgu.evs, known := I.known.other hgu.evs W.d1 W.d2, done := fun j a ha hm => ?_, seen := ?_ }
  · simpa using I.ixr l hl
  · by_cases hlk : l = k
    · subst hlk
      refine ⟨g', moved_own hi, by rw [hdf]; obtain ⟨_, _, h2, _⟩ := I.pnd l hk; exact h2, .inl ⟨w', _, putAt_self _ _ _, ?_⟩⟩
      refine ⟨hto, RelyW.refl _ _, fun b hb => ?_, fun b hb => ?_, fun b y hb hr => ?_, fun b hb hr => ?_, fun b hb hr => ?_, W.know.own hgu.evs I.seen⟩
      · rcases hb with hb | hb
        · exact Nat.lt_of_lt_of_le (W.lt b hb) hsz
        · exact hb.2
      · rcases hb with hb | hb
        · exact .inl (W.sub b hb)
        · exact .inr hb
      · rcases hr with hr | hr
        · exact W.ch b y hb hr
        · obtain ⟨s, r, tm, e⟩ := I.chan b y hb
          have hlt : b < w.heap.size := (Array.getElem?_eq_some_iff.1 e).1
          omega
      · rcases hb with hb | hb
        · exact W.d1 b hb hr
        · have := I.lt b hr
          omega
      · rcases hr with hr | hr
        · exact W.d2 b hb hr
        · have := I.lt b (I.sub b hb)
          omega
    · obtain ⟨y, h1, h2, h3⟩ := I.pnd l hl
      have hne : ix k ≠ ix l := fun e => hlk (I.inj k hk l hl e).symm
      have hst' : woken P x g' w' y = y := pend_still (t := t) (i := ix l) (ft := ft) (w := w) hown (hch _ _ hown) (h3.imp (fun ⟨a, b, _, c⟩ => ⟨a, b, c⟩) fun h => h.2)
      refine ⟨y, moved_put hne h1 hst', by rw [hdf]; exact h2, ?_⟩
      rw [putAt_ne _ _ (Ne.symm hne)]
      refine h3.imp (fun ⟨wl, fl, e, V⟩ => ⟨wl, fl, e, ?_⟩) id
      have hd := I.disj k hk l hl (fun e => hlk e.symm) wi fi wl fl hst e
      have hd' := I.disj l hl k hk hlk wl fl wi fi e hst
      exact ⟨V.way, V.rely.trans ⟨fun b hb => other hd V.lt b hb, hsz, hgu.tape, hgu.os, hgu.output⟩, fun b hb => Nat.lt_of_lt_of_le (V.lt b hb) hsz, V.sub, V.ch, V.d1, V.d2, V.know.other hgu.evs hd hd'⟩
  · by_cases hji : ix k = j
    · exact absurd hji (hnj k hk)
    · obtain ⟨z, hz, rfl⟩ := moved_get hji hy
      obtain ⟨n, e, hqz⟩ := I.old j z hj hz hnj
      refine ⟨n, by rw [putAt_ne _ _ (Ne.symm hji)]; exact e, ?_⟩
      rw [woken_quitsD hqz, hdf]
      exact hqz
  · have low : ∀ l, l ∈ T.pend → ∀ wl fl, st (ix l) = .way wl fl → ∀ b, fl.rd b → b < w.heap.size := fun l hl wl fl e => by
      obtain ⟨y, _, _, h3⟩ := I.pnd l hl
      rcases h3 with ⟨_, _, e', V⟩ | ⟨e', _⟩
      · rw [e] at e'
        cases e'
        exact V.lt
      · rw [e] at e'
        cases e'
    have sub : ∀ l, l ∈ T.pend → ∀ wl fl, st (ix l) = .way wl fl → ∀ b, fl.wr b → fl.rd b := fun l hl wl fl e => by
      obtain ⟨y, _, _, h3⟩ := I.pnd l hl
      rcases h3 with ⟨_, _, e', V⟩ | ⟨e', _⟩
      · rw [e] at e'
        cases e'
        exact V.sub
      · rw [e] at e'
        cases e'
    by_cases hak : a = k
    · subst hak
      rw [putAt_self] at e1
      cases e1
      have hne : ix b ≠ ix a := fun e => hab (I.inj b hb a ha e).symm
      rw [putAt_ne _ _ hne] at e2
      intro y hy hr
      rcases hy with hy | hy
      · exact I.disj a ha b hb hab wi fi wb fb hst e2 y hy hr
      · have := low b hb wb fb e2 y hr
        omega
    · have hne : ix a ≠ ix k := fun e => hak (I.inj a ha k hk e)
      rw [putAt_ne _ _ hne] at e1
      by_cases hbk : b = k
      · subst hbk
        rw [putAt_self] at e2
        cases e2
        intro y hy hr
        rcases hr with hr | hr
        · exact I.disj a ha b hb hab wa fa wi fi e1 hst y hy hr
        · have := low a ha wa fa e1 y (sub a ha wa fa e1 y hy)
          omega
      · have hne' : ix b ≠ ix k := fun e => hbk (I.inj b hb k hk e)
        rw [putAt_ne _ _ hne'] at e2
        exact I.disj a ha b hb hab wa fa wb fb e1 e2
  · rw [hdf]
    exact I.above j (by simpa using hj)
  · rw [hdf]
    exact I.hears
  · rcases touch_app ha with ⟨_, h⟩ | ⟨op, hop, hg, h⟩
    · exact (I.done j a h hm).imp (·.app _) fun ⟨l, hl, e⟩ => ⟨l, hl, g_app e⟩
    · refine .inr ⟨k, hk, ?_⟩
      unfold Trace.g?
      rw [hg]
      simp [mem_g hop]
  · exact seen_app (fun op hop => MemAct.low_mono hsz (I.seen op hop)) fun op hop => MemAct.low_mono hsz (low_events hgu.evs W.lt op hop)
end
def Crew.less (T : Crew) (k : Nat) : Crew := { T with pend := T.pend.erase k }
def meas (gs : Array Goroutine) (st : Nat → WS) : Nat → Goroutine × WS := fun i => if i = 0 then (default, .quit 0) else (gs.getD i default, st i)
section
variable {P : Program} {W0 : World} {Post : Value → World → Prop} {T : Crew} {g g0 : Goroutine} {w w₁ w' : World} {ft : Foot} {gs gs' : Array Goroutine} {t : Trace} {st st' : Nat → WS} {ix : Nat → Nat} {i k : Nat} {sl : Option (Nat × Nat)}
theorem meas_acc (I : Inv P W0 T ft gs w t st ix) : Acc (Less (WLt P) gs.size) (meas gs st) := by
  refine less_acc _ _ _ fun j hj => ?_
  by_cases h0 : j = 0
  · have e : meas gs st j = (default, .quit 0) := if_pos h0
    rw [e]
    exact acc_quit P _ _
  · have e : meas gs st j = (gs.getD j default, st j) := if_neg h0
    rw [e]
    clear e
    have hg : gs[j]? = some gs[j] := Array.getElem?_eq_getElem hj
    have hd : gs.getD j default = gs[j] := by rw [Array.getD_eq_getD_getElem?, hg]; rfl
    rw [hd]
    by_cases hp : ∃ k ∈ T.pend, ix k = j
    · obtain ⟨k, hk, rfl⟩ := hp
      obtain ⟨y, h1, _, h3⟩ := I.pnd k hk
      rw [hg] at h1
      cases h1
      rcases h3 with ⟨wi, fi, e, W⟩ | ⟨e, _⟩
      · rw [e]
        exact acc_way (atSend_halts P _ _) W.way
      · rw [e]
        exact acc_park P _
    · obtain ⟨n, e, _⟩ := I.old j gs[j] (by omega) hg fun k hk e => hp ⟨k, hk, e⟩
      rw [e]
      exact acc_quit P _ _
theorem meas_less (hi : i < gs.size) (h0 : 0 < i) (hs : gs'.size = gs.size) {x y : Goroutine} {a b : WS} (hx : gs[i]? = some x) (hy : gs'[i]? = some y) (ha : st i = a) (hb : st' i = b) (hr : WLt P (y, b) (x, a))
    (ho : ∀ j, 0 < j → j ≠ i → gs'[j]? = gs[j]? ∧ st' j = st j) : Less (WLt P) gs.size (meas gs' st') (meas gs st) := by
  refine ⟨i, hi, ?_, fun j hj => ?_⟩
  · have h0' : ¬ i = 0 := by omega
    unfold meas
    rw [if_neg h0', if_neg h0', Array.getD_eq_getD_getElem?, Array.getD_eq_getD_getElem?, hx, hy, ha, hb]
    exact hr
  · by_cases hj0 : j = 0
    · have e1 : meas gs' st' j = (default, .quit 0) := if_pos hj0
      have e2 : meas gs st j = (default, .quit 0) := if_pos hj0
      rw [e1, e2]
    · obtain ⟨e1, e2⟩ := ho j (by omega) hj
      have x1 : meas gs' st' j = (gs'.getD j default, st' j) := if_neg hj0
      have x2 : meas gs st j = (gs.getD j default, st j) := if_neg hj0
      rw [x1, x2, Array.getD_eq_getD_getElem?, Array.getD_eq_getD_getElem?, e1, e2]
theorem Inv.still (I : Inv P W0 T ft gs w t st ix) {x g' : Goroutine} (hc : ∀ b y, T.ch b = some y → ∃ s r tm, w'.heap[b]? = some (.chan y.1 y.2.1 y.2.2 s r tm)) : ∀ (j : Nat) (y : Goroutine), 0 < j → gs[j]? = some y → woken P x g' w' y = y := by
  intro j y hj hy
  by_cases hp : ∃ k ∈ T.pend, ix k = j
  · obtain ⟨k, hk, rfl⟩ := hp
    obtain ⟨z, h1, _, h3⟩ := I.pnd k hk
    rw [hy] at h1
    cases h1
    have hown := I.own (List.ne_nil_of_mem hk)
    exact pend_still (t := t) (i := ix k) (ft := ft) (w := w) hown (hc _ _ hown) (h3.imp (fun ⟨a, b, _, c⟩ => ⟨a, b, c⟩) fun h => h.2)
  · obtain ⟨n, _, hq⟩ := I.old j y hj hy fun k hk e => hp ⟨k, hk, e⟩
    exact woken_quitsD hq
theorem moved_same (I : Inv P W0 T ft gs w t st ix) {x g' : Goroutine} (hc : ∀ b y, T.ch b = some y → ∃ s r tm, w'.heap[b]? = some (.chan y.1 y.2.1 y.2.2 s r tm)) {j : Nat} (h0 : 0 < j) (hj : j ≠ i) : ((gs.map (woken P x g' w')).setIfInBounds i g')[j]? = gs[j]? := by
  rw [Array.getElem?_setIfInBounds_ne (Ne.symm hj), Array.getElem?_map]
  cases e : gs[j]? with
  | none => rfl
  | some y => rw [Option.map_some, I.still hc j y h0 e]
theorem park_put {a : WS} (h : a ≠ .park) : ∀ j, putAt st i a j = .park → st j = .park := fun j e => by
  by_cases hj : j = i
  · subst hj
    rw [putAt_self] at e
    exact absurd e h
  · rwa [putAt_ne _ _ hj] at e
theorem Inv.other (I : Inv P W0 T ft gs w t st ix) (hm : MainOk T g0) (h0 : gs[0]? = some g0) (hpos : 0 < i) {x : Goroutine} (hi : gs[i]? = some x) (hrun : x.status = .running) :
    (∃ gs' w' ops st', runT P (crowd gs w sl) i = (.next (crowd gs' w' sl), ops) ∧ gs'.size = gs.size ∧ gs'[0]? = some g0 ∧ RelyW ft w w' ∧ Inv P W0 T ft gs' w' (t ++ ops) st' ix ∧ Less (WLt P) gs.size (meas gs' st') (meas gs st) ∧ ∀ j, st' j = .park → st j = .park) ∨
    (∃ k wi fi, k ∈ T.pend ∧ ix k = i ∧ st i = .way wi fi ∧ AtSend P T.c (T.phi k) x w fi) := by
  have hi0 : (i == 0) = false := by simp; omega
  have hlt : i < gs.size := (Array.getElem?_eq_some_iff.1 hi).1
  by_cases hp : ∃ k ∈ T.pend, ix k = i
  · obtain ⟨k, hk, rfl⟩ := hp
    obtain ⟨y, h1, _, h3⟩ := I.pnd k hk
    rw [hi] at h1
    cases h1
    rcases h3 with ⟨wi, fi, e, W⟩ | ⟨_, g₂, v, z, rfl, _⟩
    · cases hw : W.way with
      | stop _ hs => exact .inr ⟨k, wi, fi, hk, rfl, e, hs w W.rely⟩
      | step _ h2 h3 =>
        obtain ⟨g', w', es, hgo, hr', hgu⟩ := h2 w W.rely
        have hto := h3 w g' w' es W.rely hgo
        have hI := I.walk hk hi e W hgu hto
        have hch := hI.chan
        have hrel : RelyW ft w w' := ⟨fun b hb => hgu.heap b (I.lt b hb) fun hwr => W.d1 b hwr hb, hgu.size, hgu.tape, hgu.os, hgu.output⟩
        refine .inl ⟨_, w', _, _, runT_crowd_go (P := P) (sl := sl) hi (by rw [hi0]; exact hgo), by simp, ?_, hrel, hI, ?_, park_put (by simp)⟩
        · exact moved_put (by omega) h0 (main_still hm fun h => hch _ _ h)
        · exact meas_less hlt hpos (by simp) hi (moved_own hi) e (putAt_self _ _ _) (.step W.rely hgo) fun j hj hji => ⟨moved_same I hch hj hji, putAt_ne _ _ hji⟩
    · cases hrun
  · have hn : ∀ k ∈ T.pend, ix k ≠ i := fun k hk e => hp ⟨k, hk, e⟩
    obtain ⟨n, e, hq⟩ := I.old i x hpos hi hn
    cases n with
    | zero => rw [hq.1] at hrun; cases hrun
    | succ m =>
      rcases hq with ⟨hf, _⟩ | ⟨_, g', es, hmu, hst, hq'⟩
      · rw [hf] at hrun; cases hrun
      have hI := I.quit hpos hi hn hmu hq'
      refine .inl ⟨_, w, _, _, runT_crowd_go (P := P) (sl := sl) hi (by rw [hi0]; exact hst w), by simp, ?_, RelyW.refl _ _, hI, ?_, park_put (by simp)⟩
      · exact moved_put (by omega) h0 (main_still hm fun h => I.chan _ _ h)
      · exact meas_less hlt hpos (by simp) hi (moved_own hi) e (putAt_self _ _ _) (.less (Nat.lt_succ_self m)) fun j hj hji => ⟨moved_same I I.chan hj hji, putAt_ne _ _ hji⟩
theorem Inv.awake (I : Inv P W0 T ft gs w t st ix) (h0 : gs[0]? = some g0) (hm : MainOk T g0) : ∀ g ∈ gs, awake g := by
  intro y hy
  obtain ⟨j, hj, rfl⟩ := Array.mem_iff_getElem.1 hy
  have hg : gs[j]? = some gs[j] := Array.getElem?_eq_getElem hj
  rcases Nat.eq_zero_or_pos j with rfl | hpos
  · have : gs[0] = g0 := by rw [hg] at h0; exact Option.some.inj h0
    rw [this]
    rcases hm with h | ⟨g₂, z, sh, rfl, _⟩
    · exact awake_of (.inl h)
    · exact awake_of (.inr (.inl rfl))
  · by_cases hp : ∃ k ∈ T.pend, ix k = j
    · obtain ⟨k, hk, rfl⟩ := hp
      obtain ⟨z, h1, _, h3⟩ := I.pnd k hk
      rw [hg] at h1
      cases h1
      rcases h3 with ⟨_, _, _, W⟩ | ⟨_, g₂, v, z, e, _⟩
      · exact awake_of (.inl W.way.running)
      · rw [e]
        exact awake_of (.inr (.inl rfl))
    · obtain ⟨n, _, hq⟩ := I.old j _ hpos hg fun k hk e => hp ⟨k, hk, e⟩
      exact awake_of (hq.status.elim .inl fun x => .inr (.inr x))
theorem Inv.noRecv (I : Inv P W0 T ft gs w t st ix) {j : Nat} {y : Goroutine} (hj : 0 < j) (hy : gs[j]? = some y) (c : Nat) : offersAt y c false = [] := by
  by_cases hp : ∃ k ∈ T.pend, ix k = j
  · obtain ⟨k, hk, rfl⟩ := hp
    obtain ⟨z, h1, _, h3⟩ := I.pnd k hk
    rw [hy] at h1
    cases h1
    rcases h3 with ⟨_, _, _, W⟩ | ⟨_, g₂, v, z, rfl, _⟩
    · exact offersAt_of_not_blocked (by rw [W.way.running]; simp) _ _
    · exact offersAt_parked_send' _ _ _ _ _ _
  · obtain ⟨n, _, hq⟩ := I.old j _ hj hy fun k hk e => hp ⟨k, hk, e⟩
    exact offersAt_of_not_blocked (by rcases hq.status with h | h <;> rw [h] <;> simp) _ _
theorem Inv.parks (I : Inv P W0 T ft gs w t st ix) (hk : k ∈ T.pend) {g₂ : Goroutine} {v z : Value} (hv : T.phi k v) (hq : ∃ n, QuitsD P n 0 (Conc.served g₂ undef)) :
    Inv P W0 T ft (gs.setIfInBounds (ix k) (parked g₂ #[scase T.c v z] .send)) w t (putAt st (ix k) .park) ix := by
  have hlt := I.ixr k hk
  refine { base := I.base, lt := I.lt, sub := I.sub, chan := I.chan, cnt := I.cnt, chft := I.chft, own := I.own, nd := I.nd, ixr := fun l hl => by simpa using I.ixr l hl, inj := I.inj, pnd := fun l hl => ?_, old := fun j y hj hy hnj => ?_, disj := fun a ha b hb hab wa fa wb fb e1 e2 => ?_, above := fun j hj => I.above j (by simpa using hj), hears := I.hears, clean := I.clean, known := I.known, done := I.done, seen := I.seen }
  · by_cases hlk : l = k
    · subst hlk
      obtain ⟨_, _, h2, _⟩ := I.pnd l hl
      exact ⟨_, Array.getElem?_setIfInBounds_self_of_lt hlt.2, h2, .inr ⟨putAt_self _ _ _, g₂, v, z, rfl, hv, hq⟩⟩
    · have hne : ix k ≠ ix l := fun e => hlk (I.inj k hk l hl e).symm
      obtain ⟨y, h1, h2, h3⟩ := I.pnd l hl
      exact ⟨y, by rw [Array.getElem?_setIfInBounds_ne hne]; exact h1, h2, by rw [putAt_ne _ _ (Ne.symm hne)]; exact h3⟩
  · have hne : ix k ≠ j := hnj k hk
    rw [Array.getElem?_setIfInBounds_ne hne] at hy
    rw [putAt_ne _ _ (Ne.symm hne)]
    exact I.old j y hj hy hnj
  · by_cases hak : ix a = ix k
    · rw [hak, putAt_self] at e1; cases e1
    · by_cases hbk : ix b = ix k
      · rw [hbk, putAt_self] at e2; cases e2
      · rw [putAt_ne _ _ hak] at e1
        rw [putAt_ne _ _ hbk] at e2
        exact I.disj a ha b hb hab wa fa wb fb e1 e2
end
section
variable {P : Program} {W0 : World} {Post : Value → World → Prop} {T : Crew} {g g0 : Goroutine} {w w₁ w' : World} {ft : Foot} {gs gs' : Array Goroutine} {t : Trace} {st st' : Nat → WS} {ix : Nat → Nat} {i k : Nat} {sl : Option (Nat × Nat)}
theorem evs_nil (t : Trace) (i : Nat) (fn : FuncId) (pos : String) : t ++ MemOp.ofEvents i fn pos #[] = t := by
  rw [ofEvents_eq]
  simp
theorem JC.main (hrun : g.status = .running) (h : ∀ gs w₁ sl t st ix, RelyW ft w w₁ → gs[0]? = some g → Inv P W0 T ft gs w₁ t st ix → ∃ m' ops, runT P (crowd gs w₁ sl) 0 = (.next m', ops) ∧ Ends P Post m' (t ++ ops)) : JC P W0 Post T g w ft := by
  intro gs w₁ sl t st ix hrel h0 I
  have hacc := meas_acc I
  generalize hM : meas gs st = M at hacc
  generalize hn : gs.size = n at hacc
  induction hacc generalizing gs w₁ sl t st with
  | intro M _ ih =>
    obtain ⟨i, x, d, sl', hi, hx, hst⟩ := crowd_pick (P := P) (w := w₁) (sl := sl) (I.awake h0 (.inl hrun)) ⟨0, g, h0, hrun⟩
    rcases Nat.eq_zero_or_pos i with rfl | hpos
    · obtain rfl : x = g := by rw [h0] at hi; exact (Option.some.inj hi).symm
      obtain ⟨m', ops, hr, he⟩ := h gs (w₁.at d) sl' t st ix (hrel.trans (relyW_at ft w₁ d)) h0 (I.at d)
      exact Ends.next (hst.trans hr) he
    · have hi0 : (i == 0) = false := by simp; omega
      rcases (I.at d).other (sl := sl') (.inl hrun) h0 hpos hi hx with ⟨gs', w', ops, st', hr, hs, h0', hrel', I', hl, _⟩ | ⟨k, wi, fi, hk, rfl, e, g₂, v, z, hgo, hv, hq⟩
      · subst hM hn
        exact Ends.next (hst.trans hr) (ih _ hl gs' w' sl' _ st' ((hrel.trans (relyW_at ft w₁ d)).trans hrel') h0' I' rfl hs)
      · subst hM hn
        have hown := I.own (List.ne_nil_of_mem hk)
        obtain ⟨s, r, tm, hc⟩ := I.chan _ _ hown
        have hr := crowd_waits (P := P) (sl := sl') (gs := gs) (w := w₁.at d) hi (show stepG P (ix k == 0) x (w₁.at d) = _ from by rw [hi0]; exact hgo) fun cc hcc => by
          obtain rfl : cc = scase T.c v z := by simpa using hcc
          refine ways_send_none (w₁ := w₁.at d) hc (Nat.zero_le _) (partners_nil fun j y hy => ?_)
          rcases getElem?_stand _ _ _ _ hy with ⟨_, rfl⟩ | ⟨_, hy⟩
          · rfl
          · rcases Nat.eq_zero_or_pos j with rfl | hj
            · rw [h0] at hy
              cases hy
              exact offersAt_of_not_blocked (by rw [hrun]; simp) _ _
            · exact I.noRecv hj hy _
        refine Ends.next (hst.trans hr) ?_
        rw [evs_nil]
        have hlt := I.ixr k hk
        refine ih _ ?_ (gs.setIfInBounds (ix k) (parked g₂ #[scase T.c v z] .send)) (w₁.at d) sl' t (putAt st (ix k) .park) (hrel.trans (relyW_at ft w₁ d)) (by rw [Array.getElem?_setIfInBounds_ne (by omega)]; exact h0) ((I.at d).parks hk hv hq) rfl (by simp)
        exact meas_less hlt.2 hpos (by simp) hi (Array.getElem?_setIfInBounds_self_of_lt hlt.2) e (putAt_self _ _ _) .park fun j hj hji => ⟨Array.getElem?_setIfInBounds_ne (Ne.symm hji), putAt_ne _ _ hji⟩
theorem Inv.main (I : Inv P W0 T ft gs w t st ix) (h0 : gs[0]? = some g) {g' : Goroutine} {es : Array Event} (hgu : GuarW ft w w' es) :
    Inv P W0 T (ft.ext w.heap.size w'.heap.size) ((gs.map (woken P g g' w')).setIfInBounds 0 g') w' (t ++ MemOp.ofEvents 0 g.frame.fn g.frame.place es) st ix := by
  have hsz := hgu.size
  have hdf := fun j => deaf_evs (t := t) (i := 0) (fn := g.frame.fn) (pos := g.frame.place) hgu.evs I.lt j
  have heap : ∀ b y, T.ch b = some y → w'.heap[b]? = w.heap[b]? := fun b y hb => by
    obtain ⟨s, r, tm, e⟩ := I.chan b y hb
    exact hgu.heap b (Array.getElem?_eq_some_iff.1 e).1 fun hw => I.chft b y hb (I.sub b hw)
  have hch : ∀ b y, T.ch b = some y → ∃ s r tm, w'.heap[b]? = some (.chan y.1 y.2.1 y.2.2 s r tm) := fun b y hb => by
    rw [heap b y hb]
    exact I.chan b y hb
  refine { base := ⟨hgu.tape.trans I.base.tape, hgu.os.trans I.base.os, hgu.output.trans I.base.output, Nat.le_trans I.base.size hsz⟩, lt := fun b hb => ?_, sub := fun b hb => ?_, chan := hch, cnt := fun b y s r tm hb hw => I.cnt b y s r tm hb (by rw [← heap b y hb]; exact hw), chft := fun b y hb hr => ?_, own := I.own, nd := I.nd, ixr := fun l hl => by simpa using I.ixr l hl, inj := I.inj, pnd := fun l hl => ?_, old := fun j y hj hy hnj => ?_, disj := I.disj, above := fun j hj => ?_, hears := by rw [hdf]; exact I.hears, clean := fun said => I.known.noRace (I.clean said) hgu.evs, known := I.known.own hgu.evs I.seen, done := fun j a ha hm => ?_, seen := ?_ }
  · rcases hb with hb | hb
    · exact Nat.lt_of_lt_of_le (I.lt b hb) hsz
    · exact hb.2
  · rcases hb with hb | hb
    · exact .inl (I.sub b hb)
    · exact .inr hb
  · rcases hr with hr | hr
    · exact I.chft b y hb hr
    · obtain ⟨s, r, tm, e⟩ := I.chan b y hb
      have hlt : b < w.heap.size := (Array.getElem?_eq_some_iff.1 e).1
      omega
  · obtain ⟨y, h1, h2, h3⟩ := I.pnd l hl
    have hpos := (I.ixr l hl).1
    refine ⟨y, moved_put (by omega) h1 (I.still hch _ _ hpos h1), by rw [hdf]; exact h2, h3.imp (fun ⟨wl, fl, e, V⟩ => ⟨wl, fl, e, ?_⟩) id⟩
    have heq : ∀ b, fl.rd b → w'.heap[b]? = w.heap[b]? := fun b hb => hgu.heap b (V.lt b hb) fun hw => V.d2 b hw hb
    refine ⟨V.way, V.rely.trans ⟨heq, hsz, hgu.tape, hgu.os, hgu.output⟩, fun b hb => Nat.lt_of_lt_of_le (V.lt b hb) hsz, V.sub, V.ch, fun b hb hr => ?_, fun b hb hr => ?_, V.know.other hgu.evs V.d2 V.d1⟩
    · rcases hr with hr | hr
      · exact V.d1 b hb hr
      · have := V.lt b (V.sub b hb)
        omega
    · rcases hb with hb | hb
      · exact V.d2 b hb hr
      · have := V.lt b hr
        omega
  · obtain ⟨z, hz, rfl⟩ := moved_get (by omega) hy
    obtain ⟨n, e, hqz⟩ := I.old j z hj hz hnj
    refine ⟨n, e, ?_⟩
    rw [woken_quitsD hqz, hdf]
    exact hqz
  · rw [hdf]
    exact I.above j (by simpa using hj)
  · rcases touch_app ha with ⟨_, h⟩ | ⟨op, hop, hg, h⟩
    · exact (I.done j a h hm).imp (·.app _) fun ⟨l, hl, e⟩ => ⟨l, hl, g_app e⟩
    · have := knows_own hg
      rw [mem_g hop] at this
      exact .inl this
  · exact seen_app (fun op hop => MemAct.low_mono hsz (I.seen op hop)) fun op hop => MemAct.low_mono hsz (low_events hgu.evs I.lt op hop)
theorem JC.closed (P : Program) (W0 : World) (Post : Value → World → Prop) (T : Crew) : Closed P true (JC P W0 Post T) where
  rely := fun h hr gs w₂ sl t st ix hrel h0 I => h gs w₂ sl t st ix (hr.trans hrel) h0 I
  step := fun hrun h => JC.main hrun fun gs w₁ sl t st ix hrel h0 I => by
    obtain ⟨g', w', es, hgo, hr', hgu, hJ⟩ := h w₁ hrel
    refine ⟨_, _, runT_crowd_go (P := P) (sl := sl) (i := 0) h0 (show stepG P (0 == 0) _ w₁ = _ from hgo), ?_⟩
    exact hJ _ w' sl _ st ix (RelyW.refl _ _) (moved_own h0) (I.main h0 hgu)
theorem JC.last {f' : Foot} (hp : T.pend = []) (hrd : ∀ b, f'.rd b → ft.rd b ∨ (T.ch b).isSome = true) (hsub : ∀ b, f'.wr b → f'.rd b)
    (h : ∀ w₂, RelyW ft w w₂ → (∀ b, (T.ch b).isSome = true → b < w₂.heap.size) → J1 P W0 Post g w₂ f') : JC P W0 Post T g w ft := by
  intro gs w₁ sl t st ix hrel h0 I
  have hchl : ∀ b, (T.ch b).isSome = true → b < w₁.heap.size := fun b hb => by
    obtain ⟨x, hx⟩ := Option.isSome_iff_exists.1 hb
    obtain ⟨s, r, tm, e⟩ := I.chan b x hx
    exact (Array.getElem?_eq_some_iff.1 e).1
  refine h w₁ hrel hchl gs w₁ sl t (fun i => match st i with | .quit n => n | _ => 0) (fun b hb => (hrd b hb).elim (I.lt b) (hchl b)) hsub (RelyW.refl _ _) I.base h0 ⟨fun j y hj hy => ?_, I.above⟩ ?_
  · obtain ⟨n, e, hq⟩ := I.old j y hj hy (by rw [hp]; simp)
    rw [e]
    exact hq
  · have kn : ∀ i a, touchAt t i = some a → a.loc.isMemory = true → Knows t 0 i := fun i a ha hm => by
      rcases I.done i a ha hm with h | ⟨k, hk, _⟩
      · exact h
      · rw [hp] at hk
        cases hk
    refine ⟨I.clean, fun i a ha hm => .inl (kn i a ha hm), fun i x hx hne hc => ?_, I.hears, I.seen⟩
    obtain ⟨a, ha, hm, _⟩ := hc
    obtain ⟨q, z, h1, h2, h3⟩ := kn i a ha hm
    rcases h3 with rfl | h3
    · unfold Trace.g? at hx
      rw [h1] at hx
      simp at hx
      omega
    · exact ⟨q, by unfold Trace.g?; rw [h1]; simp [h2], h3⟩
end
def Crew.more (T : Crew) (k : Nat) : Crew := { T with pend := T.pend ++ [k] }
def Foot.lend (ft : Foot) : Foot := ⟨ft.rd, fun _ => False⟩
section
variable {P : Program} {W0 : World} {Post : Value → World → Prop} {T : Crew} {g g0 : Goroutine} {w w₁ w' : World} {ft : Foot} {gs gs' : Array Goroutine} {t : Trace} {st st' : Nat → WS} {ix : Nat → Nat} {i k : Nat} {sl : Option (Nat × Nat)}
def hired (c : Nat) (f0 : FuncId) (p0 : String) (f1 : FuncId) (p1 : String) : Trace := #[{ g := 0, fn := f0, pos := p0, act := .go c }, { g := c, fn := f1, pos := p1, act := .start }]
theorem hired_quiet (c : Nat) (f0 : FuncId) (p0 : String) (f1 : FuncId) (p1 : String) (g : Nat) : ∀ op ∈ hired c f0 p0 f1 p1, ∀ d, deafStep g d op = d := by
  intro op hop d
  simp only [hired, List.mem_toArray, List.mem_cons, List.not_mem_nil, or_false] at hop
  rcases hop with rfl | rfl <;> rfl
theorem hired_mute (c : Nat) (f0 : FuncId) (p0 : String) (f1 : FuncId) (p1 : String) : ∀ op ∈ hired c f0 p0 f1 p1, op.act.touch? = none := by
  intro op hop
  simp only [hired, List.mem_toArray, List.mem_cons, List.not_mem_nil, or_false] at hop
  rcases hop with rfl | rfl <;> rfl
theorem hired_low (c : Nat) (f0 : FuncId) (p0 : String) (f1 : FuncId) (p1 : String) (n : Nat) : ∀ op ∈ hired c f0 p0 f1 p1, op.act.low n := by
  intro op hop
  simp only [hired, List.mem_toArray, List.mem_cons, List.not_mem_nil, or_false] at hop
  rcases hop with rfl | rfl <;> trivial
theorem Inv.hire (I : Inv P W0 T ft gs w t st ix) (hlt0 : 0 < gs.size) (hk : k ∉ T.pend) (hown : T.ch T.c = some (0, #[], false)) {g' child : Goroutine} (hto : Toward P (AtSend P T.c (T.phi k)) child w ft.lend) (f0 : FuncId) (p0 : String) (f1 : FuncId) (p1 : String) :
    Inv P W0 (T.more k) ft.lend ((gs.setIfInBounds 0 g').push child) w (t ++ hired gs.size f0 p0 f1 p1) (putAt st gs.size (.way w ft.lend)) (putAt ix k gs.size) := by
  have hd := fun j => Deaf_quiet (t := t) (hired_quiet gs.size f0 p0 f1 p1 j)
  have hmu := hired_mute gs.size f0 p0 f1 p1
  have hix : ∀ l ∈ T.pend, putAt ix k gs.size l = ix l := fun l hl => putAt_ne _ _ fun e => hk (e ▸ hl)
  have hmem : ∀ {l}, l ∈ (T.more k).pend → l ∈ T.pend ∨ l = k := fun hl => by simpa [Crew.more] using hl
  have hget : ∀ l ∈ T.pend, ((gs.setIfInBounds 0 g').push child)[ix l]? = gs[ix l]? := fun l hl => by
    have := I.ixr l hl
    rw [Array.getElem?_push_lt (by simpa using this.2), Array.getElem_setIfInBounds (by simpa using this.2), if_neg (by omega), Array.getElem?_eq_getElem this.2]
  have hst : ∀ l ∈ T.pend, putAt st gs.size (.way w ft.lend) (ix l) = st (ix l) := fun l hl => putAt_ne _ _ (by have := I.ixr l hl; omega)
  have hkn : putAt ix k gs.size k = gs.size := putAt_self _ _ _
  have e0 : (t ++ hired gs.size f0 p0 f1 p1)[t.size]? = some { g := 0, fn := f0, pos := p0, act := .go gs.size } := by simp [hired]
  have e1 : (t ++ hired gs.size f0 p0 f1 p1)[t.size + 1]? = some { g := gs.size, fn := f1, pos := p1, act := .start } := by simp [hired]
  have edge : HappensBefore (t ++ hired gs.size f0 p0 f1 p1) t.size (t.size + 1) :=
    Relation.TransGen.single (.inr ⟨.spawn (act?_of e0) (act?_of e1) (g?_of e1), ⟨0, g?_of e0, by rw [deaf_old (Nat.le_refl _)]; exact I.hears⟩, ⟨gs.size, g?_of e1, by rw [deaf_quiet (hired_quiet gs.size f0 p0 f1 p1 gs.size) 1 (by simp [hired])]; exact I.above _ (Nat.le_refl _)⟩⟩)
  refine { base := I.base, lt := I.lt, sub := fun _ h => h.elim, chan := I.chan, cnt := I.cnt, chft := I.chft, own := fun _ => hown, nd := ?_, ixr := fun l hl => ?_, inj := fun a ha b hb e => ?_, pnd := fun l hl => ?_, old := fun j y hj hy hnj => ?_, disj := fun a ha b hb hab wa fa wb fb x1 x2 => ?_, above := fun j hj => ?_, hears := by rw [hd]; exact I.hears, clean := fun said => noRace_appendMute (I.clean said) hmu, known := (I.known.less (f' := ft.lend) (fun _ h => h) (fun _ h => h.elim)).mute hmu, done := fun j a ha hm => ?_, seen := seen_app I.seen (hired_low _ _ _ _ _ _) }
  · show (T.pend ++ [k]).Nodup
    rw [List.nodup_append]
    exact ⟨I.nd, by simp, fun a ha b hb => by simp at hb; subst hb; exact fun e => hk (e ▸ ha)⟩
  · rcases hmem hl with h | rfl
    · rw [hix l h]
      have := I.ixr l h
      exact ⟨this.1, by simp; omega⟩
    · rw [hkn]
      exact ⟨hlt0, by simp⟩
  · rcases hmem ha with h | rfl <;> rcases hmem hb with h' | rfl
    · rw [hix a h, hix b h'] at e
      exact I.inj a h b h' e
    · rw [hix a h, hkn] at e
      have := I.ixr a h
      omega
    · rw [hix b h', hkn] at e
      have := I.ixr b h'
      omega
    · rfl
  · rcases hmem hl with h | rfl
    · rw [hix l h, hget l h, hst l h, hd]
      obtain ⟨y, h1, h2, h3⟩ := I.pnd l h
      exact ⟨y, h1, h2, h3.imp (fun ⟨wl, fl, e, V⟩ => ⟨wl, fl, e, V.way, V.rely, V.lt, V.sub, V.ch, V.d1, fun _ h => h.elim, V.know.mute hmu⟩) id⟩
    · rw [hkn, hd, putAt_self]
      refine ⟨child, by rw [Array.getElem?_push, if_pos (by simp)], I.above _ (Nat.le_refl _), .inl ⟨w, _, rfl, hto, RelyW.refl _ _, I.lt, fun _ h => h.elim, I.chft, fun _ h => h.elim, fun _ h => h.elim, fun j a ha hm => ?_⟩⟩
      rcases touch_app ha with ⟨_, h⟩ | ⟨op, hop, _, h⟩
      · rcases I.known j a h hm with hh | hh
        · exact .inl ⟨t.size + 1, _, e1, rfl, .inr ((hh.hb_new (Nat.le_refl _) e0 rfl).trans edge)⟩
        · exact .inr fun b hb => ⟨fun h => h.elim, (hh b hb).2⟩
      · rw [hmu op hop] at h; cases h
  · have hjs : j ≠ gs.size := fun e => hnj k (by simp [Crew.more]) (by rw [hkn]; exact e.symm)
    have hlt : j < gs.size := by
      have := (Array.getElem?_eq_some_iff.1 hy).1
      simp at this
      omega
    rw [Array.getElem?_push_lt (by simpa using hlt), Array.getElem_setIfInBounds (by simpa using hlt), if_neg (by omega), ← Array.getElem?_eq_getElem hlt] at hy
    obtain ⟨n, e, hq⟩ := I.old j y hj hy fun l hl e => hnj l (by simp [Crew.more, hl]) (by rw [hix l hl]; exact e)
    exact ⟨n, by rw [putAt_ne _ _ hjs]; exact e, by rw [hd]; exact hq⟩
  · rcases hmem ha with h | rfl <;> rcases hmem hb with h' | rfl
    · rw [hix a h, hst a h] at x1
      rw [hix b h', hst b h'] at x2
      exact I.disj a h b h' hab wa fa wb fb x1 x2
    · rw [hix a h, hst a h] at x1
      rw [hkn, putAt_self] at x2
      cases x2
      obtain ⟨y, _, _, h3⟩ := I.pnd a h
      rcases h3 with ⟨wl, fl, e, V⟩ | ⟨e, _⟩
      · rw [e] at x1
        cases x1
        exact V.d1
      · rw [e] at x1
        cases x1
    · rw [hkn, putAt_self] at x1
      cases x1
      exact fun _ h => h.elim
    · exact absurd rfl hab
  · rw [hd]
    exact I.above j (by simp at hj; omega)
  · rcases done_mute (ix := ix) I.done hmu j a ha hm with h | ⟨l, hl, e⟩
    · exact .inl h
    · exact .inr ⟨l, by simp [Crew.more, hl], by rw [hix l hl]; exact e⟩
theorem JC.spawn (hrun : g.status = .running) (hk : k ∉ T.pend) (hown : T.ch T.c = some (0, #[], false))
    (h : ∀ w₁, RelyW ft w w₁ → ∃ g' child, stepG P true g w₁ = .spawn g' child w₁ #[] ∧ Toward P (AtSend P T.c (T.phi k)) child w₁ ft.lend ∧ JC P W0 Post (T.more k) g' w₁ ft.lend) : JC P W0 Post T g w ft :=
  JC.main hrun fun gs w₁ sl t st ix hrel h0 I => by
    obtain ⟨g', child, hgo, hto, hJ⟩ := h w₁ hrel
    have hlt0 : 0 < gs.size := (Array.getElem?_eq_some_iff.1 h0).1
    refine ⟨_, _, runT_crowd_spawn (P := P) (sl := sl) (i := 0) h0 (show stepG P (0 == 0) _ w₁ = _ from hgo), ?_⟩
    have e : t ++ ((MemOp.ofEvents 0 g.frame.fn g.frame.place #[]).push { g := 0, fn := g.frame.fn, pos := g.frame.place, act := .go gs.size } |>.push { g := gs.size, fn := child.frame.fn, pos := g.frame.place, act := .start }) = t ++ hired gs.size g.frame.fn g.frame.place child.frame.fn g.frame.place := by
      rw [ofEvents_eq]
      simp [hired]
    rw [e]
    refine hJ _ w₁ sl _ _ _ (RelyW.refl _ _) ?_ (I.hire hlt0 hk hown hto _ _ _ _)
    rw [Array.getElem?_push_lt (by simpa using hlt0), Array.getElem_setIfInBounds (by simpa using hlt0)]
    simp
end
section
variable {P : Program} {W0 : World} {Post : Value → World → Prop} {T : Crew} {g g0 : Goroutine} {w w₁ w' : World} {ft : Foot} {gs gs' : Array Goroutine} {t : Trace} {st st' : Nat → WS} {ix : Nat → Nat} {i k : Nat} {sl : Option (Nat × Nat)}
theorem mem_less {l : Nat} (h : l ∈ (T.less k).pend) : l ∈ T.pend := List.mem_of_mem_erase h
theorem ne_less {l : Nat} (hn : T.pend.Nodup) (h : l ∈ (T.less k).pend) : l ≠ k := fun e => by
  subst e
  exact (hn.not_mem_erase) h
theorem less_mem {l : Nat} (h : l ∈ T.pend) (hne : l ≠ k) : l ∈ (T.less k).pend := (List.mem_erase_of_ne hne).2 h
theorem passed_heap (w : World) (c s r : Nat) (tm : Bool) (b : Nat) : (w.setChan c 0 #[] false s r tm).heap[b]? = if b = c ∧ c < w.heap.size then some (.chan 0 #[] false s r tm) else w.heap[b]? := by
  unfold World.setChan
  by_cases h : c = b
  · subst h
    by_cases hl : c < w.heap.size
    · simp [hl]
    · simp [hl]
  · rw [if_neg (fun e => h e.1.symm)]
    simp [Array.getElem?_setIfInBounds_ne h]
theorem Inv.handed (I : Inv P W0 T ft gs w t st ix) (hk : k ∈ T.pend) {s r : Nat} {tm : Bool} (hc : w.heap[T.c]? = some (.chan 0 #[] false s r tm)) (hs : gs'.size = gs.size) {y : Goroutine} {n : Nat} (hy : gs'[ix k]? = some y) (hq : QuitsD P n 0 y)
    (ho : ∀ j, 0 < j → j ≠ ix k → gs'[j]? = gs[j]?) (d : Nat) (fh : FuncId) (ph : String) (fj : FuncId) (pj : String) :
    Inv P W0 (T.less k) ft gs' ((w.at d).setChan T.c 0 #[] false (s + 1) (r + 1) tm) (t ++ met (ix k) 0 fh ph fj pj T.c s 0) (putAt st (ix k) (.quit n)) ix := by
  have hown := I.own (List.ne_nil_of_mem hk)
  have hsr : s = r := by have := I.cnt _ _ s r tm hown hc; simpa using this
  have hclt : T.c < w.heap.size := (Array.getElem?_eq_some_iff.1 hc).1
  have hd := fun j => Deaf_quiet (t := t) (met_quiet (ix k) 0 fh ph fj pj T.c s 0 j)
  have hmu := met_mute (ix k) 0 fh ph fj pj T.c s 0
  have hpas := fun b => passed_heap (w.at d) T.c (s + 1) (r + 1) tm b
  have hpos := (I.ixr k hk).1
  have e0 : (t ++ met (ix k) 0 fh ph fj pj T.c s 0)[t.size]? = some { g := ix k, fn := fh, pos := ph, act := .send T.c s } := by simp [met]
  have e3 : (t ++ met (ix k) 0 fh ph fj pj T.c s 0)[t.size + 3]? = some { g := 0, fn := fj, pos := pj, act := .recvDone T.c s } := by simp [met]
  have hdk : Deaf t (ix k) = 0 := by
    obtain ⟨_, _, h2, _⟩ := I.pnd k hk
    exact h2
  have edge : HappensBefore (t ++ met (ix k) 0 fh ph fj pj T.c s 0) t.size (t.size + 3) :=
    Relation.TransGen.single (.inr ⟨.handOver (act?_of e0) (act?_of e3), ⟨ix k, g?_of e0, by rw [deaf_old (Nat.le_refl _)]; exact hdk⟩, ⟨0, g?_of e3, by rw [deaf_quiet (met_quiet (ix k) 0 fh ph fj pj T.c s 0 0) 3 (by simp [met])]; exact I.hears⟩⟩)
  have heap : ∀ b, b ≠ T.c → ((w.at d).setChan T.c 0 #[] false (s + 1) (r + 1) tm).heap[b]? = w.heap[b]? := fun b hb => by
    rw [hpas, if_neg (fun e => hb e.1)]
    rfl
  have rel : ∀ {f : Foot}, ¬ f.rd T.c → RelyW f w ((w.at d).setChan T.c 0 #[] false (s + 1) (r + 1) tm) := fun hn =>
    ⟨fun b hb => heap b fun e => hn (e ▸ hb), by simp [World.setChan, World.at], rfl, rfl, rfl⟩
  have hsz : ((w.at d).setChan T.c 0 #[] false (s + 1) (r + 1) tm).heap.size = w.heap.size := by simp [World.setChan, World.at]
  have hst : ∀ l ∈ (T.less k).pend, putAt st (ix k) (.quit n) (ix l) = st (ix l) := fun l hl => putAt_ne _ _ fun e => ne_less I.nd hl (I.inj l (mem_less hl) k hk e)
  refine { base := ⟨I.base.tape, I.base.os, I.base.output, by rw [hsz]; exact I.base.size⟩, lt := fun b hb => by rw [hsz]; exact I.lt b hb, sub := I.sub, chan := fun b x hb => ?_, cnt := fun b x s' r' tm' hb hw => ?_, chft := I.chft, own := fun _ => hown, nd := I.nd.erase _, ixr := fun l hl => by rw [hs]; exact I.ixr l (mem_less hl), inj := fun a ha b hb e => I.inj a (mem_less ha) b (mem_less hb) e, pnd := fun l hl => ?_, old := fun j z hj hz hnj => ?_, disj := fun a ha b hb hab wa fa wb fb x1 x2 => ?_, above := fun j hj => by rw [hd]; exact I.above j (by omega), hears := by rw [hd]; exact I.hears, clean := fun said => noRace_appendMute (I.clean said) hmu, known := I.known.mute hmu, done := fun j a ha hm => ?_, seen := ?_ }
  · by_cases hbc : b = T.c
    · subst hbc
      rw [show (T.less k).ch T.c = T.ch T.c from rfl, hown] at hb
      cases hb
      exact ⟨_, _, _, by rw [hpas, if_pos ⟨rfl, hclt⟩]⟩
    · rw [heap b hbc]
      exact I.chan b x hb
  · by_cases hbc : b = T.c
    · subst hbc
      rw [show (T.less k).ch T.c = T.ch T.c from rfl, hown] at hb
      cases hb
      rw [hpas, if_pos ⟨rfl, hclt⟩] at hw
      simp only [Option.some.injEq, Obj.chan.injEq] at hw
      obtain ⟨_, _, _, rfl, rfl, _⟩ := hw
      simp [hsr]
    · rw [heap b hbc] at hw
      exact I.cnt b x s' r' tm' hb hw
  · obtain ⟨z, h1, h2, h3⟩ := I.pnd l (mem_less hl)
    have hne : ix l ≠ ix k := fun e => ne_less I.nd hl (I.inj l (mem_less hl) k hk e)
    refine ⟨z, by rw [ho _ (I.ixr l (mem_less hl)).1 hne]; exact h1, by rw [hd]; exact h2, ?_⟩
    rw [hst l hl]
    refine h3.imp (fun ⟨wl, fl, e, V⟩ => ⟨wl, fl, e, V.way, V.rely.trans (rel (V.ch _ _ hown)), fun b hb => by rw [hsz]; exact V.lt b hb, V.sub, V.ch, V.d1, V.d2, V.know.mute hmu⟩) id
  · by_cases hjk : j = ix k
    · subst hjk
      rw [hy] at hz
      cases hz
      exact ⟨n, putAt_self _ _ _, by rw [hd, hdk]; exact hq⟩
    · rw [ho j hj hjk] at hz
      rw [putAt_ne _ _ hjk, hd]
      exact I.old j z hj hz fun l hl e => by
        by_cases hlk : l = k
        · subst hlk
          exact hjk e.symm
        · exact hnj l (less_mem hl hlk) e
  · rw [hst a ha] at x1
    rw [hst b hb] at x2
    exact I.disj a (mem_less ha) b (mem_less hb) hab wa fa wb fb x1 x2
  · rcases touch_app ha with ⟨_, h⟩ | ⟨op, hop, _, h⟩
    · rcases I.done j a h hm with h | ⟨l, hl, e⟩
      · exact .inl (h.app _)
      · by_cases hlk : l = k
        · subst hlk
          obtain ⟨z, hz, hzg⟩ := Option.map_eq_some_iff.1 e
          have hkn : Knows t (ix l) j := by
            have := knows_own hz
            rwa [hzg] at this
          exact .inl ⟨t.size + 3, _, e3, rfl, .inr ((hkn.hb_new (Nat.le_refl _) e0 rfl).trans edge)⟩
        · exact .inr ⟨l, less_mem hl hlk, g_app e⟩
    · rw [hmu op hop] at h; cases h
  · rw [hsz]
    refine seen_app I.seen fun op hop => ?_
    simp only [met, List.mem_toArray, List.mem_cons, List.not_mem_nil, or_false] at hop
    rcases hop with rfl | rfl | rfl | rfl <;> exact hclt
theorem passed_rely {f : Foot} {c s r d : Nat} {tm : Bool} (hn : ¬ f.rd c) : RelyW f w ((w.at d).setChan c 0 #[] false s r tm) :=
  ⟨fun b hb => by
    have hne : b ≠ c := fun e => hn (e ▸ hb)
    rw [passed_heap, if_neg (fun e => hne e.1)]
    rfl, by simp [World.setChan, World.at], rfl, rfl, rfl⟩
theorem evs_front (u : Trace) (i : Nat) (fn : FuncId) (pos : String) : MemOp.ofEvents i fn pos #[] ++ u = u := by
  rw [ofEvents_eq]
  simp
theorem Inv.front (I : Inv P W0 T ft gs w t st ix) (hs : gs'.size = gs.size) (ho : ∀ j, 0 < j → gs'[j]? = gs[j]?) : Inv P W0 T ft gs' w t st ix where
  base := I.base
  lt := I.lt
  sub := I.sub
  chan := I.chan
  cnt := I.cnt
  chft := I.chft
  own := I.own
  nd := I.nd
  ixr := fun k hk => by rw [hs]; exact I.ixr k hk
  inj := I.inj
  pnd := fun k hk => by
    rw [ho _ (I.ixr k hk).1]
    exact I.pnd k hk
  old := fun i g hi hg hn => I.old i g hi (by rw [← ho i hi]; exact hg) hn
  disj := I.disj
  above := fun j hj => I.above j (by omega)
  hears := I.hears
  clean := I.clean
  known := I.known
  done := I.done
  seen := I.seen
theorem finish_recv {g₂ : Goroutine} {cs : Array CommCase} {ok : Bool} {v : Value} : g₂.finishComm P cs (.recv ok) 0 v true = Conc.served g₂ (recvd ok v true) := finishComm_recv P g₂ cs ok 0 v true
theorem park_ends {g₂ : Goroutine} {z : Value} {ok : Bool} (hp : T.pend ≠ []) (hN : ∀ k ∈ T.pend, ∀ v, T.phi k v → JC P W0 Post (T.less k) (Conc.served g₂ (recvd ok v true)) w ft) (h0 : gs[0]? = some (parked g₂ #[rcase T.c z] (.recv ok))) (hrel : RelyW ft w w₁)
    (I : Inv P W0 T ft gs w₁ t st ix) (hnp : ∀ k ∈ T.pend, st (ix k) ≠ .park) : Ends P Post (crowd gs w₁ sl) t := by
  have hown := I.own hp
  have hm : MainOk T (parked g₂ #[rcase T.c z] (.recv ok)) := .inr ⟨g₂, z, _, rfl, hown⟩
  have hacc := meas_acc I
  generalize hM : meas gs st = M at hacc
  generalize hn : gs.size = n at hacc
  induction hacc generalizing gs w₁ sl t st with
  | intro M _ ih =>
    obtain ⟨l, hl⟩ := List.exists_mem_of_ne_nil _ hp
    obtain ⟨y, hy, _, h3⟩ := I.pnd l hl
    have hyr : y.status = .running := by
      rcases h3 with ⟨_, _, _, V⟩ | ⟨e, _⟩
      · exact V.way.running
      · exact absurd e (hnp l hl)
    obtain ⟨i, x, d, sl', hi, hx, hst⟩ := crowd_pick (P := P) (w := w₁) (sl := sl) (I.awake h0 hm) ⟨ix l, y, hy, hyr⟩
    have hpos : 0 < i := by
      rcases Nat.eq_zero_or_pos i with rfl | h
      · rw [h0] at hi
        cases hi
        cases hx
      · exact h
    have hi0 : (i == 0) = false := by simp; omega
    rcases (I.at d).other (sl := sl') hm h0 hpos hi hx with ⟨gs', w', ops, st', hr, hs, h0', hrel', I', hl', hpk⟩ | ⟨k, wi, fi, hk, rfl, e, gk, v, zk, hgo, hv, n, hq⟩
    · subst hM hn
      exact Ends.next (hst.trans hr) (ih _ hl' h0' ((hrel.trans (relyW_at ft w₁ d)).trans hrel') I' (fun k hk e => hnp k hk (hpk _ e)) rfl hs)
    · obtain ⟨s, r, tm, hc⟩ := I.chan _ _ hown
      have hlt := I.ixr k hk
      have hmem : ∀ j b, (j, b) ∈ partners (gs.setIfInBounds (ix k) ph) T.c false → j = 0 ∧ b = 0 := fun j b hjb => by
        obtain ⟨y, hy, hb⟩ := mem_partners.1 hjb
        rcases getElem?_stand _ _ _ _ hy with ⟨_, rfl⟩ | ⟨_, hy⟩
        · cases hb
        · rcases Nat.eq_zero_or_pos j with rfl | hj
          · rw [h0] at hy
            cases hy
            rw [offersAt_parked_recv, if_pos rfl] at hb
            exact ⟨rfl, by simpa using hb⟩
          · rw [I.noRecv hj hy] at hb
            cases hb
      have h0k : (gs.setIfInBounds (ix k) ph)[0]? = some (parked g₂ #[rcase T.c z] (.recv ok)) := by rw [Array.getElem?_setIfInBounds_ne (by omega)]; exact h0
      obtain ⟨j, gj, zj, shj, d2, hij, hgj, hr⟩ := crowd_send_meets_some (P := P) (sl := sl') (gs := gs) (w := w₁.at d) (w₁ := w₁.at d) hi (show stepG P (ix k == 0) x (w₁.at d) = _ from by rw [hi0]; exact hgo) (show (w₁.at d).heap[T.c]? = _ from hc)
        (fun e => by
          have : (0, 0) ∈ partners (gs.setIfInBounds (ix k) ph) T.c false := mem_partners.2 ⟨_, h0k, by rw [offersAt_parked_recv, if_pos rfl]; simp⟩
          rw [e] at this
          cases this)
        (fun j b hjb => by
          obtain ⟨rfl, rfl⟩ := hmem j b hjb
          exact ⟨rfl, by omega, g₂, z, _, h0⟩)
      have hj0 : j = 0 := by
        rcases Nat.eq_zero_or_pos j with h | h
        · exact h
        · have := I.noRecv h hgj T.c
          rw [offersAt_parked_recv, if_pos rfl] at this
          cases this
      subst hj0
      rw [h0] at hgj
      have hpe : parked g₂ #[rcase T.c z] (.recv ok) = parked gj #[rcase T.c zj] shj := Option.some.inj hgj
      have hoff := congrArg Goroutine.offers hpe
      simp only [parked, rcase, Option.some.injEq, Prod.mk.injEq] at hoff
      obtain ⟨ho1, rfl⟩ := hoff
      have hz : z = zj := by simpa using ho1
      subst hz
      have hgeq : gj.finishComm P #[rcase T.c z] (.recv ok) 0 v true = Conc.served g₂ (recvd ok v true) := by
        rw [← finish_recv (P := P) (cs := #[rcase T.c z]), ← finishComm_parked P gj _ #[rcase T.c z] _ (.recv ok), ← hpe, finishComm_parked]
      have hsr : s = r := by have := I.cnt _ _ s r tm hown hc; simpa using this
      subst hsr
      subst hM hn
      rw [hgeq, finishComm_send] at hr
      refine Ends.next (hst.trans hr) ?_
      rw [evs_front]
      exact hN k hk v hv _ _ sl' _ _ ix (hrel.trans ((relyW_at ft w₁ d).trans (passed_rely (I.chft _ _ hown)))) (by rw [Array.getElem?_setIfInBounds_ne (by omega), Array.getElem?_setIfInBounds_self_of_lt (by omega)])
        ((I.at d).handed (n := n) (y := Conc.served gk undef) hk hc (by simp) (Array.getElem?_setIfInBounds_self_of_lt (by simpa using hlt.2)) hq
          (fun j h1 h2 => by rw [Array.getElem?_setIfInBounds_ne (Ne.symm h2), Array.getElem?_setIfInBounds_ne (by omega)]) d2 gk.frame.fn gk.frame.place gj.frame.fn gj.frame.place)
theorem Inv.sends (I : Inv P W0 T ft gs w t st ix) {j b : Nat} {y : Goroutine} (hj : 0 < j) (hy : gs[j]? = some y) (hb : b ∈ offersAt y T.c true) : ∃ k ∈ T.pend, ix k = j ∧ b = 0 ∧ ParkOk P T k y := by
  by_cases hp : ∃ k ∈ T.pend, ix k = j
  · obtain ⟨k, hk, rfl⟩ := hp
    obtain ⟨z, h1, _, h3⟩ := I.pnd k hk
    rw [hy] at h1
    cases h1
    rcases h3 with ⟨_, _, _, W⟩ | ⟨_, hpk⟩
    · rw [offersAt_of_not_blocked (by rw [W.way.running]; simp)] at hb
      cases hb
    · refine ⟨k, hk, rfl, ?_, hpk⟩
      obtain ⟨g₂, v, z, rfl, _⟩ := hpk
      rw [offersAt_parked_send, if_pos rfl] at hb
      simpa using hb
  · obtain ⟨n, _, hq⟩ := I.old j _ hj hy fun k hk e => hp ⟨k, hk, e⟩
    rw [offersAt_of_not_blocked (by rcases hq.status with h | h <;> rw [h] <;> simp)] at hb
    cases hb
theorem JC.recv (hrun : g.status = .running) (hp : T.pend ≠ []) {ok : Bool}
    (h : ∀ w₁, RelyW ft w w₁ → ∃ g₂ z, stepG P true g w₁ = .comm g₂ #[rcase T.c z] true (.recv ok) w₁ #[] ∧ ∀ k ∈ T.pend, ∀ v, T.phi k v → JC P W0 Post (T.less k) (Conc.served g₂ (recvd ok v true)) w₁ ft) : JC P W0 Post T g w ft :=
  JC.main hrun fun gs w₁ sl t st ix hrel h0 I => by
    obtain ⟨g₂, z, hgo, hN⟩ := h w₁ hrel
    have hown := I.own hp
    obtain ⟨s, r, tm, hc⟩ := I.chan _ _ hown
    have hlt0 : 0 < gs.size := (Array.getElem?_eq_some_iff.1 h0).1
    have hsr : s = r := by have := I.cnt _ _ s r tm hown hc; simpa using this
    subst hsr
    by_cases hpk : ∃ k ∈ T.pend, st (ix k) = .park
    · obtain ⟨k0, hk0, e0⟩ := hpk
      obtain ⟨y0, hy0, _, h3⟩ := I.pnd k0 hk0
      have hpar : ParkOk P T k0 y0 := by
        rcases h3 with ⟨_, _, e, _⟩ | ⟨_, hpk⟩
        · rw [e0] at e; cases e
        · exact hpk
      have hpos0 := (I.ixr k0 hk0).1
      obtain ⟨j, gj, vj, zj, shj, d, hij, hgj, hr⟩ := crowd_recv_meets_some (P := P) (sl := sl) (gs := gs) (w := w₁) (w₁ := w₁) (i := 0) h0 (show stepG P (0 == 0) _ w₁ = _ from hgo) hc
        (fun e => by
          obtain ⟨gp, vp, zp, rfl, _⟩ := hpar
          have : (ix k0, 0) ∈ partners (gs.setIfInBounds 0 ph) T.c true := mem_partners.2 ⟨_, by rw [Array.getElem?_setIfInBounds_ne (by omega)]; exact hy0, by rw [offersAt_parked_send, if_pos rfl]; simp⟩
          rw [e] at this
          cases this)
        (fun j b hjb => by
          obtain ⟨y, hy, hb⟩ := mem_partners.1 hjb
          rcases getElem?_stand _ _ _ _ hy with ⟨_, rfl⟩ | ⟨hj0, hy⟩
          · cases hb
          · obtain ⟨k, hk, rfl, rfl, gp, vp, zp, rfl, _⟩ := I.sends (by omega) hy hb
            exact ⟨rfl, hj0, gp, vp, zp, _, hy⟩)
      obtain ⟨k, hk, rfl, _, gp, vp, zp, hpe, hv, n, hq⟩ := I.sends (b := 0) (Nat.pos_of_ne_zero hij) hgj (by rw [offersAt_parked_send, if_pos rfl]; simp)
      have hoff := congrArg Goroutine.offers hpe
      simp only [parked, scase, Option.some.injEq, Prod.mk.injEq] at hoff
      obtain ⟨ho1, rfl⟩ := hoff
      have hz : vj = vp ∧ zj = zp := by simpa using ho1
      obtain ⟨rfl, rfl⟩ := hz
      have hgeq : gj.finishComm P #[scase T.c vj zj] .send 0 undef false = Conc.served gp undef := by
        rw [← finishComm_send P gp #[scase T.c vj zj] 0 undef false, ← finishComm_parked P gj _ #[scase T.c vj zj] _ .send, hpe, finishComm_parked]
      refine ⟨_, _, hr, ?_⟩
      rw [hgeq, finish_recv, evs_front]
      have hlt := I.ixr k hk
      exact hN k hk vj hv _ _ sl _ _ ix (passed_rely (I.chft _ _ hown)) (Array.getElem?_setIfInBounds_self_of_lt (by simpa using hlt0))
        (I.handed (n := n) (y := Conc.served gp undef) hk hc (by simp) (by rw [Array.getElem?_setIfInBounds_ne (by omega)]; exact Array.getElem?_setIfInBounds_self_of_lt hlt.2) hq
          (fun j h1 h2 => by rw [Array.getElem?_setIfInBounds_ne (by omega), Array.getElem?_setIfInBounds_ne (Ne.symm h2)]) d gj.frame.fn gj.frame.place g₂.frame.fn g₂.frame.place)
    · have hr := crowd_waits (P := P) (sl := sl) (gs := gs) (w := w₁) (i := 0) h0 (show stepG P (0 == 0) _ w₁ = _ from hgo) fun cc hcc => by
        obtain rfl : cc = rcase T.c z := by simpa using hcc
        refine ways_recv_none hc (partners_nil fun j y hy => ?_)
        rcases getElem?_stand _ _ _ _ hy with ⟨_, rfl⟩ | ⟨hj0, hy⟩
        · rfl
        · cases e : offersAt y T.c true with
          | nil => rfl
          | cons b l =>
            obtain ⟨k, hk, rfl, rfl, gp, vp, zp, rfl, _⟩ := I.sends (b := b) (by omega) hy (by rw [e]; simp)
            exfalso
            obtain ⟨z', h1, _, h3⟩ := I.pnd k hk
            rw [hy] at h1
            cases h1
            rcases h3 with ⟨_, _, _, W⟩ | ⟨e', _⟩
            · have := W.way.running
              cases this
            · exact hpk ⟨k, hk, e'⟩
      refine ⟨_, _, hr, ?_⟩
      rw [evs_nil]
      have h0' : (gs.setIfInBounds 0 (parked g₂ #[rcase T.c z] (.recv ok)))[0]? = some (parked g₂ #[rcase T.c z] (.recv ok)) := Array.getElem?_setIfInBounds_self_of_lt hlt0
      refine park_ends hp hN h0' (RelyW.refl _ _) (I.front (by simp) fun j hj => Array.getElem?_setIfInBounds_ne (by omega)) fun k hk e => hpk ⟨k, hk, e⟩
end
section
variable {P : Program} {W0 : World} {Post : Value → World → Prop} {T : Crew} {g : Goroutine} {w w₁ w' : World} {ft f' : Foot}
theorem J1.crew (hp : T.pend = []) (hch : ∀ b x, T.ch b = some x → ft.rd b ∧ x.2 = (#[], false) ∧ w.heap[b]? = some (.chan x.1 #[] false 0 0 false))
    (hrd : ∀ b, f'.rd b → ft.rd b ∧ T.ch b = none) (hwr : ∀ b, f'.wr b → ft.wr b ∧ f'.rd b) (h : JC P W0 Post T g w f') : J1 P W0 Post g w ft := by
  intro gs w₁ sl t q hbd hsub hrel hbase h0 hL hP
  have heap : ∀ b x, T.ch b = some x → w₁.heap[b]? = some (.chan x.1 x.2.1 x.2.2 0 0 false) := fun b x hb => by
    obtain ⟨h1, h2, h3⟩ := hch b x hb
    rw [hrel.heap b h1, h3, h2]
  have no : ∀ k, k ∉ T.pend := fun k hk => by rw [hp] at hk; cases hk
  refine h gs w₁ sl t (fun i => .quit (q i)) (fun _ => 0) ⟨fun b hb => hrel.heap b (hrd b hb).1, hrel.size, hrel.tape, hrel.os, hrel.output⟩ h0
    { base := hbase, lt := fun b hb => hbd b (hrd b hb).1, sub := fun b hb => (hwr b hb).2, chan := fun b x hb => ⟨0, 0, false, heap b x hb⟩, cnt := fun b x s r tm hb hw => ?_, chft := fun b x hb hr => ?_, own := fun hne => absurd hp hne, nd := by rw [hp]; exact List.nodup_nil, ixr := fun k hk => absurd hk (no k), inj := fun k hk => absurd hk (no k), pnd := fun k hk => absurd hk (no k), old := fun i y hi hy _ => ⟨q i, rfl, hL.old i y hi hy⟩, disj := fun k hk => absurd hk (no k), above := hL.above, hears := hP.hears, clean := hP.clean, known := fun i a ha hm => .inl ((hP.known i a ha hm).resolve_right fun x => x.1), done := fun i a ha hm => .inl ((hP.known i a ha hm).resolve_right fun x => x.1), seen := hP.seen }
  · rw [heap b x hb] at hw
    obtain ⟨_, h2, _⟩ := hch b x hb
    simp only [Option.some.injEq, Obj.chan.injEq] at hw
    obtain ⟨_, _, _, rfl, rfl, _⟩ := hw
    rw [h2]
    rfl
  · have := (hrd b hr).2
    rw [hb] at this
    cases this
def base0 (P : Program) : Frame := { (default : Frame) with fn := P.funcs.size, defers := [], mode := .panicking [goexitEntry] }
theorem base_catches (P : Program) : (base0 P).catches P = false := by
  have e : (base0 P).todo = [] := rfl
  unfold Frame.catches
  rw [e]
  split
  · rename_i h
    cases h
  · rfl
theorem base_quits (hc : (base0 P).catches P = false) : QuitsD P 1 0 (G (base0 P) []) := by
  refine .inr ⟨rfl, { frame := base0 P, callers := [], status := .finished, dying := none }, #[], by simp, fun w => ?_, rfl, rfl⟩
  have e1 : (base0 P).defers = [] := rfl
  have e2 : (base0 P).mode = .panicking [goexitEntry] := rfl
  simp only [G, stepG, e2, unwind, e1, hc]
  simp [goexitEntry]
theorem quiet_run {α : Type} {s : Go.Sem α} {w : World} {Q : α → World → Prop} (h : RunsTo P (fun _ => False) s w Q) : ∃ v w', s.runT P w #[] = (.ok v w', #[]) ∧ Q v w' := by
  obtain ⟨v, w', es, hr, he, hq⟩ := h #[] (by simp)
  have hes : es = #[] := by
    apply Array.eq_empty_of_size_eq_zero
    cases hs : es.size with
    | zero => rfl
    | succ n => exact (he es[0] (Array.getElem_mem (by omega))).elim
  subst hes
  exact ⟨v, w', hr, hq⟩
variable {b : FB} {a : Act} {cs : List Frame} {ops : Array Oper} {fn : Func}
theorem worker_quits (hk : b.kind = .deferred) (hr : b.ro = none) (hd : a.defers = []) (hf : P.funcs[b.fn]? = some fn) (hres : fn.results = #[]) (hc : (base0 P).catches P = false) :
    QuitsD P 4 0 (G (b.at a [.inRegion ops []]) [base0 P]) := by
  obtain ⟨bf, bk, br⟩ := b
  simp only at hk hr hf
  subst hk hr
  refine .ctl (g' := G (FB.at ⟨bf, .deferred, none⟩ a []) [base0 P]) rfl (fun w => by simp [G, stepG, stepG.exec, FB.at]) ?_
  refine .ctl (g' := G { FB.at ⟨bf, .deferred, none⟩ a [] with mode := .returning } [base0 P]) rfl (fun w => by simp [G, stepG, stepG.exec, FB.at]) ?_
  refine .ctl (g' := G (base0 P) []) rfl (fun w => ?_) (base_quits hc)
  have he : (results fn a.tmps).runT P w #[] = (.ok (.tuple #[]) w, #[]) := by
    have hrun : RunsTo P (fun _ => False) (results fn a.tmps) w fun v w' => v = .tuple #[] ∧ w' = w := by
      unfold results
      rw [hres, Array.mapM_eq_mapM_toList]
      exact RunsTo.bind (RunsTo.map (RunsTo.pure (RunsTo.pure ⟨by simp, rfl⟩)))
    obtain ⟨v, w', hr, rfl, rfl⟩ := quiet_run hrun
    exact hr
  simp only [G, stepG, FB.at, unwind, hd, hf, he]
  simp [doReturn, base0, goexitEntry, GStep.after, seen]
theorem born_toward {Stop : JT} {d : Deferred} {g : FuncId} {caps : List Value} (hd : d = { target := .fn (.func g) ⟨caps⟩, args := #[] }) (hcl : callable P g = true)
    (h : Toward P Stop (G (Frame.enter P g ⟨caps⟩ .deferred) [base0 P]) w ft) : Toward P Stop (born P d) w ft := by
  subst hd
  refine (Toward.closed P Stop).step rfl fun w₁ h₁ => ?_
  have hrun : RunsTo P (EvOk ft) (invoke (.fn (.func g) ⟨caps⟩) #[]) w₁ fun nx w' => nx = .enter g ⟨caps⟩ ∧ w' = w₁ := by
    unfold invoke
    simp only
    refine callFunc_run hcl ⟨?_, rfl⟩
    congr 1
    apply Array.ext'
    simp
  obtain ⟨nx, w', es, hr, he, rfl, rfl⟩ := hrun #[] (by simp)
  have hes : ∀ e ∈ seen P P.funcs.size es, EvOk ft e := fun e hm => he e (mem_seen hm)
  refine ⟨G (Frame.enter P g ⟨caps⟩ .deferred) [base0 P], w', seen P P.funcs.size es, ?_, rfl, (Stays.refl ft w').guar hes, ?_⟩
  · simp only [stepG, born, unwind, callDeferred, hr]
    simp [GStep.after, G, base0]
  · rw [Foot.ext_self]
    exact h.rely h₁
end
section
variable {P : Program} {main : Bool} {W0 : World} {Post : Value → World → Prop} {T : Crew} {w w₁ w' : World} {ft : Foot} {ρ : Env} {h : List AObj} {FC : Frm} {N : Nat} {f : RG} {b : FB} {a : Act} {cs : List Frame} {K : List Item} {ops : Array Oper} {i : Nat} {rest : List Nat} {o : Oper}
theorem stepG_go (hk : b.kind ≠ .early) (ho : ops[i]? = some o) (hg : gd ops o f.r = some true) (A : ActRel h.length ρ N f a) {x : Operand} {ats : Array TypeId} (hop : o.op = .go { callee := .value x, args := #[], argTypes := ats })
    {g : FuncId} {cap : List Value} (hx : ev f.r x = .func (.func g) ⟨[]⟩ ⟨cap⟩) (w : World) :
    stepG P main (G (b.at a (.inRegion ops (i :: rest) :: K)) cs) w = .spawn (G (b.at (a.put o.dst undef) (.inRegion ops rest :: K)) cs) (born P { target := .fn (.func g) ⟨cap.map (ren ρ)⟩, args := #[] }) w #[] := by
  have hw := gd_wanted A hg
  have hnd : ∀ c, o.op ≠ .defer c := fun c e => by rw [hop] at e; cases e
  have hk' : (b.kind == CallKind.early) = false := by simpa using hk
  obtain ⟨hok, hv⟩ := (ev_rel A.regs x).val (by rw [hx]; simp [unk])
  rw [hx] at hv
  simp only [ren, renFn, renA, renL_eq, List.map_nil] at hv
  have hr : (execOp a.eval o).runT P w #[] = (.ok (.spawn { target := .fn (.func g) ⟨cap.map (ren ρ)⟩, args := #[] }) w, #[]) := by
    have hrun : RunsTo P (fun _ => False) (execOp a.eval o) w fun nx w' => nx = .spawn { target := .fn (.func g) ⟨cap.map (ren ρ)⟩, args := #[] } ∧ w' = w := by
      unfold execOp
      rw [hop]
      simp only [resolve, hv, Deferred.ofValue]
      refine RunsTo.bind (RunsTo.pure (RunsTo.pure ⟨?_, rfl⟩))
      congr 2
      simp
    obtain ⟨v, w', hr, rfl, rfl⟩ := quiet_run hrun
    exact hr
  have hf := FB.finish_at b a ops i rest K undef
  rw [ho] at hf
  simp only [Option.bind_some] at hf
  rw [stepG_op ho hw hnd, ← hf]
  simp only [stepG.apply, hr, if_true]
  simp [FB.at, hk', GStep.after, G, born, seen]
theorem stepG_recv (hk : b.kind ≠ .early) (ho : ops[i]? = some o) (hg : gd ops o f.r = some true) (A : ActRel h.length ρ N f a) {x : Operand} {t : TypeId} {ok : Bool} (hop : o.op = .recv t x ok)
    {dir : ChanDir} {e : TypeId} (hu : P.underlying t = some (.chan dir e)) {ie : TypeInfo} (hi : P.info? e = some ie) {z : Value} (hz : ie.zero = some z) {c : Nat} (hx : ev f.r x = .chan (some c)) (w : World) :
    stepG P main (G (b.at a (.inRegion ops (i :: rest) :: K)) cs) w = .comm (G (b.at a (.inRegion ops (i :: rest) :: K)) cs) #[rcase (ρ.blk c) z] true (.recv ok) w #[] := by
  have hw := gd_wanted A hg
  have hnd : ∀ c, o.op ≠ .defer c := fun c e => by rw [hop] at e; cases e
  have hk' : (b.kind == CallKind.early) = false := by simpa using hk
  obtain ⟨hok, hv⟩ := (ev_rel A.regs x).val (by rw [hx]; simp [unk])
  rw [hx] at hv
  simp only [ren] at hv
  have hrun : RunsTo P (fun _ => False) (execOp a.eval o) w fun nx w' => nx = .comm #[rcase (ρ.blk c) z] true (.recv ok) ∧ w' = w := by
    unfold execOp
    rw [hop]
    simp only
    refine RunsTo.bind (RunsTo.underlying hu ?_)
    simp only
    refine RunsTo.bind (RunsTo.zeroValue hi hz (RunsTo.pure ⟨?_, rfl⟩))
    rw [hv]
    rfl
  obtain ⟨nx, w', hr, rfl, rfl⟩ := quiet_run hrun
  rw [stepG_op ho hw hnd]
  simp only [stepG.apply, hr, if_true]
  simp [FB.at, hk', GStep.after, G, seen]
theorem stepG_send (hk : b.kind ≠ .early) (ho : ops[i]? = some o) (hg : gd ops o f.r = some true) (A : ActRel h.length ρ N f a) {x y : Operand} (hop : o.op = .send x y) {c : Nat} (hx : ev f.r x = .chan (some c)) {v : Value} (hy : ev f.r y = v) (hv : v ≠ unk) (w : World) :
    stepG P main (G (b.at a (.inRegion ops (i :: rest) :: K)) cs) w = .comm (G (b.at a (.inRegion ops (i :: rest) :: K)) cs) #[scase (ρ.blk c) (ren ρ v) (.tuple #[])] true .send w #[] := by
  have hw := gd_wanted A hg
  have hnd : ∀ c, o.op ≠ .defer c := fun c e => by rw [hop] at e; cases e
  have hk' : (b.kind == CallKind.early) = false := by simpa using hk
  have hxv := ((ev_rel A.regs x).val (by rw [hx]; simp [unk])).2
  have hyv := ((ev_rel A.regs y).val (by rw [hy]; exact hv)).2
  rw [hx] at hxv
  rw [hy] at hyv
  simp only [ren] at hxv
  have hr : (execOp a.eval o).runT P w #[] = (.ok (.comm #[scase (ρ.blk c) (ren ρ v) (.tuple #[])] true .send) w, #[]) := by
    unfold execOp
    rw [hop]
    simp only [hxv, hyv]
    rfl
  rw [stepG_op ho hw hnd]
  simp only [stepG.apply, hr, if_true]
  simp [FB.at, hk', GStep.after, G, seen]
theorem served_at (v : Value) : Conc.served (G (b.at a (.inRegion ops (i :: rest) :: K)) cs) v = G (b.at (a.put ((ops[i]?).bind (·.dst)) v) (.inRegion ops rest :: K)) cs := by
  rw [← FB.finish_at]
  rfl
theorem go_step (hk : b.kind ≠ .early) (ho : ops[i]? = some o) (hg : gd ops o f.r = some true) (A : ActRel h.length ρ N f a) {x : Operand} {ats : Array TypeId} (hop : o.op = .go { callee := .value x, args := #[], argTypes := ats })
    {g : FuncId} {cap : List Value} (hx : ev f.r x = .func (.func g) ⟨[]⟩ ⟨cap⟩) (hcl : callable P g = true) {k : Nat} (hkp : k ∉ T.pend) (hown : T.ch T.c = some (0, #[], false))
    (hto : ∀ w₁, RelyW ft w w₁ → Toward P (AtSend P T.c (T.phi k)) (G (Frame.enter P g ⟨cap.map (ren ρ)⟩ .deferred) [base0 P]) w₁ ft.lend)
    (hJ : ∀ w₁, RelyW ft w w₁ → JC P W0 Post (T.more k) (G (b.at (a.put o.dst undef) (.inRegion ops rest :: K)) cs) w₁ ft.lend) :
    JC P W0 Post T (G (b.at a (.inRegion ops (i :: rest) :: K)) cs) w ft :=
  JC.spawn rfl hkp hown fun w₁ h₁ => ⟨_, _, stepG_go hk ho hg A hop hx w₁, born_toward rfl hcl (hto w₁ h₁), hJ w₁ h₁⟩
theorem recv_step (hk : b.kind ≠ .early) (ho : ops[i]? = some o) (hg : gd ops o f.r = some true) (A : ActRel h.length ρ N f a) {x : Operand} {t : TypeId} {ok : Bool} (hop : o.op = .recv t x ok)
    {dir : ChanDir} {e : TypeId} (hu : P.underlying t = some (.chan dir e)) {ie : TypeInfo} (hi : P.info? e = some ie) {z : Value} (hz : ie.zero = some z) {c : Nat} (hx : ev f.r x = .chan (some c)) (hc : ρ.blk c = T.c) (hp : T.pend ≠ [])
    (hN : ∀ k ∈ T.pend, ∀ v, T.phi k v → ∀ w₁, RelyW ft w w₁ → JC P W0 Post (T.less k) (G (b.at (a.put o.dst (recvd ok v true)) (.inRegion ops rest :: K)) cs) w₁ ft) :
    JC P W0 Post T (G (b.at a (.inRegion ops (i :: rest) :: K)) cs) w ft :=
  JC.recv rfl hp fun w₁ h₁ => ⟨_, z, by rw [← hc]; exact stepG_recv hk ho hg A hop hu hi hz hx w₁, fun k hk v hv => by
    rw [served_at, ho]
    exact hN k hk v hv w₁ h₁⟩
theorem send_stop (hk : b.kind = .deferred) (hr : b.ro = none) (ho : ops[i]? = some o) (hg : gd ops o f.r = some true) (A : ActRel h.length ρ N f a) (hds : f.ds = []) {x y : Operand} (hop : o.op = .send x y) (hdst : o.dst = none) {c : Nat} (hx : ev f.r x = .chan (some c)) (hc : ρ.blk c = T.c) {v : Value} (hy : ev f.r y = v) (hv : v ≠ unk)
    {k : Nat} (hphi : T.phi k (ren ρ v)) {fn : Func} (hf : P.funcs[b.fn]? = some fn) (hres : fn.results = #[]) (hca : (base0 P).catches P = false) :
    Toward P (AtSend P T.c (T.phi k)) (G (b.at a [.inRegion ops [i]]) [base0 P]) w ft :=
  .stop rfl fun w₁ _ => ⟨_, _, _, by rw [← hc]; exact stepG_send (by rw [hk]; simp) ho hg A hop hx hy hv w₁, hphi, 4, by
    rw [served_at, ho]
    simp only [Option.bind_some, hdst]
    exact worker_quits hk hr (by simp [Act.put, A.defers, hds]) hf hres hca⟩
end
def frzO : AObj → AObj
  | .cells c _ sz => .cells c false sz
  | .map es _ => .map es false
  | _ => .dead
def frz (h : List AObj) : List AObj := h.map frzO
def unchO : AObj → AObj
  | .chan _ => .dead
  | o => o
def unch (h : List AObj) : List AObj := h.map unchO
def Chs (ρ : Env) (h : List AObj) (b : Nat) : Prop := ∃ i cap, h[i]? = some (.chan cap) ∧ ρ.blk i = b
open Classical in
/-- All that is ours, but the channels, stays as it is. -/
noncomputable def keepF (ρ : Env) (h : List AObj) (w : World) (ft : Foot) : Frm := ⟨fun b => if ft.rd b ∧ ¬ Chs ρ h b then w.heap[b]? else none, fun _ => False⟩
def lentF (ρ : Env) (h : List AObj) (ft : Foot) : Foot := ⟨fun b => ft.rd b ∧ ¬ Chs ρ h b, fun _ => False⟩
section
variable {ρ ρ' : Env} {h h' g : List AObj} {FC : Frm} {w w' : World} {ft ft' : Foot}
theorem frz_len : (frz h).length = h.length := by simp [frz]
theorem frz_get {i : Nat} {o : AObj} (e : (frz h)[i]? = some o) : ∃ x, h[i]? = some x ∧ frzO x = o := by
  unfold frz at e
  rw [List.getElem?_map] at e
  exact Option.map_eq_some_iff.1 e
theorem frz_wrt (o : AObj) : (frzO o).wrt = false := by cases o <;> rfl
theorem frz_live {o : AObj} (hl : (frzO o).live = true) : o.live = true ∧ ∀ cap, o ≠ .chan cap := by
  cases o <;> first | (cases hl; done) | exact ⟨rfl, fun _ e => by cases e⟩
theorem unch_len : (unch h).length = h.length := by simp [unch]
theorem not_chs (H : HRel ρ h FC w ft) {i : Nat} {o : AObj} (hi : h[i]? = some o) (hl : o.live = true) (hn : ∀ cap, o ≠ .chan cap) : ¬ Chs ρ h (ρ.blk i) := by
  rintro ⟨j, cap, hj, e⟩
  have := H.inj i j _ _ hi hj hl rfl e.symm
  subst this
  rw [hi] at hj
  cases hj
  exact hn cap rfl
theorem frz_orel {n b : Nat} {o : AObj} {x : Option Obj} (ho : ORel n ρ b o x) : ORel n ρ b (frzO o) x := by
  cases o with
  | cells c wr sz =>
    match x, ho with
    | some (.cells c' ty fr), ho =>
      obtain ⟨h1, h2, h3, _⟩ := ho
      exact ⟨fun i v hv => (h1 i v hv).imp (fun e => ⟨e.1, rfl⟩) id, h2, h3, fun e => by cases e⟩
  | map es wr =>
    match x, ho with
    | some (.map es' ty), ho => exact ho
  | _ => trivial
theorem frz_rel (H : HRel ρ h FC w ft) : HRel ρ (frz h) (keepF ρ h w ft) w (lentF ρ h ft) where
  obj := fun i o hi => by
    obtain ⟨x, hx, rfl⟩ := frz_get hi
    rw [frz_len]
    exact frz_orel (H.obj i x hx)
  inj := fun i j o o' hi hj l l' e => by
    obtain ⟨x, hx, rfl⟩ := frz_get hi
    obtain ⟨y, hy, rfl⟩ := frz_get hj
    exact H.inj i j x y hx hy (frz_live l).1 (frz_live l').1 e
  rd := fun i o hi l => by
    obtain ⟨x, hx, rfl⟩ := frz_get hi
    exact ⟨H.rd i x hx (frz_live l).1, not_chs H hx (frz_live l).1 (frz_live l).2⟩
  wr := fun i o hi l => by
    obtain ⟨x, hx, rfl⟩ := frz_get hi
    rw [frz_wrt] at l
    cases l
  lt := fun b hb => H.lt b hb.1
  sub := fun _ hb => hb.elim
  kept := fun b o hb => by
    unfold keepF at hb
    simp only at hb
    split at hb
    · rename_i hc
      refine ⟨hb, hc, fun i oi hi l => ?_⟩
      obtain ⟨x, hx, rfl⟩ := frz_get hi
      rw [frz_wrt] at l
      cases l
    · cases hb
  keptW := fun _ hb => hb.elim
theorem lend_rel (H : HRel ρ h FC w ft) (hn : ∀ o ∈ h, o.wrt = false) (hw : ∀ b, ¬ FC.wr b) : HRel ρ h FC w ft.lend where
  obj := H.obj
  inj := H.inj
  rd := H.rd
  wr := fun i o hi l => by rw [hn o (List.mem_of_getElem? hi)] at l; cases l
  lt := H.lt
  sub := fun _ hb => hb.elim
  kept := H.kept
  keptW := fun b hb => (hw b hb).elim
def thawF (ρ : Env) (h : List AObj) (ft ft' : Foot) : Foot := ⟨fun b => ft'.rd b ∨ Chs ρ h b, fun b => ft.wr b ∨ ft'.wr b⟩
theorem keep_ob (H : HRel ρ h FC w ft) {b : Nat} (hr : ft.rd b) (hc : ¬ Chs ρ h b) : (keepF ρ h w ft).ob b = w.heap[b]? := if_pos ⟨hr, hc⟩
theorem thaw_rel (H : HRel ρ h FC w ft) (H' : HRel ρ' (frz h ++ g) (keepF ρ h w ft) w' ft') (hu : Env.upto h.length ρ ρ') (hg : ∀ o ∈ g, o.live = true → o.wrt = true) (hs : ∀ b, Chs ρ h b → b < w'.heap.size) :
    HRel ρ' (unch h ++ g) FC w' (thawF ρ h ft ft') ∧ (∀ b, (thawF ρ h ft ft').wr b → (thawF ρ h ft ft').rd b) := by
  have stay : ∀ b, ft.rd b → ¬ Chs ρ h b → w'.heap[b]? = w.heap[b]? ∧ ft'.rd b ∧ ∀ (a : Nat) (oa : AObj), (frz h ++ g)[a]? = some oa → oa.wrt = true → ρ'.blk a ≠ b := fun b hr hc => by
    have hlt := H.lt b hr
    have := H'.kept b w.heap[b] (by rw [keep_ob H hr hc, Array.getElem?_eq_getElem hlt])
    exact ⟨by rw [this.1, Array.getElem?_eq_getElem hlt], this.2⟩
  have hblk : ∀ i o, h[i]? = some o → ρ'.blk i = ρ.blk i := fun i o hi => (hu i (List.getElem?_eq_some_iff.1 hi).1).1
  -- what is met in the heap
  have get : ∀ {i : Nat} {o : AObj}, (unch h ++ g)[i]? = some o → (∃ x, h[i]? = some x ∧ unchO x = o) ∨ (h.length ≤ i ∧ g[i - h.length]? = some o ∧ (frz h ++ g)[i]? = some o) := fun {i o} e => by
    rw [List.getElem?_append] at e
    split at e
    · unfold unch at e
      rw [List.getElem?_map] at e
      exact .inl (Option.map_eq_some_iff.1 e)
    · rename_i hge
      rw [unch_len] at hge e
      exact .inr ⟨by omega, e, by rw [List.getElem?_append_right (by rw [frz_len]; omega), frz_len]; exact e⟩
  have live : ∀ {x : AObj}, (unchO x).live = true → x.live = true ∧ (∀ cap, x ≠ .chan cap) ∧ unchO x = x := fun {x} l => by
    cases x <;> first | (cases l; done) | exact ⟨rfl, (fun _ e => by cases e), rfl⟩
  have wlive : ∀ {o : AObj}, o.wrt = true → o.live = true := fun {o} l => by cases o <;> first | (cases l; done) | rfl
  have old : ∀ {i : Nat} {x : AObj}, h[i]? = some x → (unchO x).live = true → ft.rd (ρ.blk i) ∧ ¬ Chs ρ h (ρ.blk i) := fun {i x} hx l => by
    obtain ⟨l1, l2, _⟩ := live l
    exact ⟨H.rd i x hx l1, not_chs H hx l1 l2⟩
  have hsub : ∀ b, (thawF ρ h ft ft').wr b → (thawF ρ h ft ft').rd b := fun b hb => by
    rcases hb with hb | hb
    · by_cases hc : Chs ρ h b
      · exact .inr hc
      · exact .inl (stay b (H.sub b hb) hc).2.1
    · exact .inl (H'.sub b hb)
  refine ⟨⟨fun i o hi => ?_, fun i j o o' hi hj l l' e => ?_, fun i o hi l => ?_, fun i o hi l => ?_, fun b hb => hb.elim (H'.lt b) (hs b), hsub, fun b o hb => ?_, fun b hb => .inl (H.keptW b hb)⟩, hsub⟩
  · rcases get hi with ⟨x, hx, rfl⟩ | ⟨hge, hgi, hfi⟩
    · by_cases l : (unchO x).live = true
      · obtain ⟨o1, o2⟩ := old hx l
        obtain ⟨_, _, e⟩ := live l
        rw [e, hblk i x hx, (stay _ o1 o2).1]
        have := (H.obj i x hx).congr (m := (unch h ++ g).length) hu (by rw [List.length_append, unch_len]; omega) (List.getElem?_eq_some_iff.1 hx).1
        exact this
      · cases hx' : unchO x <;> rw [hx'] at l <;> first | trivial | exact absurd rfl l
    · have := H'.obj i o hfi
      rw [List.length_append, frz_len] at this
      rw [List.length_append, unch_len]
      exact this
  · rcases get hi with ⟨x, hx, rfl⟩ | ⟨hge, hgi, hfi⟩ <;> rcases get hj with ⟨y, hy, rfl⟩ | ⟨hge', hgj, hfj⟩
    · rw [hblk i x hx, hblk j y hy] at e
      exact H.inj i j x y hx hy (live l).1 (live l').1 e
    · exfalso
      obtain ⟨o1, o2⟩ := old hx l
      refine (stay _ o1 o2).2.2 j o' hfj (hg o' (List.mem_of_getElem? hgj) l') ?_
      rw [← e, hblk i x hx]
    · exfalso
      obtain ⟨o1, o2⟩ := old hy l'
      refine (stay _ o1 o2).2.2 i o hfi (hg o (List.mem_of_getElem? hgi) l) ?_
      rw [e, hblk j y hy]
    · exact H'.inj i j o o' hfi hfj l l' e
  · rcases get hi with ⟨x, hx, rfl⟩ | ⟨hge, hgi, hfi⟩
    · obtain ⟨o1, o2⟩ := old hx l
      rw [hblk i x hx]
      exact .inl (stay _ o1 o2).2.1
    · exact .inl (H'.rd i o hfi l)
  · rcases get hi with ⟨x, hx, rfl⟩ | ⟨hge, hgi, hfi⟩
    · obtain ⟨_, _, e⟩ := live (wlive l)
      rw [e] at l
      rw [hblk i x hx]
      exact .inl (H.wr i x hx l)
    · exact .inr (H'.wr i o hfi l)
  · obtain ⟨a1, a2, a3⟩ := H.kept b o hb
    have hc : ¬ Chs ρ h b := fun ⟨i, cap, hi, e⟩ => a3 i _ hi rfl e
    obtain ⟨s1, s2, s3⟩ := stay b a2 hc
    refine ⟨by rw [s1]; exact a1, .inl s2, fun i oi hi l => ?_⟩
    rcases get hi with ⟨x, hx, rfl⟩ | ⟨hge, hgi, hfi⟩
    · obtain ⟨_, _, e⟩ := live (wlive l)
      rw [e] at l
      rw [hblk i x hx]
      exact a3 i x hx l
    · exact s3 i oi hfi l
end
end Go.Proofs.Ytindillghipjjaa
