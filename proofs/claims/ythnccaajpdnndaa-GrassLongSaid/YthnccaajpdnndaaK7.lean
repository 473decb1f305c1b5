/- GrassLong answers true at every input, and its argument reads behind the call as it read before. No conditions. -/
import Derived.Test.YthnccaajpdnndaaK3
import Derived.Test.YthnccaajpdnndaaK2
import Derived.Test.YthnccaajpdnndaaK6
namespace Go.Proofs.Ythnccaajpdnndaa
open Go.Conc Go.Proofs.Try
set_option maxRecDepth 100000
set_option maxHeartbeats 4000000
set_option linter.unusedVariables false
section
variable {main : Bool} {J : JT} {n0 : Nat} {h : List AObj} {K : Value → List AObj → Prop}
theorem at18 : prog.funcs[18]? = some f18 := by kernel_rfl
theorem body18 : f18.body = some (codeOf f18) := by kernel_rfl
def pl18 : Plans := []
def ct18 : Cuts := .bin (.go) (.bin (.go) (.bin (.go) (.bin (.go) (.bin (.go) (.bin (.bin (.go) (.cut (.go))) (.bin (.bin (.go) (.bin (.go) (.cut (.go)))) (.bin (.bin (.go) (.bin (.bin (.go) (.bin (.go) (.cut (.go)))) (.go))) (.go))))))))
theorem pok18 : plansOk prog pl18 (codeOf f18) = true := by kernel_rfl
theorem e18 {a0 : Value} : W prog J 86 h.length 18 (codeOf f18) (RG.mk (regs [a0]) []) h (RetQ prog [.tmp 2] h.length K) =
(Good prog J 22 [a0] h fun v1 h2 =>
 Good prog J 24 [v1] h2 fun v3 h4 =>
 Good prog J 25 [v1, (vint 7)] h4 fun v5 h6 =>
 aAlloc [(vint 0), (vint 0), (vint 0), (vint 0), (vint 0), (vint 0)] h6 fun v7 h8 =>
 aAlloc [(vint 0), (vint 0), (vint 0)] h8 fun v9 h10 =>
 aStore 6 v7 v3 h10 fun h11 =>
 aStore 3 v9 v5 h11 fun h12 =>
 aOff v9 0 fun v13 =>
 aLoad false 1 v13 h12 fun v14 =>
 aBin prog .sub 3 v14 (vint 1) fun v15 =>
 Good prog J 26 [v1, v15] h12 fun v16 h17 =>
 Good prog J 26 [v1, (vint 15)] h17 fun v18 h19 =>
 aLoad true 6 v7 h19 fun v20 =>
 aLoad true 3 v9 h19 fun v21 =>
 Good prog J 45 [v20, v21, v18, v16] h19 fun v22 h23 =>
 aExt v22 0 fun v24 =>
 aExt v22 1 fun v25 =>
 aBin prog .neq 37 v25 (vint 0) fun v26 =>
 cnd v26
(Hold (W prog J 86 h.length 18 (subC [1, 1, 1, 1, 1, 0, 1] (codeOf f18)) (RG.p (RG.p (RG.p (RG.p (RG.p (RG.p (RG.p (RG.p (RG.p (RG.p (RG.p (RG.p (RG.p (RG.p (RG.p (RG.p (RG.p (RG.p (RG.p (RG.p (RG.p (RG.p (RG.p (RG.p (RG.p (RG.p (RG.p (RG.p (RG.p (RG.p (RG.p (RG.p (RG.p (RG.p (RG.p (RG.p (RG.p (RG.p (RG.p (RG.p (RG.p (RG.p (RG.p (RG.p (RG.p (RG.mk (regs [a0]) []) 2 (Value.bool false)) 14 a0) 15 v1) 3 v1) 16 v1) 17 v3) 18 v1) 19 v5) 4 v7) 5 v9) 20 v1) 21 v13) 22 v14) 23 v15) 24 v16) 25 v1) 26 v18) 6 v16) 7 v18) 28 v20) 29 v21) 30 v18) 31 v16) 32 v22) 27 v22) 33 v24) 34 v25) 8 v24) 9 v25) 35 v25) 36 v26) 37 v26) 37 (Value.bool true)) 38 undef) 39 undef) 40 (Value.bool true)) 41 (Value.bool true)) 41 (Value.bool true)) 42 undef) 43 undef) 44 undef) 45 undef) 46 undef) 47 undef) 48 (Value.bool true)) h23 (contX pl18 prog J 86 h.length 18 ct18 [1, 1, 1, 1, 1, 0, 1] (codeOf f18) [] (RetQ prog [.tmp 2] h.length K))))
(aBin prog .lss 3 v24 (vint 0) fun v27 =>
 cnd v27
(Hold (W prog J 86 h.length 18 (subC [1, 1, 1, 1, 1, 0, 1] (codeOf f18)) (RG.p (RG.p (RG.p (RG.p (RG.p (RG.p (RG.p (RG.p (RG.p (RG.p (RG.p (RG.p (RG.p (RG.p (RG.p (RG.p (RG.p (RG.p (RG.p (RG.p (RG.p (RG.p (RG.p (RG.p (RG.p (RG.p (RG.p (RG.p (RG.p (RG.p (RG.p (RG.p (RG.p (RG.p (RG.p (RG.p (RG.p (RG.p (RG.p (RG.p (RG.p (RG.p (RG.p (RG.p (RG.p (RG.mk (regs [a0]) []) 2 (Value.bool false)) 14 a0) 15 v1) 3 v1) 16 v1) 17 v3) 18 v1) 19 v5) 4 v7) 5 v9) 20 v1) 21 v13) 22 v14) 23 v15) 24 v16) 25 v1) 26 v18) 6 v16) 7 v18) 28 v20) 29 v21) 30 v18) 31 v16) 32 v22) 27 v22) 33 v24) 34 v25) 8 v24) 9 v25) 35 v25) 36 v26) 37 v26) 37 (Value.bool false)) 38 v24) 39 v27) 40 v27) 41 v27) 41 (Value.bool true)) 42 undef) 43 undef) 44 undef) 45 undef) 46 undef) 47 undef) 48 (Value.bool true)) h23 (contX pl18 prog J 86 h.length 18 ct18 [1, 1, 1, 1, 1, 0, 1] (codeOf f18) [] (RetQ prog [.tmp 2] h.length K))))
(aOff v9 0 fun v28 =>
 aLoad false 1 v28 h23 fun v29 =>
 aBin prog .sub 3 v29 v16 fun v30 =>
 aBin prog .gtr 3 v24 v30 fun v31 =>
 Hold (W prog J 86 h.length 18 (subC [1, 1, 1, 1, 1, 0, 1] (codeOf f18)) (RG.p (RG.p (RG.p (RG.p (RG.p (RG.p (RG.p (RG.p (RG.p (RG.p (RG.p (RG.p (RG.p (RG.p (RG.p (RG.p (RG.p (RG.p (RG.p (RG.p (RG.p (RG.p (RG.p (RG.p (RG.p (RG.p (RG.p (RG.p (RG.p (RG.p (RG.p (RG.p (RG.p (RG.p (RG.p (RG.p (RG.p (RG.p (RG.p (RG.p (RG.p (RG.p (RG.p (RG.p (RG.p (RG.mk (regs [a0]) []) 2 (Value.bool false)) 14 a0) 15 v1) 3 v1) 16 v1) 17 v3) 18 v1) 19 v5) 4 v7) 5 v9) 20 v1) 21 v13) 22 v14) 23 v15) 24 v16) 25 v1) 26 v18) 6 v16) 7 v18) 28 v20) 29 v21) 30 v18) 31 v16) 32 v22) 27 v22) 33 v24) 34 v25) 8 v24) 9 v25) 35 v25) 36 v26) 37 v26) 37 (Value.bool false)) 38 v24) 39 v27) 40 v27) 41 v27) 41 (Value.bool false)) 42 v24) 43 v28) 44 v29) 45 v16) 46 v30) 47 v31) 48 v31) h23 (contX pl18 prog J 86 h.length 18 ct18 [1, 1, 1, 1, 1, 0, 1] (codeOf f18) [] (RetQ prog [.tmp 2] h.length K)))))) := top_eq pok18 ct18 (by kernel_rfl)
theorem s18_1 {f : RG} : W prog J 86 n0 18 (subC [1, 1, 1, 1, 1, 0, 1] (codeOf f18)) f h (contX pl18 prog J 86 n0 18 ct18 [1, 1, 1, 1, 1, 0, 1] (codeOf f18) [] (RetQ prog [.tmp 2] n0 K)) =
(cnd (f.r 48)
(retL n0 K f.ds [(Value.bool false)] h)
(aLoad true 6 (f.r 4) h fun v1 =>
 aLoad true 3 (f.r 5) h fun v2 =>
 Good prog J 54 [v1, v2, (f.r 7), (f.r 6), (f.r 8)] h fun v3 h4 =>
 aExt v3 0 fun v5 =>
 aExt v3 1 fun v6 =>
 aUn .not v5 fun v7 =>
 cnd v7
(Hold (W prog J 86 n0 18 (subC [1, 1, 1, 1, 1, 1, 0, 1, 1] (codeOf f18)) (RG.p (RG.p (RG.p (RG.p (RG.p (RG.p (RG.p (RG.p (RG.p (RG.p (RG.p (RG.p (RG.p (RG.p (RG.p (RG.p (RG.p (RG.p f 50 v1) 51 v2) 52 (f.r 7)) 53 (f.r 6)) 54 (f.r 8)) 55 v3) 49 v3) 56 v5) 57 v6) 10 v5) 11 v6) 58 v5) 59 v7) 60 v7) 60 (Value.bool true)) 61 undef) 62 undef) 63 (Value.bool true)) h4 (contX pl18 prog J 86 n0 18 ct18 [1, 1, 1, 1, 1, 1, 0, 1, 1] (codeOf f18) [] (RetQ prog [.tmp 2] n0 K))))
(aUn .not v6 fun v8 =>
 Hold (W prog J 86 n0 18 (subC [1, 1, 1, 1, 1, 1, 0, 1, 1] (codeOf f18)) (RG.p (RG.p (RG.p (RG.p (RG.p (RG.p (RG.p (RG.p (RG.p (RG.p (RG.p (RG.p (RG.p (RG.p (RG.p (RG.p (RG.p (RG.p f 50 v1) 51 v2) 52 (f.r 7)) 53 (f.r 6)) 54 (f.r 8)) 55 v3) 49 v3) 56 v5) 57 v6) 10 v5) 11 v6) 58 v5) 59 v7) 60 v7) 60 (Value.bool false)) 61 v6) 62 v8) 63 v8) h4 (contX pl18 prog J 86 n0 18 ct18 [1, 1, 1, 1, 1, 1, 0, 1, 1] (codeOf f18) [] (RetQ prog [.tmp 2] n0 K)))))) := sub_eq pok18 ct18 (by kernel_rfl)
theorem s18_2 {f : RG} : W prog J 86 n0 18 (subC [1, 1, 1, 1, 1, 1, 0, 1, 1] (codeOf f18)) f h (contX pl18 prog J 86 n0 18 ct18 [1, 1, 1, 1, 1, 1, 0, 1, 1] (codeOf f18) [] (RetQ prog [.tmp 2] n0 K)) =
(cnd (f.r 63)
(retL n0 K f.ds [(Value.bool false)] h)
(aBin prog .add 3 (f.r 6) (f.r 8) fun v1 =>
 aOff (f.r 5) 0 fun v2 =>
 aLoad false 1 v2 h fun v3 =>
 aBin prog .lss 3 v1 v3 fun v4 =>
 cnd v4
(aLoad true 6 (f.r 4) h fun v5 =>
 aLoad true 3 (f.r 5) h fun v6 =>
 aBin prog .add 3 (f.r 8) (vint 1) fun v7 =>
 Good prog J 54 [v5, v6, (f.r 7), (f.r 6), v7] h fun v8 h9 =>
 aExt v8 0 fun v10 =>
 aExt v8 1 fun v11 =>
 cnd v10
(Hold (W prog J 86 n0 18 (subC [1, 1, 1, 1, 1, 1, 1, 0, 1, 0, 1, 1] (codeOf f18)) (RG.p (RG.p (RG.p (RG.p (RG.p (RG.p (RG.p (RG.p (RG.p (RG.p (RG.p (RG.p (RG.p (RG.p (RG.p (RG.p (RG.p (RG.p (RG.p (RG.p (RG.p (RG.p (RG.p (RG.p f 64 (f.r 6)) 65 (f.r 8)) 66 v1) 67 v2) 68 v3) 69 v4) 71 v5) 72 v6) 73 (f.r 7)) 74 (f.r 6)) 75 (f.r 8)) 76 v7) 77 v8) 70 v8) 78 v10) 79 v11) 12 v10) 13 v11) 80 v10) 81 v10) 81 (Value.bool true)) 82 undef) 83 undef) 84 (Value.bool true)) h9 (contX pl18 prog J 86 n0 18 ct18 [1, 1, 1, 1, 1, 1, 1, 0, 1, 0, 1, 1] (codeOf f18) [] (RetQ prog [.tmp 2] n0 K))))
(aUn .not v11 fun v12 =>
 Hold (W prog J 86 n0 18 (subC [1, 1, 1, 1, 1, 1, 1, 0, 1, 0, 1, 1] (codeOf f18)) (RG.p (RG.p (RG.p (RG.p (RG.p (RG.p (RG.p (RG.p (RG.p (RG.p (RG.p (RG.p (RG.p (RG.p (RG.p (RG.p (RG.p (RG.p (RG.p (RG.p (RG.p (RG.p (RG.p (RG.p f 64 (f.r 6)) 65 (f.r 8)) 66 v1) 67 v2) 68 v3) 69 v4) 71 v5) 72 v6) 73 (f.r 7)) 74 (f.r 6)) 75 (f.r 8)) 76 v7) 77 v8) 70 v8) 78 v10) 79 v11) 12 v10) 13 v11) 80 v10) 81 v10) 81 (Value.bool false)) 82 v11) 83 v12) 84 v12) h9 (contX pl18 prog J 86 n0 18 ct18 [1, 1, 1, 1, 1, 1, 1, 0, 1, 0, 1, 1] (codeOf f18) [] (RetQ prog [.tmp 2] n0 K)))))
(Good prog J 21 [] h fun v13 h14 =>
 retL n0 K f.ds [v13] h14))) := sub_eq pok18 ct18 (by kernel_rfl)
theorem s18_3 {f : RG} : W prog J 86 n0 18 (subC [1, 1, 1, 1, 1, 1, 1, 0, 1, 0, 1, 1] (codeOf f18)) f h (contX pl18 prog J 86 n0 18 ct18 [1, 1, 1, 1, 1, 1, 1, 0, 1, 0, 1, 1] (codeOf f18) [] (RetQ prog [.tmp 2] n0 K)) =
(cnd (f.r 84)
(retL n0 K f.ds [(Value.bool false)] h)
(Good prog J 21 [] h fun v1 h2 =>
 retL n0 K f.ds [v1] h2)) := sub_eq pok18 ct18 (by kernel_rfl)
end
end Go.Proofs.Ythnccaajpdnndaa
namespace Go.Proofs.Ythnccaajpdnndaa
open Go.Conc Go.Proofs.Try
set_option maxRecDepth 100000
theorem stay0 {p : Pas} {s : SkyR} {n : Int} {fr : Nat} (f : pasOk p) (hn : 0 ≤ n ∧ n ≤ 40) : stayB p s n fr ((0 : Nat) : Int) = true := by
  unfold stayB fedB
  rw [List.all_eq_true]
  intro w hw
  rw [decide_eq_true_iff]
  have e : ((0 : Nat) : Int).toNat = 0 := rfl
  rw [e]
  refine starv_none f hn fun i _ => ?_
  unfold hungAt
  have o := stdR_ok (heads := stayH s.days.toNat ((fr : Nat) : Int).toNat 0 n) (rain := w) f (stayH_ok hn) i
  have z : (stayH s.days.toNat ((fr : Nat) : Int).toNat 0 n).getD i 0 = 0 := by
    rw [stayH_zero, List.getD_eq_getElem?_getD, List.getElem?_replicate]
    split <;> rfl
  rw [z]
  unfold hungR
  have := o.g
  rw [decide_eq_false_iff_not]
  omega
theorem ckd_stay {p : Pas} {s : SkyR} {n : Int} {a fr dy : Nat} (f : pasOk p) (g : skyOk s) (hn : 0 ≤ n ∧ n ≤ 40) (ha : s.days = (a : Int)) : ckdE p (stayH a fr dy n) s = 0 := by
  unfold ckdE fst2 pasE skyE
  rw [if_pos f, if_pos g, if_neg (by decide)]
  unfold hunE
  have h1 : cntE ((stayH a fr dy n).length : Nat) s.days s.days = 0 := by
    rw [stayH_len]
    unfold cntE
    rw [if_neg (by omega), if_neg (by omega)]
  have hq : ∀ k ∈ stayH a fr dy n, 0 ≤ k ∧ k ≤ 40 := stayH_ok hn
  rw [if_neg (by rw [h1]; decide), if_pos hq]
theorem feed_stay {p : Pas} {s : SkyR} {n : Int} {a fr dy : Nat} (f : pasOk p) (g : skyOk s) (hn : 0 ≤ n ∧ n ≤ 40) (ha : s.days = (a : Int)) : decide (feedN p (stayH a fr dy n) s = 1) = stayB p s n fr dy := by
  have h0 := ckd_stay (p := p) (fr := fr) (dy := dy) f g hn ha
  have e : stayB p s n (fr : Nat) (dy : Nat) = fedB p (stayH a fr dy n) s := by
    unfold stayB
    rw [ha]
    rfl
  rw [e]
  unfold feedN
  rw [if_neg (by omega)]
  cases fedB p (stayH a fr dy n) s with
  | true => rfl
  | false =>
    rw [if_neg (by decide)]
    split <;> rfl
section
variable {W0 : World} {Post : Value → World → Prop} {h : List AObj} {K : Value → List AObj → Prop}
set_option maxHeartbeats 1000000 in
theorem walk18 {nv : Value} {ns : List Int} (sn : Sli h nv 1 ns.length (ns.map vint)) (hln : ns.length < 4611686018427387904) (hK : ∀ H', K (.bool true) H') :
    W prog (J2 prog W0 Post) 86 h.length 18 (codeOf f18) (RG.mk (regs [nv]) []) h (RetQ prog [.tmp 2] h.length K) := by
  have hJ := J2.closed prog W0 Post
  rw [e18]
  refine newX hJ sn hln fun H1 a1 => good24 hJ a1 (by omega) fun p H2 fp _ S2 a2 => good25 hJ a2 (by omega) (by decide) fun s H3 gs hs7 S3 a3 => ?_
  obtain ⟨g1, g2, g3⟩ := id gs
  refine qAl fun H4 p4 e4 S4 c4 l4 => qAl fun H5 p5 e5 S5 c5 l5 => ?_
  have l3 := hxLt a3
  refine qStA (c := p.cells) (S5.get c4 (by simp)) rfl rfl rfl fun H6 S6 c6 l6 => qStA (c := s.cells) (S6.get c5 (by simp; omega)) rfl rfl rfl fun H7 S7 c7 l7 => ?_
  have c67 := S7.get c6 (by simp; omega)
  have T37 : SameX [] H3 H7 := ((S4.trans S5).thru S6 (by simp; omega)).thru S7 (by simp; omega)
  have a7 := HX.same a3 T37 (by simp)
  refine offI (ldI (v := vint s.days) c7 rfl rfl (subI (by omega) ?_))
  refine upX hJ a7 (by omega) (by omega) fun fr H8 f0 f1 S8 l8 a8 => upX hJ a8 (by omega) (by omega) fun n H9 n0 n1 S9 l9 a9 => ?_
  have c69 := S9.get (S8.get c67 (by simp; omega)) (by simp; omega)
  have c79 := S9.get (S8.get c7 (by simp; omega)) (by simp; omega)
  obtain ⟨frn, rfl⟩ := Int.eq_ofNat_of_zero_le f0
  obtain ⟨a, ha⟩ := Int.eq_ofNat_of_zero_le (by omega : (0 : Int) ≤ s.days)
  have hn : 0 ≤ n ∧ n ≤ 40 := by omega
  obtain ⟨D, hD⟩ : ∃ D : Nat, a = frn + D := ⟨a - frn, by omega⟩
  have hD1 : 1 ≤ D := by omega
  refine load_part (c := p.cells) c69 (by simp [Pas.cells]) rfl rfl (load_part (c := s.cells) c79 (by simp [SkyR.cells]) rfl rfl ?_)
  refine good45 hJ fp gs hn (D := D) (by omega) hD1 fun H10 S10 => ext0 (ext1 (neqI (cndI (fun h => absurd rfl h) fun _ => ?_)))
  have hle := lngD_le (q := fun d => stayB p s n frn d) D
  have hyes := lngD_yes (q := fun d => stayB p s n frn d) (stay0 fp hn) D
  have hno := lngD_no (q := fun d => stayB p s n frn d) D
  generalize lngD (fun d => stayB p s n frn d) D = m at hle hyes hno
  have c610 := S10.get c69 (by simp)
  have c710 := S10.get c79 (by simp)
  refine lssI (cndI (fun h => absurd h (by omega)) fun _ => offI (ldI (v := vint s.days) c710 rfl rfl (subI (by omega) (gtrI (hold.2 ?_)))))
  rw [s18_1]
  refine cndI (fun h => absurd h (by omega)) fun _ => ?_
  refine load_part (c := p.cells) c610 (by simp [Pas.cells]) rfl rfl (load_part (c := s.cells) c710 (by simp [SkyR.cells]) rfl rfl ?_)
  refine good54 hJ ha (by omega) (fr := frn) (dy := m) (by omega) fun H11 S11 => ?_
  rw [feed_stay fp gs hn ha, hyes, ckd_stay fp gs hn ha]
  refine ext0 (ext1 (notI (cnd_false.2 (notI (hold.2 ?_)))))
  rw [s18_2]
  refine cnd_false.2 (addI (by omega) (offI (ldI (v := vint s.days) (S11.get c710 (by simp)) rfl rfl (lssI (cndI (fun hlt => ?_) fun hge => ?_)))))
  · refine load_part (c := p.cells) (S11.get c610 (by simp)) (by simp [Pas.cells]) rfl rfl (load_part (c := s.cells) (S11.get c710 (by simp)) (by simp [SkyR.cells]) rfl rfl (addI (by omega) ?_))
    have e1 : ((m : Nat) : Int) + 1 = ((m + 1 : Nat) : Int) := by omega
    rw [e1]
    refine good54 hJ ha (by omega) (fr := frn) (dy := m + 1) (by omega) fun H12 S12 => ?_
    rw [feed_stay fp gs hn ha, hno (m + 1) (by omega) (by omega), ckd_stay fp gs hn ha]
    refine ext0 (ext1 (cnd_false.2 (notI (hold.2 ?_))))
    rw [s18_3]
    exact cnd_false.2 (good21 fun H13 _ => retL_same (by simp [unk]) (hK H13))
  · exact good21 fun H13 _ => retL_same (by simp [unk]) (hK H13)
end
end Go.Proofs.Ythnccaajpdnndaa
namespace Go.Proofs.Ythnccaajpdnndaa
open Go.Conc Go.ChangeShapes Go.WideShapes Go.ChangeAt Go.RowKit Go.Proofs.Try
set_option maxRecDepth 100000
theorem lifted18 (os : Os) (started : os.Started) (H : Type) (enc : TypeId × Value → H) :
    ReturnsInLeavingWide {} checked os 18 .any (Rows.grassLongSpec.pre6 enc prog f18 Rows.grassLongRow.domain false) (Rows.grassLongSpec.post enc prog f18 false true false false) := by
  refine returnsInLeavingWide_of_change_sized (C := checked) own started at18
    (ChangeSpec.witness6 (enc := enc) (C := checked) false ⟨#[], #[.slice none 0 0], []⟩ 8 (by kernel_rfl) (by kernel_rfl) (by kernel_rfl) (by kernel_rfl)) ?_
  intro W base args ds gs before hval0 hW _ hsz0 _
  have hsz : (DataW.weightsEach prog (f18.params.toList ++ Rows.grassLongSpec.plain.varTypes prog) (ds ++ gs)).all (· ≤ reachBytes) = true := hsz0
  clear hsz0
  have hval : ∀ (j : Nat) t v, f18.params[j]? = some t → args[j]? = some v → Value.okWide prog W .any base t v := hval0
  have hW' := hW
  obtain ⟨p, q, hA0, hV, rfl, _, _⟩ := hW
  have hA : DataW.TrodAll enc prog W 0 (fun _ => true) true f18.params.toList args.toList ds p := hA0
  have hps : f18.params = #[25] := by kernel_rfl
  rw [hps] at hA hval hsz
  obtain ⟨v0, d0, rfl, rfl, h0⟩ := trodAll_one hA
  obtain ⟨rfl, rfl⟩ := trodVars_none hV
  have u3 : prog.underlying 3 = some (.int .i64) := by kernel_rfl
  have u27 : prog.underlying 25 = some (.slice 3) := by kernel_rfl
  have u4 : prog.underlying 4 = some .bool := by kernel_rfl
  have c3 : prog.cellsOf 3 = 1 := by kernel_rfl
  have b3 : prog.bytesOf 3 = 8 := by kernel_rfl
  have hlt : ∀ x ∈ p, x.block < W.heap.size := fun x hx => by simpa using hW'.lt x (by simpa using hx)
  have hargs : ∀ (W' : World), Below W.heap.size W W' → DataW.TrodAll enc prog W' 0 (fun b => decide (b < W.heap.size)) true [25] [v0] [d0] p := fun W' hn =>
    trodAll_mk1 (Below.trod laidOut (by kernel_rfl) (of_decide_eq_true (by kernel_rfl)) h0 hn hlt)
  obtain ⟨ns, sn, ok2, hbig⟩ := arg_ints u27 u3 c3 (hval 0 25 v0 rfl rfl) h0
  have hln : ns.length < 4611686018427387904 := by
    rcases hbig with rfl | ⟨es, sp, rfl, hle⟩
    · simp
    · have := sized_slice hsz (j := 0) (t := 25) (e := 3) rfl rfl u27
      rw [b3] at this
      simp only [reachBytes] at this
      omega
  obtain ⟨M, last, o, w', t', r1, r2, r3, r4⟩ := law_run2 (g := 18) (fn := f18) at18 body18 (by kernel_rfl) W [v0] (Nat.le_of_ble_eq_true (by kernel_rfl : Nat.ble 1 f18.ntmps = true))
    (by
      intro v hv
      simp only [List.mem_cons, List.not_mem_nil, or_false] at hv
      subst hv
      exact ok2)
    (fun Post => walk18 (K := fun v _ => v = .bool true) sn hln fun _ => rfl)
  refine ⟨M, last, o, w', t', r1, r2, r3, r4.mono fun v hF => ?_⟩
  obtain ⟨rfl, hbelow⟩ := hF
  refine ⟨_, _, _, [], _, [], hW', ?_, hargs _ hbelow, by rfl, hbelow.frame _, fun h => by cases h⟩
  exact trodAll_mk1 (shut_bool u4 true)
theorem grassLong_holds : Rows.GrassLongSaid :=
  OpenClaim.holds_of_wide_leaving 18 f18 rfl rfl rfl rfl rfl rfl rfl ⟨rfl, rfl, rfl, rfl, rfl⟩ rfl rfl rfl rfl rfl (by kernel_rfl) at18 (by kernel_rfl)
    (of_decide_eq_true (by kernel_rfl)) (by unfold Func.isWrapper; first | (rw [if_pos (by decide +kernel)]; kernel_rfl) | (rw [if_neg (by decide +kernel)]; exact ⟨rfl, rfl⟩))
    (fun os started H enc _ => lifted18 os started H enc)
#print axioms grassLong_holds
end Go.Proofs.Ythnccaajpdnndaa
