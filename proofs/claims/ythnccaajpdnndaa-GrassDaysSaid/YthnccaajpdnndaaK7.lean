/- GrassDays answers true at every input, and its arguments read behind the call as they read before. No conditions. -/
import Derived.Test.YthnccaajpdnndaaK2
import Derived.Test.YthnccaajpdnndaaK6
import Derived.Test.YthnccaajpdnndaaK5
import Derived.Test.YthnccaajpdnndaaK3
import Derived.Deep.Slices
import Derived.ChangeMaps5
set_option linter.unusedSimpArgs false
set_option linter.unusedVariables false
namespace Go.Proofs.Ythnccaajpdnndaa
open Go.Conc
abbrev OpIs (P : Program) (J : JT) (ops : Array Oper) (i d N : Nat) (X : RG → List AObj → (Value → List AObj → Prop) → Prop) : Prop :=
 ops[i]? = some (opGet ops i) ∧ (opGet ops i).dst = some d ∧ dstOk N (opGet ops i) = true ∧ (∀ r, gd ops (opGet ops i) r = some true) ∧ ∀ (f : RG) (h : List AObj) (H : Value → List AObj → Prop), opW P (Good P J) (opGet ops i) f.r h H = X f h H
end Go.Proofs.Ythnccaajpdnndaa
namespace Go.Proofs.Ythnccaajpdnndaa
open Go.Conc Go.Proofs.Try
set_option maxRecDepth 100000
set_option maxHeartbeats 4000000
set_option linter.unusedVariables false
section
variable {main : Bool} {J : JT} {n0 : Nat} {h : List AObj} {K : Value → List AObj → Prop}
section
variable {Sx : RG → List AObj → Prop}
theorem at14 : prog.funcs[14]? = some f14 := by kernel_rfl
theorem body14 : f14.body = some (codeOf f14) := by kernel_rfl
def pl14 : Plans := []
def ct14 : Cuts := .bin (.go) (.bin (.bin (.go) (.cut (.go))) (.go))
theorem pok14 : plansOk prog pl14 (trunc 5 (codeOf f14)) = true := by kernel_rfl
theorem e14 {a0 a1 a2 a3 a4 a5 : Value} : W prog J 214 h.length 14 (trunc 5 (codeOf f14)) (RG.mk (regs [a0, a1, a2, a3, a4, a5]) []) h (thenK Sx (RetQ prog [.tmp 12] h.length K)) =
(aBox a0 h fun v1 h2 =>
 aLenS a1 fun v3 =>
 aBin prog .gtr 3 v3 (vint 20) fun v4 =>
 cnd v4
(Hold (W prog J 214 h.length 14 (subC [1, 0, 1] (trunc 5 (codeOf f14))) (RG.p (RG.p (RG.p (RG.p (RG.p (RG.p (RG.p (RG.p (RG.p (RG.p (RG.p (RG.mk (regs [a0, a1, a2, a3, a4, a5]) []) 6 v1) 12 (Value.bool false)) 35 a1) 36 v3) 37 v4) 38 v4) 38 (Value.bool true)) 39 undef) 40 undef) 41 undef) 42 (Value.bool true)) h2 (contX pl14 prog J 214 h.length 14 ct14 [1, 0, 1] (trunc 5 (codeOf f14)) [] (thenK Sx (RetQ prog [.tmp 12] h.length K)))))
(aLenStr a2 fun v5 =>
 aBin prog .gtr 3 v5 (vint 20) fun v6 =>
 Hold (W prog J 214 h.length 14 (subC [1, 0, 1] (trunc 5 (codeOf f14))) (RG.p (RG.p (RG.p (RG.p (RG.p (RG.p (RG.p (RG.p (RG.p (RG.p (RG.p (RG.mk (regs [a0, a1, a2, a3, a4, a5]) []) 6 v1) 12 (Value.bool false)) 35 a1) 36 v3) 37 v4) 38 v4) 38 (Value.bool false)) 39 a2) 40 v5) 41 v6) 42 v6) h2 (contX pl14 prog J 214 h.length 14 ct14 [1, 0, 1] (trunc 5 (codeOf f14)) [] (thenK Sx (RetQ prog [.tmp 12] h.length K)))))) := top_eq pok14 ct14 (by kernel_rfl)
theorem s14_1 {f : RG} : W prog J 214 n0 14 (subC [1, 0, 1] (trunc 5 (codeOf f14))) f h (contX pl14 prog J 214 n0 14 ct14 [1, 0, 1] (trunc 5 (codeOf f14)) [] (thenK Sx (RetQ prog [.tmp 12] n0 K))) =
(cnd (f.r 42)
(Good prog J 21 [] h fun v1 h2 =>
 retL n0 K f.ds [v1] h2)
(Good prog J 22 [(f.r 5)] h fun v3 h4 =>
 Good prog J 23 [v3, (vint 1), (vint 8)] h4 fun v5 h6 =>
 Good prog J 24 [v3] h6 fun v7 h8 =>
 Good prog J 30 [v3, v5, (vint 12)] h8 fun v9 h10 =>
 Good prog J 31 [v3, v5] h10 fun v11 h12 =>
 aAlloc [(vint 0), (vint 0), (vint 0), (vint 0), (vint 0), (vint 0)] h12 fun v13 h14 =>
 aStore 6 v13 v7 h14 fun h15 =>
 Sx (RG.p (RG.p (RG.p (RG.p (RG.p (RG.p (RG.p (RG.p (RG.p (RG.p (RG.p (RG.p (RG.p (RG.p (RG.p (RG.p (RG.p f 44 (f.r 5)) 45 v3) 13 v3) 46 v3) 47 v5) 14 v5) 48 v3) 49 v7) 50 v3) 51 v5) 52 v9) 53 v3) 54 v5) 55 v11) 15 v13) 16 v9) 17 v11) h15)) := sub_eq pok14 ct14 (by kernel_rfl)
end
noncomputable def ops14_1 : Array Oper := opsAt [1, 1, 1, 1, 1, 0] (codeOf f14)
theorem r14_1 : subC [1, 1, 1, 1, 1, 0] (codeOf f14) = .region 6 ops14_1 true := by kernel_rfl
theorem z14_1 : ops14_1.size = 22 := by kernel_rfl
theorem o14_1_0 {J : JT} : OpIs prog J ops14_1 0 56 214 fun f h H => (aLoad true 6 (f.r 6) h fun v1 =>
 H v1 h) := ⟨by kernel_rfl, by kernel_rfl, by kernel_rfl, fun _ => by kernel_rfl, fun _ _ _ => by kernel_rfl⟩
theorem o14_1_1 {J : JT} : OpIs prog J ops14_1 1 57 214 fun f h H => (aLoad true 6 (f.r 15) h fun v1 =>
 H v1 h) := ⟨by kernel_rfl, by kernel_rfl, by kernel_rfl, fun _ => by kernel_rfl, fun _ _ _ => by kernel_rfl⟩
theorem o14_1_2 {J : JT} : OpIs prog J ops14_1 2 58 214 fun f h H => (aLoad true 6 (f.r 15) h fun v1 =>
 H v1 h) := ⟨by kernel_rfl, by kernel_rfl, by kernel_rfl, fun _ => by kernel_rfl, fun _ _ _ => by kernel_rfl⟩
theorem o14_1_3 {J : JT} : OpIs prog J ops14_1 3 59 214 fun f h H => (aLoad true 6 (f.r 15) h fun v1 =>
 H v1 h) := ⟨by kernel_rfl, by kernel_rfl, by kernel_rfl, fun _ => by kernel_rfl, fun _ _ _ => by kernel_rfl⟩
theorem o14_1_4 {J : JT} : OpIs prog J ops14_1 4 60 214 fun f h H => ((((4 * 6 : Nat) ≤ 16777216 ∧ (4 : Nat) ≤ 16777216 ∧ List.length [(vint 0), (vint 0), (vint 0), (vint 0), (vint 0), (vint 0)] = 6) ∧ aFill (zrep [(vint 0), (vint 0), (vint 0), (vint 0), (vint 0), (vint 0)] 4) [(0, 6, (f.r 56)), (6, 6, (f.r 57)), (12, 6, (f.r 58)), (18, 6, (f.r 59))] fun c1 =>
 aNewS 4 c1 h fun v2 h3 =>
 H v2 h3)) := ⟨by kernel_rfl, by kernel_rfl, by kernel_rfl, fun _ => by kernel_rfl, fun _ _ _ => by kernel_rfl⟩
theorem o14_1_5 {J : JT} : OpIs prog J ops14_1 5 61 214 fun f h H => (H (f.r 1) h) := ⟨by kernel_rfl, by kernel_rfl, by kernel_rfl, fun _ => by kernel_rfl, fun _ _ _ => by kernel_rfl⟩
theorem o14_1_6 {J : JT} : OpIs prog J ops14_1 6 62 214 fun f h H => (H (f.r 16) h) := ⟨by kernel_rfl, by kernel_rfl, by kernel_rfl, fun _ => by kernel_rfl, fun _ _ _ => by kernel_rfl⟩
theorem o14_1_7 {J : JT} : OpIs prog J ops14_1 7 63 214 fun f h H => (H (f.r 16) h) := ⟨by kernel_rfl, by kernel_rfl, by kernel_rfl, fun _ => by kernel_rfl, fun _ _ _ => by kernel_rfl⟩
theorem o14_1_8 {J : JT} : OpIs prog J ops14_1 8 64 214 fun f h H => (H (f.r 1) h) := ⟨by kernel_rfl, by kernel_rfl, by kernel_rfl, fun _ => by kernel_rfl, fun _ _ _ => by kernel_rfl⟩
theorem o14_1_9 {J : JT} : OpIs prog J ops14_1 9 65 214 fun f h H => ((((4 * 1 : Nat) ≤ 16777216 ∧ (4 : Nat) ≤ 16777216 ∧ List.length [(Value.slice none 0 0)] = 1) ∧ aFill (zrep [(Value.slice none 0 0)] 4) [(0, 1, (f.r 61)), (1, 1, (f.r 62)), (2, 1, (f.r 63)), (3, 1, (f.r 64))] fun c1 =>
 aNewS 4 c1 h fun v2 h3 =>
 H v2 h3)) := ⟨by kernel_rfl, by kernel_rfl, by kernel_rfl, fun _ => by kernel_rfl, fun _ _ _ => by kernel_rfl⟩
theorem o14_1_10 {J : JT} : OpIs prog J ops14_1 10 66 214 fun f h H => (H (f.r 2) h) := ⟨by kernel_rfl, by kernel_rfl, by kernel_rfl, fun _ => by kernel_rfl, fun _ _ _ => by kernel_rfl⟩
theorem o14_1_11 {J : JT} : OpIs prog J ops14_1 11 67 214 fun f h H => (H (f.r 17) h) := ⟨by kernel_rfl, by kernel_rfl, by kernel_rfl, fun _ => by kernel_rfl, fun _ _ _ => by kernel_rfl⟩
theorem o14_1_12 {J : JT} : OpIs prog J ops14_1 12 68 214 fun f h H => (H (f.r 17) h) := ⟨by kernel_rfl, by kernel_rfl, by kernel_rfl, fun _ => by kernel_rfl, fun _ _ _ => by kernel_rfl⟩
theorem o14_1_13 {J : JT} : OpIs prog J ops14_1 13 69 214 fun f h H => (H (f.r 3) h) := ⟨by kernel_rfl, by kernel_rfl, by kernel_rfl, fun _ => by kernel_rfl, fun _ _ _ => by kernel_rfl⟩
theorem o14_1_14 {J : JT} : OpIs prog J ops14_1 14 70 214 fun f h H => (H (f.r 3) h) := ⟨by kernel_rfl, by kernel_rfl, by kernel_rfl, fun _ => by kernel_rfl, fun _ _ _ => by kernel_rfl⟩
theorem o14_1_15 {J : JT} : OpIs prog J ops14_1 15 71 214 fun f h H => (H (f.r 4) h) := ⟨by kernel_rfl, by kernel_rfl, by kernel_rfl, fun _ => by kernel_rfl, fun _ _ _ => by kernel_rfl⟩
theorem o14_1_16 {J : JT} : OpIs prog J ops14_1 16 72 214 fun f h H => (Good prog J 56 [(f.r 68), (f.r 69), (f.r 70), (f.r 71)] h fun v1 h2 =>
 H v1 h2) := ⟨by kernel_rfl, by kernel_rfl, by kernel_rfl, fun _ => by kernel_rfl, fun _ _ _ => by kernel_rfl⟩
theorem o14_1_17 {J : JT} : OpIs prog J ops14_1 17 73 214 fun f h H => (H (f.r 2) h) := ⟨by kernel_rfl, by kernel_rfl, by kernel_rfl, fun _ => by kernel_rfl, fun _ _ _ => by kernel_rfl⟩
theorem o14_1_18 {J : JT} : OpIs prog J ops14_1 18 74 214 fun f h H => ((((4 * 1 : Nat) ≤ 16777216 ∧ (4 : Nat) ≤ 16777216 ∧ List.length [(Value.string { data := #[] })] = 1) ∧ aFill (zrep [(Value.string { data := #[] })] 4) [(0, 1, (f.r 66)), (1, 1, (f.r 67)), (2, 1, (f.r 72)), (3, 1, (f.r 73))] fun c1 =>
 aNewS 4 c1 h fun v2 h3 =>
 H v2 h3)) := ⟨by kernel_rfl, by kernel_rfl, by kernel_rfl, fun _ => by kernel_rfl, fun _ _ _ => by kernel_rfl⟩
theorem o14_1_19 {J : JT} : OpIs prog J ops14_1 19 18 214 fun f h H => (H (f.r 60) h) := ⟨by kernel_rfl, by kernel_rfl, by kernel_rfl, fun _ => by kernel_rfl, fun _ _ _ => by kernel_rfl⟩
theorem o14_1_20 {J : JT} : OpIs prog J ops14_1 20 19 214 fun f h H => (H (f.r 65) h) := ⟨by kernel_rfl, by kernel_rfl, by kernel_rfl, fun _ => by kernel_rfl, fun _ _ _ => by kernel_rfl⟩
theorem o14_1_21 {J : JT} : OpIs prog J ops14_1 21 20 214 fun f h H => (H (f.r 74) h) := ⟨by kernel_rfl, by kernel_rfl, by kernel_rfl, fun _ => by kernel_rfl, fun _ _ _ => by kernel_rfl⟩
def pl14t : Plans := [(11, true, .take 0 (.take 1 (.take 2 (.take 3 (.take 4 (.take 5 (.take 6 (.take 7 (.take 8 (.last 9 false (.take 10 (.take 11 (.take 12 (.take 13 (.take 14 (.fin)))))))))))))))),
 (12, true, .take 0 (.take 1 (.take 2 (.take 3 (.take 4 (.take 5 (.take 6 (.take 7 (.take 8 (.take 9 (.take 10 (.take 11 (.last 12 false (.take 13 (.take 14 (.take 15 (.take 16 (.take 17 (.fin))))))))))))))))))),
 (13, true, .take 0 (.take 1 (.take 2 (.take 3 (.take 4 (.take 5 (.take 6 (.take 7 (.take 8 (.last 9 false (.take 10 (.take 11 (.take 12 (.take 13 (.take 14 (.fin)))))))))))))))),
 (14, true, .take 0 (.take 1 (.take 2 (.take 3 (.take 4 (.take 5 (.take 6 (.take 7 (.take 8 (.take 9 (.take 10 (.take 11 (.last 12 false (.take 13 (.take 14 (.take 15 (.take 16 (.take 17 (.fin))))))))))))))))))),
 (15, true, .take 0 (.take 1 (.take 2 (.take 3 (.take 4 (.take 5 (.take 6 (.take 7 (.take 8 (.last 9 false (.take 10 (.take 11 (.take 12 (.take 13 (.take 14 (.fin)))))))))))))))),
 (16, true, .take 0 (.take 1 (.take 2 (.take 3 (.take 4 (.take 5 (.take 6 (.take 7 (.take 8 (.take 9 (.take 10 (.take 11 (.last 12 false (.take 13 (.take 14 (.take 15 (.take 16 (.take 17 (.fin)))))))))))))))))))]
def ct14t : Cuts := .bin (.go) (.bin (.go) (.bin (.go) (.bin (.go) (.bin (.go) (.bin (.go) (.cut (.bin (.bin (.go) (.un (.un (.bin (.go) (.bin (.un (.bin (.go) (.bin (.go) (.cut (.bin (.go) (.cut (.bin (.go) (.cut (.bin (.go) (.cut (.bin (.go) (.cut (.bin (.go) (.cut (.bin (.go) (.cut (.go))))))))))))))))) (.go)))))) (.go))))))))
theorem pok14t : plansOk prog pl14t (codeOf f14) = true := by kernel_rfl
theorem s14t_1 {f : RG} : W prog J 214 n0 14 (subC [1, 1, 1, 1, 1, 1] (codeOf f14)) f h (contX pl14t prog J 214 n0 14 ct14t [1, 1, 1, 1, 1, 1] (codeOf f14) [] (RetQ prog [.tmp 12] n0 K)) =
(Sem J 214 n0 14 (subC [1, 1, 1, 1, 1, 1, 0, 1, 0] (codeOf f14)) (RG.p f 21 (vint 0)) h (contX pl14t prog J 214 n0 14 ct14t [1, 1, 1, 1, 1, 1, 0, 1, 0] (codeOf f14) [] (RetQ prog [.tmp 12] n0 K))) := sub_eq pok14t ct14t (by kernel_rfl)
theorem s14t_2 {f : RG} {nx0 : RG → List AObj → Prop} : W prog J 214 n0 14 (subC [1, 1, 1, 1, 1, 1, 0, 1, 0, 0] (codeOf f14)) f h (thenK nx0 (contX pl14t prog J 214 n0 14 ct14t [1, 1, 1, 1, 1, 1, 0, 1, 0] (codeOf f14) [] (RetQ prog [.tmp 12] n0 K))) =
(aLenS (f.r 18) fun v1 =>
 aBin prog .lss 3 (f.r 21) v1 fun v2 =>
 cnd v2
(aIdx 1 (f.r 19) (f.r 21) fun v3 =>
 aLoad false 1 v3 h fun v4 =>
 Good prog J 47 [v4] h fun v5 h6 =>
 aIdx 6 (f.r 18) (f.r 21) fun v7 =>
 aLoad true 6 v7 h6 fun v8 =>
 aIdx 1 (f.r 20) (f.r 21) fun v9 =>
 aLoad false 1 v9 h6 fun v10 =>
 Good prog J 32 [v8, v5, v10] h6 fun v11 h12 =>
 aExt v11 0 fun v13 =>
 aExt v11 1 fun v14 =>
 Hold (W prog J 214 n0 14 (subC [1, 1, 1, 1, 1, 1, 0, 1, 0, 0, 1, 0, 0, 1, 1] (codeOf f14)) (RG.p (RG.p (RG.p (RG.p (RG.p (RG.p (RG.p (RG.p (RG.p (RG.p (RG.p (RG.p (RG.p (RG.p (RG.p (RG.p (RG.p (RG.p (RG.p (RG.p (RG.p (RG.p (RG.p (RG.p (RG.p f 75 (f.r 21)) 76 (f.r 18)) 77 v1) 78 v2) 81 (f.r 19)) 82 (f.r 21)) 83 v3) 84 v4) 85 v5) 22 v5) 87 (f.r 18)) 88 (f.r 21)) 89 v7) 90 v8) 91 v5) 92 (f.r 20)) 93 (f.r 21)) 94 v9) 95 v10) 96 v11) 86 v11) 97 v13) 98 v14) 23 v13) 24 v14) h12 (contX pl14t prog J 214 n0 14 ct14t [1, 1, 1, 1, 1, 1, 0, 1, 0, 0, 1, 0, 0, 1, 1] (codeOf f14) [nx0] (RetQ prog [.tmp 12] n0 K))))
(Good prog J 21 [] h fun v15 h16 =>
 retL n0 K f.ds [v15] h16)) := sub_eq pok14t ct14t (by kernel_rfl)
theorem l14t_2 (hJ : Closed prog main J) {S : Type} (μ : S → Nat) (I : S → RG → List AObj → Prop) (hI : ∀ s f h, I s f h → heapOk h → n0 ≤ h.length → W prog J 214 n0 14 (subC [1, 1, 1, 1, 1, 1, 0, 1, 0, 0] (codeOf f14)) f h (thenK (Nx n0 μ I s) (contX pl14t prog J 214 n0 14 ct14t [1, 1, 1, 1, 1, 1, 0, 1, 0] (codeOf f14) [] (RetQ prog [.tmp 12] n0 K))))
 {s : S} {f : RG} (hi : Gets n0 I s f h) : Sem J 214 n0 14 (subC [1, 1, 1, 1, 1, 1, 0, 1, 0] (codeOf f14)) f h (contX pl14t prog J 214 n0 14 ct14t [1, 1, 1, 1, 1, 1, 0, 1, 0] (codeOf f14) [] (RetQ prog [.tmp 12] n0 K)) :=
 loop_rule hJ mixed (b := subC [1, 1, 1, 1, 1, 1, 0, 1, 0, 0] (codeOf f14)) (by kernel_rfl) μ I hI hi
theorem s14t_3 {f : RG} {nx0 : RG → List AObj → Prop} : W prog J 214 n0 14 (subC [1, 1, 1, 1, 1, 1, 0, 1, 0, 0, 1, 0, 0, 1, 1] (codeOf f14)) f h (contX pl14t prog J 214 n0 14 ct14t [1, 1, 1, 1, 1, 1, 0, 1, 0, 0, 1, 0, 0, 1, 1] (codeOf f14) [nx0] (RetQ prog [.tmp 12] n0 K)) =
(aIdx 6 (f.r 18) (f.r 21) fun v1 =>
 aLoad true 6 v1 h fun v2 =>
 aIdx 1 (f.r 19) (f.r 21) fun v3 =>
 aLoad false 1 v3 h fun v4 =>
 aIdx 1 (f.r 20) (f.r 21) fun v5 =>
 aLoad false 1 v5 h fun v6 =>
 Good prog J 57 [v2, v4, v6] h fun v7 h8 =>
 aExt v7 0 fun v9 =>
 aExt v7 1 fun v10 =>
 Hold (W prog J 214 n0 14 (subC [1, 1, 1, 1, 1, 1, 0, 1, 0, 0, 1, 0, 0, 1, 1, 1] (codeOf f14)) (RG.p (RG.p (RG.p (RG.p (RG.p (RG.p (RG.p (RG.p (RG.p (RG.p (RG.p (RG.p (RG.p (RG.p (RG.p (RG.p (RG.p (RG.p f 100 (f.r 18)) 101 (f.r 21)) 102 v1) 103 v2) 104 (f.r 19)) 105 (f.r 21)) 106 v3) 107 v4) 108 (f.r 20)) 109 (f.r 21)) 110 v5) 111 v6) 112 v7) 99 v7) 113 v9) 114 v10) 25 v9) 26 v10) h8 (contX pl14t prog J 214 n0 14 ct14t [1, 1, 1, 1, 1, 1, 0, 1, 0, 0, 1, 0, 0, 1, 1, 1] (codeOf f14) [nx0] (RetQ prog [.tmp 12] n0 K)))) := sub_eq pok14t ct14t (by kernel_rfl)
theorem s14t_4 {f : RG} {nx0 : RG → List AObj → Prop} : W prog J 214 n0 14 (subC [1, 1, 1, 1, 1, 1, 0, 1, 0, 0, 1, 0, 0, 1, 1, 1] (codeOf f14)) f h (contX pl14t prog J 214 n0 14 ct14t [1, 1, 1, 1, 1, 1, 0, 1, 0, 0, 1, 0, 0, 1, 1, 1] (codeOf f14) [nx0] (RetQ prog [.tmp 12] n0 K)) =
(aIdx 6 (f.r 18) (f.r 21) fun v1 =>
 aLoad true 6 v1 h fun v2 =>
 aIdx 1 (f.r 20) (f.r 21) fun v3 =>
 aLoad false 1 v3 h fun v4 =>
 Good prog J 58 [v2, (f.r 22), v4] h fun v5 h6 =>
 aExt v5 0 fun v7 =>
 aExt v5 1 fun v8 =>
 Hold (W prog J 214 n0 14 (subC [1, 1, 1, 1, 1, 1, 0, 1, 0, 0, 1, 0, 0, 1, 1, 1, 1] (codeOf f14)) (RG.p (RG.p (RG.p (RG.p (RG.p (RG.p (RG.p (RG.p (RG.p (RG.p (RG.p (RG.p (RG.p (RG.p (RG.p f 116 (f.r 18)) 117 (f.r 21)) 118 v1) 119 v2) 120 (f.r 22)) 121 (f.r 20)) 122 (f.r 21)) 123 v3) 124 v4) 125 v5) 115 v5) 126 v7) 127 v8) 27 v7) 28 v8) h6 (contX pl14t prog J 214 n0 14 ct14t [1, 1, 1, 1, 1, 1, 0, 1, 0, 0, 1, 0, 0, 1, 1, 1, 1] (codeOf f14) [nx0] (RetQ prog [.tmp 12] n0 K)))) := sub_eq pok14t ct14t (by kernel_rfl)
theorem s14t_5 {f : RG} {nx0 : RG → List AObj → Prop} : W prog J 214 n0 14 (subC [1, 1, 1, 1, 1, 1, 0, 1, 0, 0, 1, 0, 0, 1, 1, 1, 1] (codeOf f14)) f h (contX pl14t prog J 214 n0 14 ct14t [1, 1, 1, 1, 1, 1, 0, 1, 0, 0, 1, 0, 0, 1, 1, 1, 1] (codeOf f14) [nx0] (RetQ prog [.tmp 12] n0 K)) =
(aIdx 6 (f.r 18) (f.r 21) fun v1 =>
 aLoad true 6 v1 h fun v2 =>
 aIdx 1 (f.r 19) (f.r 21) fun v3 =>
 aLoad false 1 v3 h fun v4 =>
 aIdx 1 (f.r 20) (f.r 21) fun v5 =>
 aLoad false 1 v5 h fun v6 =>
 Good prog J 59 [v2, v4, v6] h fun v7 h8 =>
 aExt v7 0 fun v9 =>
 aExt v7 1 fun v10 =>
 Hold (W prog J 214 n0 14 (subC [1, 1, 1, 1, 1, 1, 0, 1, 0, 0, 1, 0, 0, 1, 1, 1, 1, 1] (codeOf f14)) (RG.p (RG.p (RG.p (RG.p (RG.p (RG.p (RG.p (RG.p (RG.p (RG.p (RG.p (RG.p (RG.p (RG.p (RG.p (RG.p (RG.p (RG.p f 129 (f.r 18)) 130 (f.r 21)) 131 v1) 132 v2) 133 (f.r 19)) 134 (f.r 21)) 135 v3) 136 v4) 137 (f.r 20)) 138 (f.r 21)) 139 v5) 140 v6) 141 v7) 128 v7) 142 v9) 143 v10) 29 v9) 30 v10) h8 (contX pl14t prog J 214 n0 14 ct14t [1, 1, 1, 1, 1, 1, 0, 1, 0, 0, 1, 0, 0, 1, 1, 1, 1, 1] (codeOf f14) [nx0] (RetQ prog [.tmp 12] n0 K)))) := sub_eq pok14t ct14t (by kernel_rfl)
theorem s14t_6 {f : RG} {nx0 : RG → List AObj → Prop} : W prog J 214 n0 14 (subC [1, 1, 1, 1, 1, 1, 0, 1, 0, 0, 1, 0, 0, 1, 1, 1, 1, 1] (codeOf f14)) f h (contX pl14t prog J 214 n0 14 ct14t [1, 1, 1, 1, 1, 1, 0, 1, 0, 0, 1, 0, 0, 1, 1, 1, 1, 1] (codeOf f14) [nx0] (RetQ prog [.tmp 12] n0 K)) =
(aIdx 6 (f.r 18) (f.r 21) fun v1 =>
 aLoad true 6 v1 h fun v2 =>
 aIdx 1 (f.r 20) (f.r 21) fun v3 =>
 aLoad false 1 v3 h fun v4 =>
 Good prog J 43 [v2, (f.r 22), v4] h fun v5 h6 =>
 aExt v5 0 fun v7 =>
 aExt v5 1 fun v8 =>
 Hold (W prog J 214 n0 14 (subC [1, 1, 1, 1, 1, 1, 0, 1, 0, 0, 1, 0, 0, 1, 1, 1, 1, 1, 1] (codeOf f14)) (RG.p (RG.p (RG.p (RG.p (RG.p (RG.p (RG.p (RG.p (RG.p (RG.p (RG.p (RG.p (RG.p (RG.p (RG.p f 145 (f.r 18)) 146 (f.r 21)) 147 v1) 148 v2) 149 (f.r 22)) 150 (f.r 20)) 151 (f.r 21)) 152 v3) 153 v4) 154 v5) 144 v5) 155 v7) 156 v8) 31 v7) 32 v8) h6 (contX pl14t prog J 214 n0 14 ct14t [1, 1, 1, 1, 1, 1, 0, 1, 0, 0, 1, 0, 0, 1, 1, 1, 1, 1, 1] (codeOf f14) [nx0] (RetQ prog [.tmp 12] n0 K)))) := sub_eq pok14t ct14t (by kernel_rfl)
theorem s14t_7 {f : RG} {nx0 : RG → List AObj → Prop} : W prog J 214 n0 14 (subC [1, 1, 1, 1, 1, 1, 0, 1, 0, 0, 1, 0, 0, 1, 1, 1, 1, 1, 1] (codeOf f14)) f h (contX pl14t prog J 214 n0 14 ct14t [1, 1, 1, 1, 1, 1, 0, 1, 0, 0, 1, 0, 0, 1, 1, 1, 1, 1, 1] (codeOf f14) [nx0] (RetQ prog [.tmp 12] n0 K)) =
(aIdx 6 (f.r 18) (f.r 21) fun v1 =>
 aLoad true 6 v1 h fun v2 =>
 aIdx 1 (f.r 19) (f.r 21) fun v3 =>
 aLoad false 1 v3 h fun v4 =>
 aIdx 1 (f.r 20) (f.r 21) fun v5 =>
 aLoad false 1 v5 h fun v6 =>
 Good prog J 60 [v2, v4, v6] h fun v7 h8 =>
 aExt v7 0 fun v9 =>
 aExt v7 1 fun v10 =>
 Hold (W prog J 214 n0 14 (subC [1, 1, 1, 1, 1, 1, 0, 1, 0, 0, 1, 0, 0, 1, 1, 1, 1, 1, 1, 1] (codeOf f14)) (RG.p (RG.p (RG.p (RG.p (RG.p (RG.p (RG.p (RG.p (RG.p (RG.p (RG.p (RG.p (RG.p (RG.p (RG.p (RG.p (RG.p (RG.p f 158 (f.r 18)) 159 (f.r 21)) 160 v1) 161 v2) 162 (f.r 19)) 163 (f.r 21)) 164 v3) 165 v4) 166 (f.r 20)) 167 (f.r 21)) 168 v5) 169 v6) 170 v7) 157 v7) 171 v9) 172 v10) 33 v9) 34 v10) h8 (contX pl14t prog J 214 n0 14 ct14t [1, 1, 1, 1, 1, 1, 0, 1, 0, 0, 1, 0, 0, 1, 1, 1, 1, 1, 1, 1] (codeOf f14) [nx0] (RetQ prog [.tmp 12] n0 K)))) := sub_eq pok14t ct14t (by kernel_rfl)
theorem s14t_8 {f : RG} {nx0 : RG → List AObj → Prop} : W prog J 214 n0 14 (subC [1, 1, 1, 1, 1, 1, 0, 1, 0, 0, 1, 0, 0, 1, 1, 1, 1, 1, 1, 1] (codeOf f14)) f h (contX pl14t prog J 214 n0 14 ct14t [1, 1, 1, 1, 1, 1, 0, 1, 0, 0, 1, 0, 0, 1, 1, 1, 1, 1, 1, 1] (codeOf f14) [nx0] (RetQ prog [.tmp 12] n0 K)) =
(aBin prog .neq 37 (f.r 24) (f.r 26) fun v1 =>
 cnd v1
(Hold (W prog J 214 n0 14 (subC [1, 1, 1, 1, 1, 1, 0, 1, 0, 0, 1, 0, 0, 1, 1, 1, 1, 1, 1, 1, 1] (codeOf f14)) (RG.p (RG.p (RG.p (RG.p (RG.p (RG.p (RG.p (RG.p (RG.p (RG.p (RG.p (RG.p (RG.p (RG.p (RG.p (RG.p (RG.p (RG.p (RG.p (RG.p (RG.p (RG.p (RG.p (RG.p (RG.p (RG.p (RG.p (RG.p (RG.p (RG.p (RG.p (RG.p (RG.p (RG.p (RG.p (RG.p (RG.p (RG.p (RG.p (RG.p (RG.p (RG.p (RG.p (RG.p (RG.p (RG.p f 173 (f.r 24)) 174 (f.r 26)) 175 v1) 176 v1) 176 (Value.bool true)) 177 undef) 178 undef) 179 undef) 180 (Value.bool true)) 181 (Value.bool true)) 181 (Value.bool true)) 182 undef) 183 undef) 184 undef) 185 (Value.bool true)) 186 (Value.bool true)) 186 (Value.bool true)) 187 undef) 188 undef) 189 undef) 190 undef) 191 (Value.bool true)) 192 (Value.bool true)) 192 (Value.bool true)) 193 undef) 194 undef) 195 undef) 196 undef) 197 (Value.bool true)) 198 (Value.bool true)) 198 (Value.bool true)) 199 undef) 200 undef) 201 undef) 202 undef) 203 (Value.bool true)) 204 (Value.bool true)) 204 (Value.bool true)) 205 undef) 206 undef) 207 undef) 208 undef) 209 undef) 210 undef) 211 undef) 212 (Value.bool true)) h (contX pl14t prog J 214 n0 14 ct14t [1, 1, 1, 1, 1, 1, 0, 1, 0, 0, 1, 0, 0, 1, 1, 1, 1, 1, 1, 1, 1] (codeOf f14) [nx0] (RetQ prog [.tmp 12] n0 K))))
(aBin prog .neq 37 (f.r 28) (f.r 30) fun v2 =>
 cnd v2
(Hold (W prog J 214 n0 14 (subC [1, 1, 1, 1, 1, 1, 0, 1, 0, 0, 1, 0, 0, 1, 1, 1, 1, 1, 1, 1, 1] (codeOf f14)) (RG.p (RG.p (RG.p (RG.p (RG.p (RG.p (RG.p (RG.p (RG.p (RG.p (RG.p (RG.p (RG.p (RG.p (RG.p (RG.p (RG.p (RG.p (RG.p (RG.p (RG.p (RG.p (RG.p (RG.p (RG.p (RG.p (RG.p (RG.p (RG.p (RG.p (RG.p (RG.p (RG.p (RG.p (RG.p (RG.p (RG.p (RG.p (RG.p (RG.p (RG.p (RG.p (RG.p (RG.p (RG.p (RG.p f 173 (f.r 24)) 174 (f.r 26)) 175 v1) 176 v1) 176 (Value.bool false)) 177 (f.r 28)) 178 (f.r 30)) 179 v2) 180 v2) 181 v2) 181 (Value.bool true)) 182 undef) 183 undef) 184 undef) 185 (Value.bool true)) 186 (Value.bool true)) 186 (Value.bool true)) 187 undef) 188 undef) 189 undef) 190 undef) 191 (Value.bool true)) 192 (Value.bool true)) 192 (Value.bool true)) 193 undef) 194 undef) 195 undef) 196 undef) 197 (Value.bool true)) 198 (Value.bool true)) 198 (Value.bool true)) 199 undef) 200 undef) 201 undef) 202 undef) 203 (Value.bool true)) 204 (Value.bool true)) 204 (Value.bool true)) 205 undef) 206 undef) 207 undef) 208 undef) 209 undef) 210 undef) 211 undef) 212 (Value.bool true)) h (contX pl14t prog J 214 n0 14 ct14t [1, 1, 1, 1, 1, 1, 0, 1, 0, 0, 1, 0, 0, 1, 1, 1, 1, 1, 1, 1, 1] (codeOf f14) [nx0] (RetQ prog [.tmp 12] n0 K))))
(aBin prog .neq 37 (f.r 32) (f.r 34) fun v3 =>
 cnd v3
(Hold (W prog J 214 n0 14 (subC [1, 1, 1, 1, 1, 1, 0, 1, 0, 0, 1, 0, 0, 1, 1, 1, 1, 1, 1, 1, 1] (codeOf f14)) (RG.p (RG.p (RG.p (RG.p (RG.p (RG.p (RG.p (RG.p (RG.p (RG.p (RG.p (RG.p (RG.p (RG.p (RG.p (RG.p (RG.p (RG.p (RG.p (RG.p (RG.p (RG.p (RG.p (RG.p (RG.p (RG.p (RG.p (RG.p (RG.p (RG.p (RG.p (RG.p (RG.p (RG.p (RG.p (RG.p (RG.p (RG.p (RG.p (RG.p (RG.p (RG.p (RG.p (RG.p (RG.p (RG.p f 173 (f.r 24)) 174 (f.r 26)) 175 v1) 176 v1) 176 (Value.bool false)) 177 (f.r 28)) 178 (f.r 30)) 179 v2) 180 v2) 181 v2) 181 (Value.bool false)) 182 (f.r 32)) 183 (f.r 34)) 184 v3) 185 v3) 186 v3) 186 (Value.bool true)) 187 undef) 188 undef) 189 undef) 190 undef) 191 (Value.bool true)) 192 (Value.bool true)) 192 (Value.bool true)) 193 undef) 194 undef) 195 undef) 196 undef) 197 (Value.bool true)) 198 (Value.bool true)) 198 (Value.bool true)) 199 undef) 200 undef) 201 undef) 202 undef) 203 (Value.bool true)) 204 (Value.bool true)) 204 (Value.bool true)) 205 undef) 206 undef) 207 undef) 208 undef) 209 undef) 210 undef) 211 undef) 212 (Value.bool true)) h (contX pl14t prog J 214 n0 14 ct14t [1, 1, 1, 1, 1, 1, 0, 1, 0, 0, 1, 0, 0, 1, 1, 1, 1, 1, 1, 1, 1] (codeOf f14) [nx0] (RetQ prog [.tmp 12] n0 K))))
(Good prog J 29 [(f.r 23), (f.r 25)] h fun v4 h5 =>
 aUn .not v4 fun v6 =>
 cnd v6
(Hold (W prog J 214 n0 14 (subC [1, 1, 1, 1, 1, 1, 0, 1, 0, 0, 1, 0, 0, 1, 1, 1, 1, 1, 1, 1, 1] (codeOf f14)) (RG.p (RG.p (RG.p (RG.p (RG.p (RG.p (RG.p (RG.p (RG.p (RG.p (RG.p (RG.p (RG.p (RG.p (RG.p (RG.p (RG.p (RG.p (RG.p (RG.p (RG.p (RG.p (RG.p (RG.p (RG.p (RG.p (RG.p (RG.p (RG.p (RG.p (RG.p (RG.p (RG.p (RG.p (RG.p (RG.p (RG.p (RG.p (RG.p (RG.p (RG.p (RG.p (RG.p (RG.p (RG.p (RG.p f 173 (f.r 24)) 174 (f.r 26)) 175 v1) 176 v1) 176 (Value.bool false)) 177 (f.r 28)) 178 (f.r 30)) 179 v2) 180 v2) 181 v2) 181 (Value.bool false)) 182 (f.r 32)) 183 (f.r 34)) 184 v3) 185 v3) 186 v3) 186 (Value.bool false)) 187 (f.r 23)) 188 (f.r 25)) 189 v4) 190 v6) 191 v6) 192 v6) 192 (Value.bool true)) 193 undef) 194 undef) 195 undef) 196 undef) 197 (Value.bool true)) 198 (Value.bool true)) 198 (Value.bool true)) 199 undef) 200 undef) 201 undef) 202 undef) 203 (Value.bool true)) 204 (Value.bool true)) 204 (Value.bool true)) 205 undef) 206 undef) 207 undef) 208 undef) 209 undef) 210 undef) 211 undef) 212 (Value.bool true)) h5 (contX pl14t prog J 214 n0 14 ct14t [1, 1, 1, 1, 1, 1, 0, 1, 0, 0, 1, 0, 0, 1, 1, 1, 1, 1, 1, 1, 1] (codeOf f14) [nx0] (RetQ prog [.tmp 12] n0 K))))
(Good prog J 29 [(f.r 27), (f.r 29)] h5 fun v7 h8 =>
 aUn .not v7 fun v9 =>
 cnd v9
(Hold (W prog J 214 n0 14 (subC [1, 1, 1, 1, 1, 1, 0, 1, 0, 0, 1, 0, 0, 1, 1, 1, 1, 1, 1, 1, 1] (codeOf f14)) (RG.p (RG.p (RG.p (RG.p (RG.p (RG.p (RG.p (RG.p (RG.p (RG.p (RG.p (RG.p (RG.p (RG.p (RG.p (RG.p (RG.p (RG.p (RG.p (RG.p (RG.p (RG.p (RG.p (RG.p (RG.p (RG.p (RG.p (RG.p (RG.p (RG.p (RG.p (RG.p (RG.p (RG.p (RG.p (RG.p (RG.p (RG.p (RG.p (RG.p (RG.p (RG.p (RG.p (RG.p (RG.p (RG.p f 173 (f.r 24)) 174 (f.r 26)) 175 v1) 176 v1) 176 (Value.bool false)) 177 (f.r 28)) 178 (f.r 30)) 179 v2) 180 v2) 181 v2) 181 (Value.bool false)) 182 (f.r 32)) 183 (f.r 34)) 184 v3) 185 v3) 186 v3) 186 (Value.bool false)) 187 (f.r 23)) 188 (f.r 25)) 189 v4) 190 v6) 191 v6) 192 v6) 192 (Value.bool false)) 193 (f.r 27)) 194 (f.r 29)) 195 v7) 196 v9) 197 v9) 198 v9) 198 (Value.bool true)) 199 undef) 200 undef) 201 undef) 202 undef) 203 (Value.bool true)) 204 (Value.bool true)) 204 (Value.bool true)) 205 undef) 206 undef) 207 undef) 208 undef) 209 undef) 210 undef) 211 undef) 212 (Value.bool true)) h8 (contX pl14t prog J 214 n0 14 ct14t [1, 1, 1, 1, 1, 1, 0, 1, 0, 0, 1, 0, 0, 1, 1, 1, 1, 1, 1, 1, 1] (codeOf f14) [nx0] (RetQ prog [.tmp 12] n0 K))))
(Good prog J 29 [(f.r 31), (f.r 33)] h8 fun v10 h11 =>
 aUn .not v10 fun v12 =>
 cnd v12
(Hold (W prog J 214 n0 14 (subC [1, 1, 1, 1, 1, 1, 0, 1, 0, 0, 1, 0, 0, 1, 1, 1, 1, 1, 1, 1, 1] (codeOf f14)) (RG.p (RG.p (RG.p (RG.p (RG.p (RG.p (RG.p (RG.p (RG.p (RG.p (RG.p (RG.p (RG.p (RG.p (RG.p (RG.p (RG.p (RG.p (RG.p (RG.p (RG.p (RG.p (RG.p (RG.p (RG.p (RG.p (RG.p (RG.p (RG.p (RG.p (RG.p (RG.p (RG.p (RG.p (RG.p (RG.p (RG.p (RG.p (RG.p (RG.p (RG.p (RG.p (RG.p (RG.p (RG.p (RG.p f 173 (f.r 24)) 174 (f.r 26)) 175 v1) 176 v1) 176 (Value.bool false)) 177 (f.r 28)) 178 (f.r 30)) 179 v2) 180 v2) 181 v2) 181 (Value.bool false)) 182 (f.r 32)) 183 (f.r 34)) 184 v3) 185 v3) 186 v3) 186 (Value.bool false)) 187 (f.r 23)) 188 (f.r 25)) 189 v4) 190 v6) 191 v6) 192 v6) 192 (Value.bool false)) 193 (f.r 27)) 194 (f.r 29)) 195 v7) 196 v9) 197 v9) 198 v9) 198 (Value.bool false)) 199 (f.r 31)) 200 (f.r 33)) 201 v10) 202 v12) 203 v12) 204 v12) 204 (Value.bool true)) 205 undef) 206 undef) 207 undef) 208 undef) 209 undef) 210 undef) 211 undef) 212 (Value.bool true)) h11 (contX pl14t prog J 214 n0 14 ct14t [1, 1, 1, 1, 1, 1, 0, 1, 0, 0, 1, 0, 0, 1, 1, 1, 1, 1, 1, 1, 1] (codeOf f14) [nx0] (RetQ prog [.tmp 12] n0 K))))
(aIdx 1 (f.r 19) (f.r 21) fun v13 =>
 aLoad false 1 v13 h11 fun v14 =>
 Good prog J 29 [(f.r 22), v14] h11 fun v15 h16 =>
 aUn .not v15 fun v17 =>
 Hold (W prog J 214 n0 14 (subC [1, 1, 1, 1, 1, 1, 0, 1, 0, 0, 1, 0, 0, 1, 1, 1, 1, 1, 1, 1, 1] (codeOf f14)) (RG.p (RG.p (RG.p (RG.p (RG.p (RG.p (RG.p (RG.p (RG.p (RG.p (RG.p (RG.p (RG.p (RG.p (RG.p (RG.p (RG.p (RG.p (RG.p (RG.p (RG.p (RG.p (RG.p (RG.p (RG.p (RG.p (RG.p (RG.p (RG.p (RG.p (RG.p (RG.p (RG.p (RG.p (RG.p (RG.p (RG.p (RG.p (RG.p (RG.p (RG.p (RG.p (RG.p (RG.p (RG.p (RG.p f 173 (f.r 24)) 174 (f.r 26)) 175 v1) 176 v1) 176 (Value.bool false)) 177 (f.r 28)) 178 (f.r 30)) 179 v2) 180 v2) 181 v2) 181 (Value.bool false)) 182 (f.r 32)) 183 (f.r 34)) 184 v3) 185 v3) 186 v3) 186 (Value.bool false)) 187 (f.r 23)) 188 (f.r 25)) 189 v4) 190 v6) 191 v6) 192 v6) 192 (Value.bool false)) 193 (f.r 27)) 194 (f.r 29)) 195 v7) 196 v9) 197 v9) 198 v9) 198 (Value.bool false)) 199 (f.r 31)) 200 (f.r 33)) 201 v10) 202 v12) 203 v12) 204 v12) 204 (Value.bool false)) 205 (f.r 22)) 206 (f.r 19)) 207 (f.r 21)) 208 v13) 209 v14) 210 v15) 211 v17) 212 v17) h16 (contX pl14t prog J 214 n0 14 ct14t [1, 1, 1, 1, 1, 1, 0, 1, 0, 0, 1, 0, 0, 1, 1, 1, 1, 1, 1, 1, 1] (codeOf f14) [nx0] (RetQ prog [.tmp 12] n0 K)))))))))) := sub_eq pok14t ct14t (by kernel_rfl)
theorem s14t_9 {f : RG} {nx0 : RG → List AObj → Prop} : W prog J 214 n0 14 (subC [1, 1, 1, 1, 1, 1, 0, 1, 0, 0, 1, 0, 0, 1, 1, 1, 1, 1, 1, 1, 1] (codeOf f14)) f h (contX pl14t prog J 214 n0 14 ct14t [1, 1, 1, 1, 1, 1, 0, 1, 0, 0, 1, 0, 0, 1, 1, 1, 1, 1, 1, 1, 1] (codeOf f14) [nx0] (RetQ prog [.tmp 12] n0 K)) =
(cnd (f.r 212)
(retL n0 K f.ds [(Value.bool false)] h)
(aBin prog .add 3 (f.r 21) (vint 1) fun v1 =>
 nx0 (RG.p (RG.p (RG.p f 79 (f.r 21)) 80 v1) 21 v1) h)) := sub_eq pok14t ct14t (by kernel_rfl)
end
section
variable {main : Bool} {J : JT} {n0 : Nat} {h : List AObj} {K : Value → List AObj → Prop}
theorem at102 : prog.funcs[102]? = some f102 := by kernel_rfl
theorem body102 : f102.body = some (codeOf f102) := by kernel_rfl
def pl102 : Plans := []
def ct102 : Cuts := .bin (.go) (.bin (.go) (.bin (.go) (.bin (.go) (.bin (.go) (.bin (.bin (.go) (.un (.un (.bin (.go) (.bin (.un (.bin (.go) (.cut (.go)))) (.go)))))) (.go))))))
theorem pok102 : plansOk prog pl102 (codeOf f102) = true := by kernel_rfl
theorem e102 {a0 a1 a2 : Value} : W prog J 44 h.length 102 (codeOf f102) (RG.mk (regs [a0, a1, a2]) []) h (RetQ prog [.tmp 6] h.length K) =
(aBox a0 h fun v1 h2 =>
 aLoad true 6 v1 h2 fun v3 =>
 Good prog J 37 [v3] h2 fun v4 h5 =>
 aBin prog .neq 37 v4 (vint 0) fun v6 =>
 cnd v6
(retL h.length K [] [v4] h5)
(aLenStr a2 fun v7 =>
 aBin prog .eql 3 v7 (vint 0) fun v8 =>
 cnd v8
(retL h.length K [] [(vint 7)] h5)
(aLenStr a2 fun v9 =>
 aBin prog .gtr 3 v9 (vint 8) fun v10 =>
 cnd v10
(retL h.length K [] [(vint 6)] h5)
(aLenStr a2 fun v11 =>
 Good prog J 132 [a1, v11] h5 fun v12 h13 =>
 aBin prog .neq 37 v12 (vint 0) fun v14 =>
 cnd v14
(retL h.length K [] [v12] h13)
(Sem J 44 h.length 102 (subC [1, 1, 1, 1, 1, 0, 1, 0] (codeOf f102)) (RG.p (RG.p (RG.p (RG.p (RG.p (RG.p (RG.p (RG.p (RG.p (RG.p (RG.p (RG.p (RG.p (RG.p (RG.p (RG.p (RG.p (RG.p (RG.p (RG.p (RG.p (RG.mk (regs [a0, a1, a2]) []) 3 v1) 6 (vint 0)) 10 v3) 11 v4) 7 v4) 12 v4) 13 v6) 15 a2) 16 v7) 17 v8) 18 a2) 19 v9) 20 v10) 21 a1) 22 a2) 23 v11) 24 v12) 8 v12) 25 v12) 26 v14) 9 (vint 0)) h13 (contX pl102 prog J 44 h.length 102 ct102 [1, 1, 1, 1, 1, 0, 1, 0] (codeOf f102) [] (RetQ prog [.tmp 6] h.length K))))))) := top_eq pok102 ct102 (by kernel_rfl)
theorem g102 (hJ : Closed prog main J) {a0 a1 a2 : Value} (hs : heapOk h → W prog J 44 h.length 102 (codeOf f102) (RG.mk (regs [a0, a1, a2]) []) h (RetQ prog [.tmp 6] h.length K)) : Good prog J 102 [a0, a1, a2] h K :=
 good_of_W hJ mixed at102 body102 (by kernel_rfl) (Nat.le_of_ble_eq_true rfl) hs
theorem s102_1 {f : RG} {nx0 : RG → List AObj → Prop} : W prog J 44 n0 102 (subC [1, 1, 1, 1, 1, 0, 1, 0, 0] (codeOf f102)) f h (thenK nx0 (contX pl102 prog J 44 n0 102 ct102 [1, 1, 1, 1, 1, 0, 1, 0] (codeOf f102) [] (RetQ prog [.tmp 6] n0 K))) =
(aLenStr (f.r 2) fun v1 =>
 aBin prog .lss 3 (f.r 9) v1 fun v2 =>
 cnd v2
(aIdxStr (f.r 2) (f.r 9) fun v3 =>
 aBin prog .neq 5 v3 (Value.int .u8 100) fun v4 =>
 cnd v4
(aIdxStr (f.r 2) (f.r 9) fun v5 =>
 aBin prog .neq 5 v5 (Value.int .u8 119) fun v6 =>
 Hold (W prog J 44 n0 102 (subC [1, 1, 1, 1, 1, 0, 1, 0, 0, 1, 0, 0, 1] (codeOf f102)) (RG.p (RG.p (RG.p (RG.p (RG.p (RG.p (RG.p (RG.p (RG.p (RG.p (RG.p (RG.p (RG.p (RG.p (RG.p f 28 (f.r 9)) 29 (f.r 2)) 30 v1) 31 v2) 34 (f.r 2)) 35 (f.r 9)) 36 v3) 37 v4) 38 v4) 38 (Value.bool true)) 39 (f.r 2)) 40 (f.r 9)) 41 v5) 42 v6) 43 v6) h (contX pl102 prog J 44 n0 102 ct102 [1, 1, 1, 1, 1, 0, 1, 0, 0, 1, 0, 0, 1] (codeOf f102) [nx0] (RetQ prog [.tmp 6] n0 K))))
(Hold (W prog J 44 n0 102 (subC [1, 1, 1, 1, 1, 0, 1, 0, 0, 1, 0, 0, 1] (codeOf f102)) (RG.p (RG.p (RG.p (RG.p (RG.p (RG.p (RG.p (RG.p (RG.p (RG.p (RG.p (RG.p (RG.p (RG.p (RG.p f 28 (f.r 9)) 29 (f.r 2)) 30 v1) 31 v2) 34 (f.r 2)) 35 (f.r 9)) 36 v3) 37 v4) 38 v4) 38 (Value.bool false)) 39 undef) 40 undef) 41 undef) 42 undef) 43 (Value.bool false)) h (contX pl102 prog J 44 n0 102 ct102 [1, 1, 1, 1, 1, 0, 1, 0, 0, 1, 0, 0, 1] (codeOf f102) [nx0] (RetQ prog [.tmp 6] n0 K)))))
(retL n0 K f.ds [(vint 0)] h)) := sub_eq pok102 ct102 (by kernel_rfl)
theorem l102_1 (hJ : Closed prog main J) {S : Type} (μ : S → Nat) (I : S → RG → List AObj → Prop) (hI : ∀ s f h, I s f h → heapOk h → n0 ≤ h.length → W prog J 44 n0 102 (subC [1, 1, 1, 1, 1, 0, 1, 0, 0] (codeOf f102)) f h (thenK (Nx n0 μ I s) (contX pl102 prog J 44 n0 102 ct102 [1, 1, 1, 1, 1, 0, 1, 0] (codeOf f102) [] (RetQ prog [.tmp 6] n0 K))))
 {s : S} {f : RG} (hi : Gets n0 I s f h) : Sem J 44 n0 102 (subC [1, 1, 1, 1, 1, 0, 1, 0] (codeOf f102)) f h (contX pl102 prog J 44 n0 102 ct102 [1, 1, 1, 1, 1, 0, 1, 0] (codeOf f102) [] (RetQ prog [.tmp 6] n0 K)) :=
 loop_rule hJ mixed (b := subC [1, 1, 1, 1, 1, 0, 1, 0, 0] (codeOf f102)) (by kernel_rfl) μ I hI hi
theorem s102_2 {f : RG} {nx0 : RG → List AObj → Prop} : W prog J 44 n0 102 (subC [1, 1, 1, 1, 1, 0, 1, 0, 0, 1, 0, 0, 1] (codeOf f102)) f h (contX pl102 prog J 44 n0 102 ct102 [1, 1, 1, 1, 1, 0, 1, 0, 0, 1, 0, 0, 1] (codeOf f102) [nx0] (RetQ prog [.tmp 6] n0 K)) =
(cnd (f.r 43)
(retL n0 K f.ds [(vint 2)] h)
(aBin prog .add 3 (f.r 9) (vint 1) fun v1 =>
 nx0 (RG.p (RG.p (RG.p f 32 (f.r 9)) 33 v1) 9 v1) h)) := sub_eq pok102 ct102 (by kernel_rfl)
theorem at57 : prog.funcs[57]? = some f57 := by kernel_rfl
theorem body57 : f57.body = some (codeOf f57) := by kernel_rfl
def pl57 : Plans := []
def ct57 : Cuts := .go
theorem pok57 : plansOk prog pl57 (codeOf f57) = true := by kernel_rfl
theorem e57 {a0 a1 a2 : Value} : W prog J 28 h.length 57 (codeOf f57) (RG.mk (regs [a0, a1, a2]) []) h (RetQ prog [.tmp 6, .tmp 7] h.length K) =
(aBox a0 h fun v1 h2 =>
 aLoad true 6 v1 h2 fun v3 =>
 Good prog J 102 [v3, a1, a2] h2 fun v4 h5 =>
 aBin prog .neq 37 v4 (vint 0) fun v6 =>
 cnd v6
(retL h.length K [] [(Value.slice none 0 0), v4] h5)
(aLoad true 6 v1 h5 fun v7 =>
 Good prog J 97 [v7, a1, a2] h5 fun v8 h9 =>
 aExt v8 0 fun v10 =>
 aExt v8 1 fun v11 =>
 aExt v8 2 fun v12 =>
 retL h.length K [] [v10, (vint 0)] h9)) := top_eq pok57 ct57 (by kernel_rfl)
theorem g57 (hJ : Closed prog main J) {a0 a1 a2 : Value} (hs : heapOk h → W prog J 28 h.length 57 (codeOf f57) (RG.mk (regs [a0, a1, a2]) []) h (RetQ prog [.tmp 6, .tmp 7] h.length K)) : Good prog J 57 [a0, a1, a2] h K :=
 good_of_W hJ mixed at57 body57 (by kernel_rfl) (Nat.le_of_ble_eq_true rfl) hs
theorem at59 : prog.funcs[59]? = some f59 := by kernel_rfl
theorem body59 : f59.body = some (codeOf f59) := by kernel_rfl
def pl59 : Plans := []
def ct59 : Cuts := .go
theorem pok59 : plansOk prog pl59 (codeOf f59) = true := by kernel_rfl
theorem e59 {a0 a1 a2 : Value} : W prog J 28 h.length 59 (codeOf f59) (RG.mk (regs [a0, a1, a2]) []) h (RetQ prog [.tmp 6, .tmp 7] h.length K) =
(aBox a0 h fun v1 h2 =>
 aLoad true 6 v1 h2 fun v3 =>
 Good prog J 102 [v3, a1, a2] h2 fun v4 h5 =>
 aBin prog .neq 37 v4 (vint 0) fun v6 =>
 cnd v6
(retL h.length K [] [(Value.slice none 0 0), v4] h5)
(aLoad true 6 v1 h5 fun v7 =>
 Good prog J 97 [v7, a1, a2] h5 fun v8 h9 =>
 aExt v8 0 fun v10 =>
 aExt v8 1 fun v11 =>
 aExt v8 2 fun v12 =>
 retL h.length K [] [v11, (vint 0)] h9)) := top_eq pok59 ct59 (by kernel_rfl)
theorem g59 (hJ : Closed prog main J) {a0 a1 a2 : Value} (hs : heapOk h → W prog J 28 h.length 59 (codeOf f59) (RG.mk (regs [a0, a1, a2]) []) h (RetQ prog [.tmp 6, .tmp 7] h.length K)) : Good prog J 59 [a0, a1, a2] h K :=
 good_of_W hJ mixed at59 body59 (by kernel_rfl) (Nat.le_of_ble_eq_true rfl) hs
theorem at60 : prog.funcs[60]? = some f60 := by kernel_rfl
theorem body60 : f60.body = some (codeOf f60) := by kernel_rfl
def pl60 : Plans := []
def ct60 : Cuts := .go
theorem pok60 : plansOk prog pl60 (codeOf f60) = true := by kernel_rfl
theorem e60 {a0 a1 a2 : Value} : W prog J 28 h.length 60 (codeOf f60) (RG.mk (regs [a0, a1, a2]) []) h (RetQ prog [.tmp 6, .tmp 7] h.length K) =
(aBox a0 h fun v1 h2 =>
 aLoad true 6 v1 h2 fun v3 =>
 Good prog J 102 [v3, a1, a2] h2 fun v4 h5 =>
 aBin prog .neq 37 v4 (vint 0) fun v6 =>
 cnd v6
(retL h.length K [] [(Value.slice none 0 0), v4] h5)
(aLoad true 6 v1 h5 fun v7 =>
 Good prog J 97 [v7, a1, a2] h5 fun v8 h9 =>
 aExt v8 0 fun v10 =>
 aExt v8 1 fun v11 =>
 aExt v8 2 fun v12 =>
 retL h.length K [] [v12, (vint 0)] h9)) := top_eq pok60 ct60 (by kernel_rfl)
theorem g60 (hJ : Closed prog main J) {a0 a1 a2 : Value} (hs : heapOk h → W prog J 28 h.length 60 (codeOf f60) (RG.mk (regs [a0, a1, a2]) []) h (RetQ prog [.tmp 6, .tmp 7] h.length K)) : Good prog J 60 [a0, a1, a2] h K :=
 good_of_W hJ mixed at60 body60 (by kernel_rfl) (Nat.le_of_ble_eq_true rfl) hs
end
section
variable {main : Bool} {J : JT} {n0 : Nat} {h : List AObj} {K : Value → List AObj → Prop}
theorem at56 : prog.funcs[56]? = some f56 := by kernel_rfl
theorem body56 : f56.body = some (codeOf f56) := by kernel_rfl
def pl56 : Plans := [(6, true, .take 0 (.take 1 (.take 3 (.take 7 (.take 8 (.take 9 (.alt 2 false (.alt 4 false (.alt 5 false (.take 6 (.last 10 false (.take 11 (.take 12 (.fin))))) (.last 10 false (.last 5 false (.take 6 (.take 11 (.take 12 (.fin))))))) (.last 10 false (.last 4 false (.last 5 false (.take 6 (.take 11 (.take 12 (.fin)))))))) (.alt 4 false (.alt 2 false (.alt 5 false (.take 6 (.last 10 false (.take 11 (.take 12 (.fin))))) (.last 10 false (.last 5 false (.take 6 (.take 11 (.take 12 (.fin))))))) (.alt 5 false (.alt 2 false (.take 6 (.last 10 false (.take 11 (.take 12 (.fin))))) (.last 10 false (.last 2 false (.take 6 (.take 11 (.take 12 (.fin))))))) (.last 10 false (.alt 2 false (.last 5 false (.take 6 (.take 11 (.take 12 (.fin))))) (.last 5 false (.last 2 false (.take 6 (.take 11 (.take 12 (.fin)))))))))) (.last 10 false (.alt 2 false (.last 4 false (.last 5 false (.take 6 (.take 11 (.take 12 (.fin)))))) (.last 4 false (.alt 2 false (.last 5 false (.take 6 (.take 11 (.take 12 (.fin))))) (.last 5 false (.last 2 false (.take 6 (.take 11 (.take 12 (.fin)))))))))))))))))),
 (8, true, .take 0 (.take 1 (.take 3 (.take 4 (.take 5 (.alt 2 false (.last 6 false (.take 7 (.take 8 (.fin)))) (.last 6 false (.last 2 false (.take 7 (.take 8 (.fin))))))))))),
 (9, true, .take 0 (.take 1 (.take 3 (.take 7 (.take 8 (.alt 2 false (.alt 4 false (.alt 5 false (.take 6 (.last 9 false (.take 10 (.take 11 (.fin))))) (.last 9 false (.last 5 false (.take 6 (.take 10 (.take 11 (.fin))))))) (.last 9 false (.last 4 false (.last 5 false (.take 6 (.take 10 (.take 11 (.fin)))))))) (.alt 4 false (.alt 2 false (.alt 5 false (.take 6 (.last 9 false (.take 10 (.take 11 (.fin))))) (.last 9 false (.last 5 false (.take 6 (.take 10 (.take 11 (.fin))))))) (.alt 5 false (.alt 2 false (.take 6 (.last 9 false (.take 10 (.take 11 (.fin))))) (.last 9 false (.last 2 false (.take 6 (.take 10 (.take 11 (.fin))))))) (.last 9 false (.alt 2 false (.last 5 false (.take 6 (.take 10 (.take 11 (.fin))))) (.last 5 false (.last 2 false (.take 6 (.take 10 (.take 11 (.fin)))))))))) (.last 9 false (.alt 2 false (.last 4 false (.last 5 false (.take 6 (.take 10 (.take 11 (.fin)))))) (.last 4 false (.alt 2 false (.last 5 false (.take 6 (.take 10 (.take 11 (.fin))))) (.last 5 false (.last 2 false (.take 6 (.take 10 (.take 11 (.fin)))))))))))))))))]
def ct56 : Cuts := .go
theorem pok56 : plansOk prog pl56 (codeOf f56) = true := by kernel_rfl
theorem e56 {a0 a1 a2 a3 : Value} : W prog J 57 h.length 56 (codeOf f56) (RG.mk (regs [a0, a1, a2, a3]) []) h (RetQ prog [.tmp 8] h.length K) =
(aLenStr a0 fun v1 =>
 aBin prog .eql 3 v1 (vint 0) fun v2 =>
 cnd v2
((((1 * 1 : Nat) ≤ 16777216 ∧ (1 : Nat) ≤ 16777216 ∧ List.length [(Value.int .u8 0)] = 1) ∧ aFill (zrep [(Value.int .u8 0)] 1) [(0, 1, a3)] fun c3 =>
 aNewS 1 c3 h fun v4 h5 =>
 aB2S v4 h5 fun v6 =>
 retL h.length K [] [v6] h5))
(aLenStr a0 fun v7 =>
 Good prog J 101 [a1, v7] h fun v8 h9 =>
 Good prog J 101 [a2, (vint 3)] h9 fun v10 h11 =>
 aBin prog .eql 3 v10 (vint 0) fun v12 =>
 cnd v12
(aBin prog .add 3 v8 (vint 1) fun v13 =>
(aSlStr a0 none (some v8) fun v14 =>
((((1 * 1 : Nat) ≤ 16777216 ∧ (1 : Nat) ≤ 16777216 ∧ List.length [(Value.int .u8 0)] = 1) ∧ aFill (zrep [(Value.int .u8 0)] 1) [(0, 1, a3)] fun c15 =>
 aNewS 1 c15 h11 fun v16 h17 =>
(aB2S v16 h17 fun v18 =>
 aBin prog .add 9 v14 v18 fun v19 =>
 aSlStr a0 (some v13) none fun v20 =>
 aBin prog .add 9 v19 v20 fun v21 =>
 retL h.length K [] [v21] h17) ∧ (aSlStr a0 (some v13) none fun v22 =>
 aB2S v16 h17 fun v23 =>
 aBin prog .add 9 v14 v23 fun v24 =>
 aBin prog .add 9 v24 v22 fun v25 =>
 retL h.length K [] [v25] h17))) ∧ (aSlStr a0 (some v13) none fun v26 =>
(((1 * 1 : Nat) ≤ 16777216 ∧ (1 : Nat) ≤ 16777216 ∧ List.length [(Value.int .u8 0)] = 1) ∧ aFill (zrep [(Value.int .u8 0)] 1) [(0, 1, a3)] fun c27 =>
 aNewS 1 c27 h11 fun v28 h29 =>
 aB2S v28 h29 fun v30 =>
 aBin prog .add 9 v14 v30 fun v31 =>
 aBin prog .add 9 v31 v26 fun v32 =>
 retL h.length K [] [v32] h29))) ∧ ((((1 * 1 : Nat) ≤ 16777216 ∧ (1 : Nat) ≤ 16777216 ∧ List.length [(Value.int .u8 0)] = 1) ∧ aFill (zrep [(Value.int .u8 0)] 1) [(0, 1, a3)] fun c33 =>
 aNewS 1 c33 h11 fun v34 h35 =>
(aSlStr a0 none (some v8) fun v36 =>
(aB2S v34 h35 fun v37 =>
 aBin prog .add 9 v36 v37 fun v38 =>
 aSlStr a0 (some v13) none fun v39 =>
 aBin prog .add 9 v38 v39 fun v40 =>
 retL h.length K [] [v40] h35) ∧ (aSlStr a0 (some v13) none fun v41 =>
 aB2S v34 h35 fun v42 =>
 aBin prog .add 9 v36 v42 fun v43 =>
 aBin prog .add 9 v43 v41 fun v44 =>
 retL h.length K [] [v44] h35)) ∧ (aB2S v34 h35 fun v45 =>
(aSlStr a0 none (some v8) fun v46 =>
 aBin prog .add 9 v46 v45 fun v47 =>
 aSlStr a0 (some v13) none fun v48 =>
 aBin prog .add 9 v47 v48 fun v49 =>
 retL h.length K [] [v49] h35) ∧ (aSlStr a0 (some v13) none fun v50 =>
 aSlStr a0 none (some v8) fun v51 =>
 aBin prog .add 9 v51 v45 fun v52 =>
 aBin prog .add 9 v52 v50 fun v53 =>
 retL h.length K [] [v53] h35)) ∧ (aSlStr a0 (some v13) none fun v54 =>
(aSlStr a0 none (some v8) fun v55 =>
 aB2S v34 h35 fun v56 =>
 aBin prog .add 9 v55 v56 fun v57 =>
 aBin prog .add 9 v57 v54 fun v58 =>
 retL h.length K [] [v58] h35) ∧ (aB2S v34 h35 fun v59 =>
 aSlStr a0 none (some v8) fun v60 =>
 aBin prog .add 9 v60 v59 fun v61 =>
 aBin prog .add 9 v61 v54 fun v62 =>
 retL h.length K [] [v62] h35)))) ∧ (aSlStr a0 (some v13) none fun v63 =>
(aSlStr a0 none (some v8) fun v64 =>
(((1 * 1 : Nat) ≤ 16777216 ∧ (1 : Nat) ≤ 16777216 ∧ List.length [(Value.int .u8 0)] = 1) ∧ aFill (zrep [(Value.int .u8 0)] 1) [(0, 1, a3)] fun c65 =>
 aNewS 1 c65 h11 fun v66 h67 =>
 aB2S v66 h67 fun v68 =>
 aBin prog .add 9 v64 v68 fun v69 =>
 aBin prog .add 9 v69 v63 fun v70 =>
 retL h.length K [] [v70] h67)) ∧ ((((1 * 1 : Nat) ≤ 16777216 ∧ (1 : Nat) ≤ 16777216 ∧ List.length [(Value.int .u8 0)] = 1) ∧ aFill (zrep [(Value.int .u8 0)] 1) [(0, 1, a3)] fun c71 =>
 aNewS 1 c71 h11 fun v72 h73 =>
(aSlStr a0 none (some v8) fun v74 =>
 aB2S v72 h73 fun v75 =>
 aBin prog .add 9 v74 v75 fun v76 =>
 aBin prog .add 9 v76 v63 fun v77 =>
 retL h.length K [] [v77] h73) ∧ (aB2S v72 h73 fun v78 =>
 aSlStr a0 none (some v8) fun v79 =>
 aBin prog .add 9 v79 v78 fun v80 =>
 aBin prog .add 9 v80 v63 fun v81 =>
 retL h.length K [] [v81] h73)))))
(aBin prog .eql 3 v10 (vint 1) fun v82 =>
 cnd v82
(aBin prog .add 3 v8 (vint 1) fun v83 =>
(aSlStr a0 none (some v8) fun v84 =>
 aSlStr a0 (some v83) none fun v85 =>
 aBin prog .add 9 v84 v85 fun v86 =>
 retL h.length K [] [v86] h11) ∧ (aSlStr a0 (some v83) none fun v87 =>
 aSlStr a0 none (some v8) fun v88 =>
 aBin prog .add 9 v88 v87 fun v89 =>
 retL h.length K [] [v89] h11))
((aSlStr a0 none (some v8) fun v90 =>
((((1 * 1 : Nat) ≤ 16777216 ∧ (1 : Nat) ≤ 16777216 ∧ List.length [(Value.int .u8 0)] = 1) ∧ aFill (zrep [(Value.int .u8 0)] 1) [(0, 1, a3)] fun c91 =>
 aNewS 1 c91 h11 fun v92 h93 =>
(aB2S v92 h93 fun v94 =>
 aBin prog .add 9 v90 v94 fun v95 =>
 aSlStr a0 (some v8) none fun v96 =>
 aBin prog .add 9 v95 v96 fun v97 =>
 retL h.length K [] [v97] h93) ∧ (aSlStr a0 (some v8) none fun v98 =>
 aB2S v92 h93 fun v99 =>
 aBin prog .add 9 v90 v99 fun v100 =>
 aBin prog .add 9 v100 v98 fun v101 =>
 retL h.length K [] [v101] h93))) ∧ (aSlStr a0 (some v8) none fun v102 =>
(((1 * 1 : Nat) ≤ 16777216 ∧ (1 : Nat) ≤ 16777216 ∧ List.length [(Value.int .u8 0)] = 1) ∧ aFill (zrep [(Value.int .u8 0)] 1) [(0, 1, a3)] fun c103 =>
 aNewS 1 c103 h11 fun v104 h105 =>
 aB2S v104 h105 fun v106 =>
 aBin prog .add 9 v90 v106 fun v107 =>
 aBin prog .add 9 v107 v102 fun v108 =>
 retL h.length K [] [v108] h105))) ∧ ((((1 * 1 : Nat) ≤ 16777216 ∧ (1 : Nat) ≤ 16777216 ∧ List.length [(Value.int .u8 0)] = 1) ∧ aFill (zrep [(Value.int .u8 0)] 1) [(0, 1, a3)] fun c109 =>
 aNewS 1 c109 h11 fun v110 h111 =>
(aSlStr a0 none (some v8) fun v112 =>
(aB2S v110 h111 fun v113 =>
 aBin prog .add 9 v112 v113 fun v114 =>
 aSlStr a0 (some v8) none fun v115 =>
 aBin prog .add 9 v114 v115 fun v116 =>
 retL h.length K [] [v116] h111) ∧ (aSlStr a0 (some v8) none fun v117 =>
 aB2S v110 h111 fun v118 =>
 aBin prog .add 9 v112 v118 fun v119 =>
 aBin prog .add 9 v119 v117 fun v120 =>
 retL h.length K [] [v120] h111)) ∧ (aB2S v110 h111 fun v121 =>
(aSlStr a0 none (some v8) fun v122 =>
 aBin prog .add 9 v122 v121 fun v123 =>
 aSlStr a0 (some v8) none fun v124 =>
 aBin prog .add 9 v123 v124 fun v125 =>
 retL h.length K [] [v125] h111) ∧ (aSlStr a0 (some v8) none fun v126 =>
 aSlStr a0 none (some v8) fun v127 =>
 aBin prog .add 9 v127 v121 fun v128 =>
 aBin prog .add 9 v128 v126 fun v129 =>
 retL h.length K [] [v129] h111)) ∧ (aSlStr a0 (some v8) none fun v130 =>
(aSlStr a0 none (some v8) fun v131 =>
 aB2S v110 h111 fun v132 =>
 aBin prog .add 9 v131 v132 fun v133 =>
 aBin prog .add 9 v133 v130 fun v134 =>
 retL h.length K [] [v134] h111) ∧ (aB2S v110 h111 fun v135 =>
 aSlStr a0 none (some v8) fun v136 =>
 aBin prog .add 9 v136 v135 fun v137 =>
 aBin prog .add 9 v137 v130 fun v138 =>
 retL h.length K [] [v138] h111)))) ∧ (aSlStr a0 (some v8) none fun v139 =>
(aSlStr a0 none (some v8) fun v140 =>
(((1 * 1 : Nat) ≤ 16777216 ∧ (1 : Nat) ≤ 16777216 ∧ List.length [(Value.int .u8 0)] = 1) ∧ aFill (zrep [(Value.int .u8 0)] 1) [(0, 1, a3)] fun c141 =>
 aNewS 1 c141 h11 fun v142 h143 =>
 aB2S v142 h143 fun v144 =>
 aBin prog .add 9 v140 v144 fun v145 =>
 aBin prog .add 9 v145 v139 fun v146 =>
 retL h.length K [] [v146] h143)) ∧ ((((1 * 1 : Nat) ≤ 16777216 ∧ (1 : Nat) ≤ 16777216 ∧ List.length [(Value.int .u8 0)] = 1) ∧ aFill (zrep [(Value.int .u8 0)] 1) [(0, 1, a3)] fun c147 =>
 aNewS 1 c147 h11 fun v148 h149 =>
(aSlStr a0 none (some v8) fun v150 =>
 aB2S v148 h149 fun v151 =>
 aBin prog .add 9 v150 v151 fun v152 =>
 aBin prog .add 9 v152 v139 fun v153 =>
 retL h.length K [] [v153] h149) ∧ (aB2S v148 h149 fun v154 =>
 aSlStr a0 none (some v8) fun v155 =>
 aBin prog .add 9 v155 v154 fun v156 =>
 aBin prog .add 9 v156 v139 fun v157 =>
 retL h.length K [] [v157] h149)))))))) := top_eq pok56 ct56 (by kernel_rfl)
theorem g56 (hJ : Closed prog main J) {a0 a1 a2 a3 : Value} (hs : heapOk h → W prog J 57 h.length 56 (codeOf f56) (RG.mk (regs [a0, a1, a2, a3]) []) h (RetQ prog [.tmp 8] h.length K)) : Good prog J 56 [a0, a1, a2, a3] h K :=
 good_of_W hJ mixed at56 body56 (by kernel_rfl) (Nat.le_of_ble_eq_true rfl) hs
theorem at101 : prog.funcs[101]? = some f101 := by kernel_rfl
theorem body101 : f101.body = some (codeOf f101) := by kernel_rfl
def pl101 : Plans := []
def ct101 : Cuts := .go
theorem pok101 : plansOk prog pl101 (codeOf f101) = true := by kernel_rfl
theorem e101 {a0 a1 : Value} : W prog J 16 h.length 101 (codeOf f101) (RG.mk (regs [a0, a1]) []) h (RetQ prog [.tmp 4] h.length K) =
(aBin prog .lss 3 a1 (vint 1) fun v1 =>
 cnd v1
(retL h.length K [] [(vint 0)] h)
(aBin prog .rem 3 a0 a1 fun v2 =>
 aBin prog .lss 3 v2 (vint 0) fun v3 =>
 cnd v3
(aBin prog .add 3 v2 a1 fun v4 =>
 retL h.length K [] [v4] h)
(retL h.length K [] [v2] h))) := top_eq pok101 ct101 (by kernel_rfl)
theorem g101 (hJ : Closed prog main J) {a0 a1 : Value} (hs : heapOk h → W prog J 16 h.length 101 (codeOf f101) (RG.mk (regs [a0, a1]) []) h (RetQ prog [.tmp 4] h.length K)) : Good prog J 101 [a0, a1] h K :=
 good_of_W hJ mixed at101 body101 (by kernel_rfl) (Nat.le_of_ble_eq_true rfl) hs
end
section
variable {main : Bool} {J : JT} {n0 : Nat} {h : List AObj} {K : Value → List AObj → Prop}
theorem at58 : prog.funcs[58]? = some f58 := by kernel_rfl
theorem body58 : f58.body = some (codeOf f58) := by kernel_rfl
def pl58 : Plans := []
def ct58 : Cuts := .go
theorem pok58 : plansOk prog pl58 (codeOf f58) = true := by kernel_rfl
theorem e58 {a0 a1 a2 : Value} : W prog J 23 h.length 58 (codeOf f58) (RG.mk (regs [a0, a1, a2]) []) h (RetQ prog [.tmp 6, .tmp 7] h.length K) =
(aBox a0 h fun v1 h2 =>
 aLoad true 6 v1 h2 fun v3 =>
 Good prog J 85 [v3, a1, a2] h2 fun v4 h5 =>
 aBin prog .neq 37 v4 (vint 0) fun v6 =>
 cnd v6
(retL h.length K [] [(Value.slice none 0 0), v4] h5)
(aAlloc [(Value.slice none 0 0)] h5 fun v7 h8 =>
 aLoad true 6 v1 h8 fun v9 =>
 aMkF 103 [] [v7] fun v10 =>
 Good prog J 86 [v9, a1, a2, v10] h8 fun v11 h12 =>
 aLoad false 1 v7 h12 fun v13 =>
 retL h.length K [] [v13, (vint 0)] h12)) := top_eq pok58 ct58 (by kernel_rfl)
theorem g58 (hJ : Closed prog main J) {a0 a1 a2 : Value} (hs : heapOk h → W prog J 23 h.length 58 (codeOf f58) (RG.mk (regs [a0, a1, a2]) []) h (RetQ prog [.tmp 6, .tmp 7] h.length K)) : Good prog J 58 [a0, a1, a2] h K :=
 good_of_W hJ mixed at58 body58 (by kernel_rfl) (Nat.le_of_ble_eq_true rfl) hs
theorem at103 : prog.funcs[103]? = some f103 := by kernel_rfl
theorem body103 : f103.body = some (codeOf f103) := by kernel_rfl
def pl103 : Plans := []
def ct103 : Cuts := .go
theorem pok103 : plansOk prog pl103 (codeOf f103) = true := by kernel_rfl
theorem e103 {a0 a1 a2 a3 a4 : Value} : W prog J 14 h.length 103 (codeOf f103) (RG.mk (regs [a0, a1, a2, a3, a4]) []) h (RetQ prog [] h.length K) =
(cnd a3
(aLoad false 1 a4 h fun v1 =>
(((1 * 1 : Nat) ≤ 16777216 ∧ (1 : Nat) ≤ 16777216 ∧ List.length [(vint 0)] = 1) ∧ aFill (zrep [(vint 0)] 1) [(0, 1, a0)] fun c2 =>
 aNewS 1 c2 h fun v3 h4 =>
((List.length [(vint 0)] = 1 ∧ 0 < (1 : Nat) ∧ 0 < (8 : Nat) ∧ (8 : Nat) ≤ 1024) ∧ aApp 1 v1 v3 h4 fun v5 h6 =>
 aStore 1 a4 v5 h6 fun h7 =>
 retL h.length K [] [] h7)))
(retL h.length K [] [] h)) := top_eq pok103 ct103 (by kernel_rfl)
theorem g103 (hJ : Closed prog main J) {a0 a1 a2 a3 a4 : Value} (hs : heapOk h → W prog J 14 h.length 103 (codeOf f103) (RG.mk (regs [a0, a1, a2, a3, a4]) []) h (RetQ prog [] h.length K)) : Good prog J 103 [a0, a1, a2, a3, a4] h K :=
 good_of_W hJ mixed at103 body103 (by kernel_rfl) (Nat.le_of_ble_eq_true rfl) hs
theorem at43 : prog.funcs[43]? = some f43 := by kernel_rfl
theorem body43 : f43.body = some (codeOf f43) := by kernel_rfl
def pl43 : Plans := []
def ct43 : Cuts := .go
theorem pok43 : plansOk prog pl43 (codeOf f43) = true := by kernel_rfl
theorem e43 {a0 a1 a2 : Value} : W prog J 23 h.length 43 (codeOf f43) (RG.mk (regs [a0, a1, a2]) []) h (RetQ prog [.tmp 6, .tmp 7] h.length K) =
(aBox a0 h fun v1 h2 =>
 aLoad true 6 v1 h2 fun v3 =>
 Good prog J 85 [v3, a1, a2] h2 fun v4 h5 =>
 aBin prog .neq 37 v4 (vint 0) fun v6 =>
 cnd v6
(retL h.length K [] [(Value.slice none 0 0), v4] h5)
(aAlloc [(Value.slice none 0 0)] h5 fun v7 h8 =>
 aLoad true 6 v1 h8 fun v9 =>
 aMkF 94 [] [v7] fun v10 =>
 Good prog J 86 [v9, a1, a2, v10] h8 fun v11 h12 =>
 aLoad false 1 v7 h12 fun v13 =>
 retL h.length K [] [v13, (vint 0)] h12)) := top_eq pok43 ct43 (by kernel_rfl)
theorem g43 (hJ : Closed prog main J) {a0 a1 a2 : Value} (hs : heapOk h → W prog J 23 h.length 43 (codeOf f43) (RG.mk (regs [a0, a1, a2]) []) h (RetQ prog [.tmp 6, .tmp 7] h.length K)) : Good prog J 43 [a0, a1, a2] h K :=
 good_of_W hJ mixed at43 body43 (by kernel_rfl) (Nat.le_of_ble_eq_true rfl) hs
theorem at94 : prog.funcs[94]? = some f94 := by kernel_rfl
theorem body94 : f94.body = some (codeOf f94) := by kernel_rfl
def pl94 : Plans := []
def ct94 : Cuts := .go
theorem pok94 : plansOk prog pl94 (codeOf f94) = true := by kernel_rfl
theorem e94 {a0 a1 a2 a3 a4 : Value} : W prog J 14 h.length 94 (codeOf f94) (RG.mk (regs [a0, a1, a2, a3, a4]) []) h (RetQ prog [] h.length K) =
(cnd a2
(aLoad false 1 a4 h fun v1 =>
(((1 * 1 : Nat) ≤ 16777216 ∧ (1 : Nat) ≤ 16777216 ∧ List.length [(vint 0)] = 1) ∧ aFill (zrep [(vint 0)] 1) [(0, 1, a0)] fun c2 =>
 aNewS 1 c2 h fun v3 h4 =>
((List.length [(vint 0)] = 1 ∧ 0 < (1 : Nat) ∧ 0 < (8 : Nat) ∧ (8 : Nat) ≤ 1024) ∧ aApp 1 v1 v3 h4 fun v5 h6 =>
 aStore 1 a4 v5 h6 fun h7 =>
 retL h.length K [] [] h7)))
(retL h.length K [] [] h)) := top_eq pok94 ct94 (by kernel_rfl)
theorem g94 (hJ : Closed prog main J) {a0 a1 a2 a3 a4 : Value} (hs : heapOk h → W prog J 14 h.length 94 (codeOf f94) (RG.mk (regs [a0, a1, a2, a3, a4]) []) h (RetQ prog [] h.length K)) : Good prog J 94 [a0, a1, a2, a3, a4] h K :=
 good_of_W hJ mixed at94 body94 (by kernel_rfl) (Nat.le_of_ble_eq_true rfl) hs
end
end Go.Proofs.Ythnccaajpdnndaa
namespace Go.Proofs.Ythnccaajpdnndaa
open Go.Conc Go.Proofs.Try
set_option maxRecDepth 100000
section
variable {main : Bool} {J : JT} {h H : List AObj} {K : Value → List AObj → Prop} {KV : Value → Prop} {HL : List AObj → Prop} {n0 : Nat}
theorem good103 (hJ : Closed prog main J) {q j : Nat} {b : Bool} {a1 a2 v : Value} {xs : List Int} {o : Option Nat} (hq : H[q]? = some (.cells [v] true 0)) (O : OwnX H 1 (xs.map vint) xs.length v o) (hne : o ≠ some q) (hk : xs.length < 100000)
  (hK : ∀ H' v' o', SameX (q :: o.toList) H H' → H'[q]? = some (.cells [v'] true 0) → OwnX H' 1 ((xs ++ if b = true then [(j : Int)] else []).map vint) (xs ++ if b = true then [(j : Int)] else []).length v' o' → o' ≠ some q → (∀ i, o' = some i → o = some i ∨ H.length ≤ i) → K (pack []) H') : Good prog J 103 [vint (j : Nat), a1, a2, .bool b, ptr q 0] H K := by
 refine g103 hJ fun ok => ?_
 rw [e103]
 have kv := (ownX_val O).2.2
 refine cndB (fun hb => ?_) fun hb => ?_
 ·rw [hb, if_pos rfl] at hK
  refine ldI (v := v) hq rfl kv ⟨⟨by decide, by decide, rfl⟩, fillO (l := [vint (j : Nat)]) rfl rfl rfl (by decide) (fillI (qNew fun H1 p1 e1 S1 c1 l1 => ?_))⟩
  have hq1 := S1.get hq (by simp)
  have lq := lt_of_get hq
  refine ⟨⟨rfl, by decide, by decide, by decide⟩, ownX_more (ownX_keep O S1 (by simp)) (by decide) hk (e := [vint (j : Nat)]) ⟨_, _, rfl, ⟨rfl, rfl⟩, .inr ⟨p1, 0, rfl, .inr ⟨_, _, _, c1, rfl⟩⟩⟩ fun v' H2 p2 e2 O2 S2 => ?_⟩
  have hq2 : H2[q]? = some (.cells [v] true 0) := S2.get hq1 (by
   cases o with
   | none => simp
   | some i => simp; exact fun e => hne (by rw [e]))
  have vv := ownX_val O2
  refine qSt hq2 (by simp) vv.1 vv.2.1 fun H3 S3 c3 l3 => retL_same (by simp) (hK H3 v' (some p2) ?_ c3 ?_ (by simp; omega) fun i hi => by cases hi; right; omega)
  ·refine ((S1.weak0.thru S2 fun y hy => .inl (by simp [hy])).thru S3 fun y hy => .inl (by simp at hy; simp [hy]) : SameX (q :: o.toList) H H3)
  ·rw [List.map_append, List.length_append]
   exact ownX_keep O2 S3 (fun i hi => by cases hi; simp; omega)
 ·rw [hb, if_neg (by decide), List.append_nil] at hK
  exact retL_same (by simp) (hK H v o SameX.refl hq O hne fun i hi => .inl hi)
theorem good58 (hJ : Closed prog main J) {p : Pas} {heads : List Int} {w : List UInt8} {hv : Value} (sh : Sli H hv 1 heads.length (heads.map vint)) (hl : heads.length < 1000000) (hw : w.length ≤ 1000000)
  (hK0 : askE p heads w ≠ 0 → ∀ H', SameX [] H H' → K (.tuple ⟨[.slice none 0 0, vint (askE p heads w)]⟩) H')
  (hK1 : askE p heads w = 0 → ∀ H' v, SameX [] H H' → Sli H' v 1 (daysR (shortAt p heads w) w.length).length ((daysR (shortAt p heads w) w.length).map vint) → K (.tuple ⟨[v, vint 0]⟩) H') : Good prog J 58 [.agg ⟨p.cells⟩, hv, strV w] H K := by
 refine g58 hJ fun ok => ?_
 rw [e58]
 refine qBox (l := p.cells) rfl fun H1 p1 e1 S1 c1 l1 => load_part (c := p.cells) c1 (by simp [Pas.cells]) rfl rfl ?_
 refine good85 hJ (S1.sli sh (by simp)) hl hw fun H2 S2 => neqI (cndI (fun h1 => retL_same (by simp [unk]) (hK0 h1 H2 (S1.trans S2))) fun h1 => ?_)
 have h1 := Classical.not_not.1 h1
 obtain ⟨fp, fw, fl, fh, fo⟩ := askE_ok h1
 have T2 := S1.trans S2
 refine qAl fun H3 q e3 S3 c3 l3 => load_part (c := p.cells) (S3.get (S2.get c1 (by simp)) (by simp)) (by simp [Pas.cells]) rfl rfl ⟨rfl, ?_⟩
 have T3 := T2.trans S3
 have hqH : H.length ≤ q := by
  have := T2.1
  omega
 refine good86 hJ fp fh T3 sh (by omega) (by omega) (O0 := [q]) (fun x hx => by rw [List.mem_singleton.1 hx]; exact hqH)
  (I := fun k O H1 => ∃ v o, H1[q]? = some (.cells [v] true 0) ∧ OwnX H1 1 ((daysR (shortAt p heads w) k).map vint) (daysR (shortAt p heads w) k).length v o ∧ o ≠ some q ∧ O = q :: o.toList)
  ⟨_, none, c3, ⟨rfl, rfl, .inl ⟨rfl, rfl, rfl⟩⟩, by simp, rfl⟩ (fun k O H1 ⟨v, o, hq, ho, hne, e⟩ x hx => ?_) (fun k O H1 H2 X ⟨v, o, hq, ho, hne, e⟩ S hX => ?_) (fun k O H1 K1 ⟨v, o, hq, ho, hne, e⟩ hk hk1 => ?_) fun O H' ⟨v, o, hq, ho, hne, e⟩ S => ?_
 ·rw [e] at hx
  rcases List.mem_cons.1 hx with rfl | hx
  ·exact lt_of_get hq
  ·exact ownX_lt ho x (by simpa using hx)
 ·refine ⟨v, o, S.get hq (hX q (by rw [e]; simp)), ownX_keep ho S (fun i hi => hX i (by rw [e, hi]; simp)), hne, e⟩
 ·have hf := daysR_few (q := shortAt p heads w) (k := k)
  refine callCz (by kernel_rfl) (good103 hJ hq ho hne (by omega) fun H2 v' o' S' hq' ho' hne' hnew => hk1 (q :: o'.toList) H2 _ ⟨v', o', hq', by rw [daysR_succ]; exact ho', hne', rfl⟩ (by rw [e]; exact S') fun x hx => ?_)
  rcases List.mem_cons.1 hx with rfl | hx
  ·exact .inl (by rw [e]; simp)
  ·rcases hnew x (by simpa using hx) with h | h
   ·exact .inl (by rw [e, h]; simp)
   ·exact .inr h
 ·have kv := (ownX_val ho).2.2
  refine ldI (v := v) hq rfl kv (retL_same ?_ (hK1 h1 H' v ?_ (ownX_sli ho)))
  ·intro x hx
   simp only [List.mem_cons, List.not_mem_nil, or_false] at hx
   rcases hx with rfl | rfl
   ·exact ownU ho
   ·simp [unk]
  ·exact T3.thru S fun x hx => .inr (by rw [List.mem_singleton.1 hx]; exact hqH)
theorem good94 (hJ : Closed prog main J) {q j : Nat} {b : Bool} {a1 a2 v : Value} {xs : List Int} {o : Option Nat} (hq : H[q]? = some (.cells [v] true 0)) (O : OwnX H 1 (xs.map vint) xs.length v o) (hne : o ≠ some q) (hk : xs.length < 100000)
  (hK : ∀ H' v' o', SameX (q :: o.toList) H H' → H'[q]? = some (.cells [v'] true 0) → OwnX H' 1 ((xs ++ if b = true then [(j : Int)] else []).map vint) (xs ++ if b = true then [(j : Int)] else []).length v' o' → o' ≠ some q → (∀ i, o' = some i → o = some i ∨ H.length ≤ i) → K (pack []) H') : Good prog J 94 [vint (j : Nat), a1, .bool b, a2, ptr q 0] H K := by
 refine g94 hJ fun ok => ?_
 rw [e94]
 have kv := (ownX_val O).2.2
 refine cndB (fun hb => ?_) fun hb => ?_
 ·rw [hb, if_pos rfl] at hK
  refine ldI (v := v) hq rfl kv ⟨⟨by decide, by decide, rfl⟩, fillO (l := [vint (j : Nat)]) rfl rfl rfl (by decide) (fillI (qNew fun H1 p1 e1 S1 c1 l1 => ?_))⟩
  have hq1 := S1.get hq (by simp)
  have lq := lt_of_get hq
  refine ⟨⟨rfl, by decide, by decide, by decide⟩, ownX_more (ownX_keep O S1 (by simp)) (by decide) hk (e := [vint (j : Nat)]) ⟨_, _, rfl, ⟨rfl, rfl⟩, .inr ⟨p1, 0, rfl, .inr ⟨_, _, _, c1, rfl⟩⟩⟩ fun v' H2 p2 e2 O2 S2 => ?_⟩
  have hq2 : H2[q]? = some (.cells [v] true 0) := S2.get hq1 (by
   cases o with
   | none => simp
   | some i => simp; exact fun e => hne (by rw [e]))
  have vv := ownX_val O2
  refine qSt hq2 (by simp) vv.1 vv.2.1 fun H3 S3 c3 l3 => retL_same (by simp) (hK H3 v' (some p2) ?_ c3 ?_ (by simp; omega) fun i hi => by cases hi; right; omega)
  ·refine ((S1.weak0.thru S2 fun y hy => .inl (by simp [hy])).thru S3 fun y hy => .inl (by simp at hy; simp [hy]) : SameX (q :: o.toList) H H3)
  ·rw [List.map_append, List.length_append]
   exact ownX_keep O2 S3 (fun i hi => by cases hi; simp; omega)
 ·rw [hb, if_neg (by decide), List.append_nil] at hK
  exact retL_same (by simp) (hK H v o SameX.refl hq O hne fun i hi => .inl hi)
theorem good43 (hJ : Closed prog main J) {p : Pas} {heads : List Int} {w : List UInt8} {hv : Value} (sh : Sli H hv 1 heads.length (heads.map vint)) (hl : heads.length < 1000000) (hw : w.length ≤ 1000000)
  (hK0 : askE p heads w ≠ 0 → ∀ H', SameX [] H H' → K (.tuple ⟨[.slice none 0 0, vint (askE p heads w)]⟩) H')
  (hK1 : askE p heads w = 0 → ∀ H' v, SameX [] H H' → Sli H' v 1 (daysR (hungAt p heads w) w.length).length ((daysR (hungAt p heads w) w.length).map vint) → K (.tuple ⟨[v, vint 0]⟩) H') : Good prog J 43 [.agg ⟨p.cells⟩, hv, strV w] H K := by
 refine g43 hJ fun ok => ?_
 rw [e43]
 refine qBox (l := p.cells) rfl fun H1 p1 e1 S1 c1 l1 => load_part (c := p.cells) c1 (by simp [Pas.cells]) rfl rfl ?_
 refine good85 hJ (S1.sli sh (by simp)) hl hw fun H2 S2 => neqI (cndI (fun h1 => retL_same (by simp [unk]) (hK0 h1 H2 (S1.trans S2))) fun h1 => ?_)
 have h1 := Classical.not_not.1 h1
 obtain ⟨fp, fw, fl, fh, fo⟩ := askE_ok h1
 have T2 := S1.trans S2
 refine qAl fun H3 q e3 S3 c3 l3 => load_part (c := p.cells) (S3.get (S2.get c1 (by simp)) (by simp)) (by simp [Pas.cells]) rfl rfl ⟨rfl, ?_⟩
 have T3 := T2.trans S3
 have hqH : H.length ≤ q := by
  have := T2.1
  omega
 refine good86 hJ fp fh T3 sh (by omega) (by omega) (O0 := [q]) (fun x hx => by rw [List.mem_singleton.1 hx]; exact hqH)
  (I := fun k O H1 => ∃ v o, H1[q]? = some (.cells [v] true 0) ∧ OwnX H1 1 ((daysR (hungAt p heads w) k).map vint) (daysR (hungAt p heads w) k).length v o ∧ o ≠ some q ∧ O = q :: o.toList)
  ⟨_, none, c3, ⟨rfl, rfl, .inl ⟨rfl, rfl, rfl⟩⟩, by simp, rfl⟩ (fun k O H1 ⟨v, o, hq, ho, hne, e⟩ x hx => ?_) (fun k O H1 H2 X ⟨v, o, hq, ho, hne, e⟩ S hX => ?_) (fun k O H1 K1 ⟨v, o, hq, ho, hne, e⟩ hk hk1 => ?_) fun O H' ⟨v, o, hq, ho, hne, e⟩ S => ?_
 ·rw [e] at hx
  rcases List.mem_cons.1 hx with rfl | hx
  ·exact lt_of_get hq
  ·exact ownX_lt ho x (by simpa using hx)
 ·refine ⟨v, o, S.get hq (hX q (by rw [e]; simp)), ownX_keep ho S (fun i hi => hX i (by rw [e, hi]; simp)), hne, e⟩
 ·have hf := daysR_few (q := hungAt p heads w) (k := k)
  refine callCz (by kernel_rfl) (good94 hJ hq ho hne (by omega) fun H2 v' o' S' hq' ho' hne' hnew => hk1 (q :: o'.toList) H2 _ ⟨v', o', hq', by rw [daysR_succ]; exact ho', hne', rfl⟩ (by rw [e]; exact S') fun x hx => ?_)
  rcases List.mem_cons.1 hx with rfl | hx
  ·exact .inl (by rw [e]; simp)
  ·rcases hnew x (by simpa using hx) with h | h
   ·exact .inl (by rw [e, h]; simp)
   ·exact .inr h
 ·have kv := (ownX_val ho).2.2
  refine ldI (v := v) hq rfl kv (retL_same ?_ (hK1 h1 H' v ?_ (ownX_sli ho)))
  ·intro x hx
   simp only [List.mem_cons, List.not_mem_nil, or_false] at hx
   rcases hx with rfl | rfl
   ·exact ownU ho
   ·simp [unk]
  ·exact T3.thru S fun x hx => .inr (by rw [List.mem_singleton.1 hx]; exact hqH)
end
end Go.Proofs.Ythnccaajpdnndaa
namespace Go.Proofs.Ythnccaajpdnndaa
open Go.Conc Go.Proofs.Try
set_option maxRecDepth 100000
set_option maxHeartbeats 4000000
set_option linter.unusedVariables false
section
variable {main : Bool} {J : JT} {n0 : Nat} {h : List AObj} {K : Value → List AObj → Prop}
theorem at132 : prog.funcs[132]? = some f132 := by kernel_rfl
theorem body132 : f132.body = some (codeOf f132) := by kernel_rfl
def pl132 : Plans := []
def ct132 : Cuts := .go
theorem pok132 : plansOk prog pl132 (codeOf f132) = true := by kernel_rfl
theorem e132 {a0 a1 : Value} : W prog J 26 h.length 132 (codeOf f132) (RG.mk (regs [a0, a1]) []) h (RetQ prog [.tmp 4] h.length K) =
(aLenS a0 fun v1 =>
 aBin prog .lss 3 v1 a1 fun v2 =>
 cnd v2
(retL h.length K [] [(vint 7)] h)
(aLenS a0 fun v3 =>
 aBin prog .gtr 3 v3 a1 fun v4 =>
 cnd v4
(retL h.length K [] [(vint 6)] h)
(Sem J 26 h.length 132 (subC [1, 1, 1, 0, 1, 0] (codeOf f132)) (RG.p (RG.p (RG.p (RG.p (RG.p (RG.p (RG.p (RG.p (RG.p (RG.p (RG.mk (regs [a0, a1]) []) 4 (vint 0)) 6 a0) 7 v1) 8 a1) 9 v2) 10 a0) 11 v3) 12 a1) 13 v4) 5 (vint 0)) h (contX pl132 prog J 26 h.length 132 ct132 [1, 1, 1, 0, 1, 0] (codeOf f132) [] (RetQ prog [.tmp 4] h.length K))))) := top_eq pok132 ct132 (by kernel_rfl)
theorem g132 (hJ : Closed prog main J) {a0 a1 : Value} (hs : heapOk h → W prog J 26 h.length 132 (codeOf f132) (RG.mk (regs [a0, a1]) []) h (RetQ prog [.tmp 4] h.length K)) : Good prog J 132 [a0, a1] h K :=
 good_of_W hJ mixed at132 body132 (by kernel_rfl) (Nat.le_of_ble_eq_true rfl) hs
theorem s132_1 {f : RG} {nx0 : RG → List AObj → Prop} : W prog J 26 n0 132 (subC [1, 1, 1, 0, 1, 0, 0] (codeOf f132)) f h (thenK nx0 (contX pl132 prog J 26 n0 132 ct132 [1, 1, 1, 0, 1, 0] (codeOf f132) [] (RetQ prog [.tmp 4] n0 K))) =
(aLenS (f.r 0) fun v1 =>
 aBin prog .lss 3 (f.r 5) v1 fun v2 =>
 cnd v2
(aIdx 1 (f.r 0) (f.r 5) fun v3 =>
 aLoad false 1 v3 h fun v4 =>
 Good prog J 82 [v4, (vint 0), (vint 40)] h fun v5 h6 =>
 aUn .not v5 fun v7 =>
 cnd v7
(retL n0 K f.ds [(vint 1)] h6)
(aBin prog .add 3 (f.r 5) (vint 1) fun v8 =>
 nx0 (RG.p (RG.p (RG.p (RG.p (RG.p (RG.p (RG.p (RG.p (RG.p (RG.p (RG.p (RG.p (RG.p f 14 (f.r 5)) 15 (f.r 0)) 16 v1) 17 v2) 20 (f.r 0)) 21 (f.r 5)) 22 v3) 23 v4) 24 v5) 25 v7) 18 (f.r 5)) 19 v8) 5 v8) h6))
(retL n0 K f.ds [(vint 0)] h)) := sub_eq pok132 ct132 (by kernel_rfl)
theorem l132_1 (hJ : Closed prog main J) {S : Type} (μ : S → Nat) (I : S → RG → List AObj → Prop) (hI : ∀ s f h, I s f h → heapOk h → n0 ≤ h.length → W prog J 26 n0 132 (subC [1, 1, 1, 0, 1, 0, 0] (codeOf f132)) f h (thenK (Nx n0 μ I s) (contX pl132 prog J 26 n0 132 ct132 [1, 1, 1, 0, 1, 0] (codeOf f132) [] (RetQ prog [.tmp 4] n0 K))))
 {s : S} {f : RG} (hi : Gets n0 I s f h) : Sem J 26 n0 132 (subC [1, 1, 1, 0, 1, 0] (codeOf f132)) f h (contX pl132 prog J 26 n0 132 ct132 [1, 1, 1, 0, 1, 0] (codeOf f132) [] (RetQ prog [.tmp 4] n0 K)) :=
 loop_rule hJ mixed (b := subC [1, 1, 1, 0, 1, 0, 0] (codeOf f132)) (by kernel_rfl) μ I hI hi
end
section
variable {main : Bool} {J : JT} {n0 : Nat} {h : List AObj} {K : Value → List AObj → Prop}
def pl20 : Plans := [(9, true, .take 0 (.take 1 (.take 2 (.take 3 (.take 4 (.fin)))))),
 (13, true, .take 0 (.take 1 (.take 2 (.take 3 (.take 4 (.take 5 (.last 6 false (.take 7 (.take 8 (.take 9 (.take 10 (.take 11 (.fin))))))))))))),
 (19, true, .take 0 (.take 1 (.take 2 (.take 3 (.take 4 (.take 5 (.take 6 (.take 7 (.take 8 (.fin))))))))))]
def ct20 : Cuts := .bin (.go) (.bin (.go) (.bin (.go) (.bin (.go) (.bin (.go) (.bin (.go) (.bin (.go) (.bin (.bin (.go) (.cut (.go))) (.go))))))))
theorem pok20 : plansOk prog pl20 (codeOf f20) = true := by kernel_rfl
theorem e20 {a0 : Value} : W prog J 145 h.length 20 (codeOf f20) (RG.mk (regs [a0]) []) h (RetQ prog [.tmp 2] h.length K) =
(Good prog J 22 [a0] h fun v1 h2 =>
 Good prog J 24 [v1] h2 fun v3 h4 =>
 Good prog J 25 [v1, (vint 7)] h4 fun v5 h6 =>
 aAlloc [(vint 0), (vint 0), (vint 0), (vint 0), (vint 0), (vint 0)] h6 fun v7 h8 =>
 aAlloc [(vint 0), (vint 0), (vint 0)] h8 fun v9 h10 =>
 aStore 6 v7 v3 h10 fun h11 =>
 aStore 3 v9 v5 h11 fun h12 =>
 aOff v9 0 fun v13 =>
 aLoad false 1 v13 h12 fun v14 =>
 Good prog J 30 [v1, v14, (vint 12)] h12 fun v15 h16 =>
 aLoad true 6 v7 h16 fun v17 =>
 aLoad true 3 v9 h16 fun v18 =>
 Good prog J 49 [v17, v15, v18] h16 fun v19 h20 =>
 aExt v19 0 fun v21 =>
 aExt v19 1 fun v22 =>
 aLoad true 6 v7 h20 fun v23 =>
 aLoad true 3 v9 h20 fun v24 =>
 Good prog J 51 [v23, v15, v24] h20 fun v25 h26 =>
 aExt v25 0 fun v27 =>
 aExt v25 1 fun v28 =>
 aExt v25 2 fun v29 =>
 aLoad true 3 v9 h26 fun v30 =>
 Good prog J 34 [v30] h26 fun v31 h32 =>
 aExt v31 0 fun v33 =>
 aExt v31 1 fun v34 =>
 aBin prog .neq 37 v22 (vint 0) fun v35 =>
 cnd v35
(Hold (W prog J 145 h.length 20 (subC [1, 1, 1, 1, 1, 1, 1, 0, 1] (codeOf f20)) (RG.p (RG.p (RG.p (RG.p (RG.p (RG.p (RG.p (RG.p (RG.p (RG.p (RG.p (RG.p (RG.p (RG.p (RG.p (RG.p (RG.p (RG.p (RG.p (RG.p (RG.p (RG.p (RG.p (RG.p (RG.p (RG.p (RG.p (RG.p (RG.p (RG.p (RG.p (RG.p (RG.p (RG.p (RG.p (RG.p (RG.p (RG.p (RG.p (RG.p (RG.p (RG.p (RG.p (RG.p (RG.p (RG.p (RG.p (RG.p (RG.p (RG.p (RG.p (RG.p (RG.p (RG.p (RG.p (RG.p (RG.p (RG.p (RG.mk (regs [a0]) []) 2 (Value.bool false)) 20 a0) 21 v1) 3 v1) 22 v1) 23 v3) 24 v1) 25 v5) 4 v7) 5 v9) 26 v1) 27 v13) 28 v14) 29 v15) 6 v15) 31 v17) 32 v15) 33 v18) 34 v19) 30 v19) 35 v21) 36 v22) 7 v21) 8 v22) 38 v23) 39 v15) 40 v24) 41 v25) 37 v25) 42 v27) 43 v28) 44 v29) 9 v27) 10 v28) 11 v29) 46 v30) 47 v31) 45 v31) 48 v33) 49 v34) 12 v33) 13 v34) 50 v22) 51 v35) 52 v35) 52 (Value.bool true)) 53 undef) 54 undef) 55 (Value.bool true)) 56 (Value.bool true)) 56 (Value.bool true)) 57 undef) 58 undef) 59 undef) 60 undef) 61 undef) 62 undef) 63 (Value.bool true)) h32 (contX pl20 prog J 145 h.length 20 ct20 [1, 1, 1, 1, 1, 1, 1, 0, 1] (codeOf f20) [] (RetQ prog [.tmp 2] h.length K))))
(aBin prog .neq 37 v34 (vint 0) fun v36 =>
 cnd v36
(Hold (W prog J 145 h.length 20 (subC [1, 1, 1, 1, 1, 1, 1, 0, 1] (codeOf f20)) (RG.p (RG.p (RG.p (RG.p (RG.p (RG.p (RG.p (RG.p (RG.p (RG.p (RG.p (RG.p (RG.p (RG.p (RG.p (RG.p (RG.p (RG.p (RG.p (RG.p (RG.p (RG.p (RG.p (RG.p (RG.p (RG.p (RG.p (RG.p (RG.p (RG.p (RG.p (RG.p (RG.p (RG.p (RG.p (RG.p (RG.p (RG.p (RG.p (RG.p (RG.p (RG.p (RG.p (RG.p (RG.p (RG.p (RG.p (RG.p (RG.p (RG.p (RG.p (RG.p (RG.p (RG.p (RG.p (RG.p (RG.p (RG.p (RG.mk (regs [a0]) []) 2 (Value.bool false)) 20 a0) 21 v1) 3 v1) 22 v1) 23 v3) 24 v1) 25 v5) 4 v7) 5 v9) 26 v1) 27 v13) 28 v14) 29 v15) 6 v15) 31 v17) 32 v15) 33 v18) 34 v19) 30 v19) 35 v21) 36 v22) 7 v21) 8 v22) 38 v23) 39 v15) 40 v24) 41 v25) 37 v25) 42 v27) 43 v28) 44 v29) 9 v27) 10 v28) 11 v29) 46 v30) 47 v31) 45 v31) 48 v33) 49 v34) 12 v33) 13 v34) 50 v22) 51 v35) 52 v35) 52 (Value.bool false)) 53 v34) 54 v36) 55 v36) 56 v36) 56 (Value.bool true)) 57 undef) 58 undef) 59 undef) 60 undef) 61 undef) 62 undef) 63 (Value.bool true)) h32 (contX pl20 prog J 145 h.length 20 ct20 [1, 1, 1, 1, 1, 1, 1, 0, 1] (codeOf f20) [] (RetQ prog [.tmp 2] h.length K))))
(aBin prog .neq 37 v29 (vint 0) fun v37 =>
 cnd v37
(aBin prog .neq 37 v29 (vint 11) fun v38 =>
 Hold (W prog J 145 h.length 20 (subC [1, 1, 1, 1, 1, 1, 1, 0, 1] (codeOf f20)) (RG.p (RG.p (RG.p (RG.p (RG.p (RG.p (RG.p (RG.p (RG.p (RG.p (RG.p (RG.p (RG.p (RG.p (RG.p (RG.p (RG.p (RG.p (RG.p (RG.p (RG.p (RG.p (RG.p (RG.p (RG.p (RG.p (RG.p (RG.p (RG.p (RG.p (RG.p (RG.p (RG.p (RG.p (RG.p (RG.p (RG.p (RG.p (RG.p (RG.p (RG.p (RG.p (RG.p (RG.p (RG.p (RG.p (RG.p (RG.p (RG.p (RG.p (RG.p (RG.p (RG.p (RG.p (RG.p (RG.p (RG.p (RG.p (RG.p (RG.mk (regs [a0]) []) 2 (Value.bool false)) 20 a0) 21 v1) 3 v1) 22 v1) 23 v3) 24 v1) 25 v5) 4 v7) 5 v9) 26 v1) 27 v13) 28 v14) 29 v15) 6 v15) 31 v17) 32 v15) 33 v18) 34 v19) 30 v19) 35 v21) 36 v22) 7 v21) 8 v22) 38 v23) 39 v15) 40 v24) 41 v25) 37 v25) 42 v27) 43 v28) 44 v29) 9 v27) 10 v28) 11 v29) 46 v30) 47 v31) 45 v31) 48 v33) 49 v34) 12 v33) 13 v34) 50 v22) 51 v35) 52 v35) 52 (Value.bool false)) 53 v34) 54 v36) 55 v36) 56 v36) 56 (Value.bool false)) 57 v29) 58 v37) 59 v37) 59 (Value.bool true)) 60 v29) 61 v38) 62 v38) 63 v38) h32 (contX pl20 prog J 145 h.length 20 ct20 [1, 1, 1, 1, 1, 1, 1, 0, 1] (codeOf f20) [] (RetQ prog [.tmp 2] h.length K))))
(Hold (W prog J 145 h.length 20 (subC [1, 1, 1, 1, 1, 1, 1, 0, 1] (codeOf f20)) (RG.p (RG.p (RG.p (RG.p (RG.p (RG.p (RG.p (RG.p (RG.p (RG.p (RG.p (RG.p (RG.p (RG.p (RG.p (RG.p (RG.p (RG.p (RG.p (RG.p (RG.p (RG.p (RG.p (RG.p (RG.p (RG.p (RG.p (RG.p (RG.p (RG.p (RG.p (RG.p (RG.p (RG.p (RG.p (RG.p (RG.p (RG.p (RG.p (RG.p (RG.p (RG.p (RG.p (RG.p (RG.p (RG.p (RG.p (RG.p (RG.p (RG.p (RG.p (RG.p (RG.p (RG.p (RG.p (RG.p (RG.p (RG.p (RG.p (RG.mk (regs [a0]) []) 2 (Value.bool false)) 20 a0) 21 v1) 3 v1) 22 v1) 23 v3) 24 v1) 25 v5) 4 v7) 5 v9) 26 v1) 27 v13) 28 v14) 29 v15) 6 v15) 31 v17) 32 v15) 33 v18) 34 v19) 30 v19) 35 v21) 36 v22) 7 v21) 8 v22) 38 v23) 39 v15) 40 v24) 41 v25) 37 v25) 42 v27) 43 v28) 44 v29) 9 v27) 10 v28) 11 v29) 46 v30) 47 v31) 45 v31) 48 v33) 49 v34) 12 v33) 13 v34) 50 v22) 51 v35) 52 v35) 52 (Value.bool false)) 53 v34) 54 v36) 55 v36) 56 v36) 56 (Value.bool false)) 57 v29) 58 v37) 59 v37) 59 (Value.bool false)) 60 undef) 61 undef) 62 (Value.bool false)) 63 (Value.bool false)) h32 (contX pl20 prog J 145 h.length 20 ct20 [1, 1, 1, 1, 1, 1, 1, 0, 1] (codeOf f20) [] (RetQ prog [.tmp 2] h.length K))))))) := top_eq pok20 ct20 (by kernel_rfl)
end
section
variable {main : Bool} {J : JT} {n0 : Nat} {h : List AObj} {K : Value → List AObj → Prop}
def pl7 : Plans := [(10, false, .take 0 (.take 1 (.take 2 (.take 3 (.take 4 (.take 5 (.take 6 (.last 7 true (.take 8 (.take 9 (.take 10 (.take 11 (.take 12 (.take 13 (.take 14 (.take 15 (.last 16 true (.take 17 (.fin))))))))))))))))))),
 (11, true, .take 0 (.take 1 (.take 2 (.take 3 (.take 4 (.take 5 (.take 6 (.take 7 (.take 8 (.take 9 (.take 10 (.take 11 (.take 12 (.take 13 (.take 14 (.fin))))))))))))))))]
def ct7 : Cuts := .bin (.go) (.bin (.go) (.bin (.go) (.bin (.go) (.bin (.go) (.bin (.go) (.bin (.bin (.go) (.un (.un (.bin (.go) (.bin (.un (.bin (.bin (.go) (.cut (.go))) (.bin (.bin (.go) (.cut (.go))) (.go)))) (.go)))))) (.go)))))))
theorem pok7 : plansOk prog pl7 (codeOf f7) = true := by kernel_rfl
theorem e7 {a0 : Value} : W prog J 74 h.length 7 (codeOf f7) (RG.mk (regs [a0]) []) h (RetQ prog [.tmp 2] h.length K) =
(Good prog J 22 [a0] h fun v1 h2 =>
 Good prog J 25 [v1, (vint 8)] h2 fun v3 h4 =>
 aAlloc [(vint 0), (vint 0), (vint 0)] h4 fun v5 h6 =>
 aStore 3 v5 v3 h6 fun h7 =>
 aLoad true 3 v5 h7 fun v8 =>
 Good prog J 34 [v8] h7 fun v9 h10 =>
 aExt v9 0 fun v11 =>
 aExt v9 1 fun v12 =>
 aBin prog .neq 37 v12 (vint 0) fun v13 =>
 cnd v13
(retL h.length K [] [(Value.bool false)] h10)
(aOff v5 0 fun v14 =>
 aLoad false 1 v14 h10 fun v15 =>
 Good prog J 39 [v15] h10 fun v16 h17 =>
 Sem J 74 h.length 7 (subC [1, 1, 1, 1, 1, 1, 0, 1, 0] (codeOf f7)) (RG.p (RG.p (RG.p (RG.p (RG.p (RG.p (RG.p (RG.p (RG.p (RG.p (RG.p (RG.p (RG.p (RG.p (RG.p (RG.p (RG.p (RG.p (RG.p (RG.p (RG.mk (regs [a0]) []) 2 (Value.bool false)) 9 a0) 10 v1) 11 v3) 3 v5) 13 v8) 14 v9) 12 v9) 15 v11) 16 v12) 4 v11) 5 v12) 17 v12) 18 v13) 19 v14) 20 v15) 21 v16) 6 v16) 7 (vint 0)) 8 (vint 0)) h17 (contX pl7 prog J 74 h.length 7 ct7 [1, 1, 1, 1, 1, 1, 0, 1, 0] (codeOf f7) [] (RetQ prog [.tmp 2] h.length K)))) := top_eq pok7 ct7 (by kernel_rfl)
end
section
variable {main : Bool} {J : JT} {n0 : Nat} {h : List AObj} {K : Value → List AObj → Prop}
theorem at5 : prog.funcs[5]? = some f5 := by kernel_rfl
theorem body5 : f5.body = some (codeOf f5) := by kernel_rfl
def pl5 : Plans := [(3, false, .take 0 (.take 1 (.take 3 (.take 4 (.alt 2 true (.last 5 true (.last 6 false (.take 7 (.take 8 (.take 9 (.take 10 (.take 11 (.fin)))))))) (.last 5 true (.last 2 true (.last 6 false (.take 7 (.take 8 (.take 9 (.take 10 (.take 11 (.fin)))))))))))))),
 (10, true, .take 0 (.take 1 (.take 2 (.take 3 (.take 4 (.take 5 (.take 6 (.take 7 (.take 8 (.take 9 (.take 10 (.take 11 (.take 12 (.take 13 (.take 14 (.fin))))))))))))))))]
def ct5 : Cuts := .bin (.go) (.bin (.go) (.bin (.go) (.bin (.go) (.cut (.bin (.bin (.go) (.cut (.go))) (.bin (.go) (.bin (.bin (.go) (.un (.un (.bin (.go) (.bin (.un (.bin (.bin (.go) (.cut (.go))) (.go))) (.go)))))) (.go))))))))
theorem pok5 : plansOk prog pl5 (codeOf f5) = true := by kernel_rfl
theorem e5 {a0 : Value} : W prog J 61 h.length 5 (codeOf f5) (RG.mk (regs [a0]) []) h (RetQ prog [.tmp 2] h.length K) =
(Good prog J 22 [a0] h fun v1 h2 =>
 Good prog J 24 [v1] h2 fun v3 h4 =>
 Good prog J 23 [v1, (vint 1), (vint 8)] h4 fun v5 h6 =>
 aAlloc [(vint 0), (vint 0), (vint 0), (vint 0), (vint 0), (vint 0)] h6 fun v7 h8 =>
 aStore 6 v7 v3 h8 fun h9 =>
(∃ B, aLoad true 6 v7 h9 fun v10 =>
 RdOk (some B) (ptrBlk v7) ∧ ((((List.length [(vint 0)] = 1 ∧ (8 : Nat) ≤ 1024) ∧ aMkS [(vint 0)] v5 v5 h9 fun v11 h12 =>
 SameB (some B) h9 h12 ∧ (Good prog J 31 [v1, v5] h12 fun v13 h14 =>
 SameB (some B) h9 h14 ∧ (Good prog J 32 [v10, v11, v13] h14 fun v15 h16 =>
 aExt v15 0 fun v17 =>
 aExt v15 1 fun v18 =>
 Hold (W prog J 61 h.length 5 (subC [1, 1, 1, 1] (codeOf f5)) (RG.p (RG.p (RG.p (RG.p (RG.p (RG.p (RG.p (RG.p (RG.p (RG.p (RG.p (RG.p (RG.p (RG.p (RG.p (RG.p (RG.p (RG.p (RG.p (RG.p (RG.p (RG.p (RG.mk (regs [a0]) []) 2 (Value.bool false)) 10 a0) 11 v1) 3 v1) 12 v1) 13 v3) 14 v1) 15 v5) 4 v7) 5 v5) 17 v10) 18 v5) 20 v1) 21 v5) 19 v11) 22 v13) 23 v15) 16 v15) 24 v17) 25 v18) 6 v17) 7 v18) h16 (contX pl5 prog J 61 h.length 5 ct5 [1, 1, 1, 1] (codeOf f5) [] (RetQ prog [.tmp 2] h.length K))))))) ∧ (Good prog J 31 [v1, v5] h9 fun v19 h20 =>
 SameB (some B) h9 h20 ∧ (((List.length [(vint 0)] = 1 ∧ (8 : Nat) ≤ 1024) ∧ aMkS [(vint 0)] v5 v5 h20 fun v21 h22 =>
 SameB (some B) h9 h22 ∧ (Good prog J 32 [v10, v21, v19] h22 fun v23 h24 =>
 aExt v23 0 fun v25 =>
 aExt v23 1 fun v26 =>
 Hold (W prog J 61 h.length 5 (subC [1, 1, 1, 1] (codeOf f5)) (RG.p (RG.p (RG.p (RG.p (RG.p (RG.p (RG.p (RG.p (RG.p (RG.p (RG.p (RG.p (RG.p (RG.p (RG.p (RG.p (RG.p (RG.p (RG.p (RG.p (RG.p (RG.p (RG.mk (regs [a0]) []) 2 (Value.bool false)) 10 a0) 11 v1) 3 v1) 12 v1) 13 v3) 14 v1) 15 v5) 4 v7) 5 v5) 17 v10) 18 v5) 20 v1) 21 v5) 22 v19) 19 v21) 23 v23) 16 v23) 24 v25) 25 v26) 6 v25) 7 v26) h24 (contX pl5 prog J 61 h.length 5 ct5 [1, 1, 1, 1] (codeOf f5) [] (RetQ prog [.tmp 2] h.length K)))))))))) := top_eq pok5 ct5 (by kernel_rfl)
theorem g5 (hJ : Closed prog main J) {a0 : Value} (hs : heapOk h → W prog J 61 h.length 5 (codeOf f5) (RG.mk (regs [a0]) []) h (RetQ prog [.tmp 2] h.length K)) : Good prog J 5 [a0] h K :=
 good_of_W hJ mixed at5 body5 (by kernel_rfl) (Nat.le_of_ble_eq_true rfl) hs
end
section
variable {main : Bool} {J : JT} {n0 : Nat} {h : List AObj} {K : Value → List AObj → Prop}
theorem at30 : prog.funcs[30]? = some f30 := by kernel_rfl
theorem body30 : f30.body = some (codeOf f30) := by kernel_rfl
def pl30 : Plans := []
def ct30 : Cuts := .go
theorem pok30 : plansOk prog pl30 (codeOf f30) = true := by kernel_rfl
theorem e30 {a0 a1 a2 : Value} : W prog J 30 h.length 30 (codeOf f30) (RG.mk (regs [a0, a1, a2]) []) h (RetQ prog [.tmp 6] h.length K) =
(Good prog J 26 [a0, a2] h fun v1 h2 =>
 Sem J 30 h.length 30 (subC [1, 1, 1, 0, 1, 0] (codeOf f30)) (RG.p (RG.p (RG.p (RG.p (RG.p (RG.p (RG.p (RG.mk (regs [a0, a1, a2]) []) 6 (Value.slice none 0 0)) 7 (Value.slice none 0 0)) 10 a0) 11 a2) 12 v1) 8 v1) 9 (vint 0)) h2 (contX pl30 prog J 30 h.length 30 ct30 [1, 1, 1, 0, 1, 0] (codeOf f30) [] (RetQ prog [.tmp 6] h.length K))) := top_eq pok30 ct30 (by kernel_rfl)
theorem g30 (hJ : Closed prog main J) {a0 a1 a2 : Value} (hs : heapOk h → W prog J 30 h.length 30 (codeOf f30) (RG.mk (regs [a0, a1, a2]) []) h (RetQ prog [.tmp 6] h.length K)) : Good prog J 30 [a0, a1, a2] h K :=
 good_of_W hJ mixed at30 body30 (by kernel_rfl) (Nat.le_of_ble_eq_true rfl) hs
theorem s30_1 {f : RG} {nx0 : RG → List AObj → Prop} : W prog J 30 n0 30 (subC [1, 1, 1, 0, 1, 0, 0] (codeOf f30)) f h (thenK nx0 (contX pl30 prog J 30 n0 30 ct30 [1, 1, 1, 0, 1, 0] (codeOf f30) [] (RetQ prog [.tmp 6] n0 K))) =
(aBin prog .lss 3 (f.r 9) (f.r 1) fun v1 =>
 cnd v1
(Good prog J 26 [(f.r 0), (f.r 2)] h fun v2 h3 =>
(((3 * 1 : Nat) ≤ 16777216 ∧ (3 : Nat) ≤ 16777216 ∧ List.length [(vint 0)] = 1) ∧ aFill (zrep [(vint 0)] 3) [(0, 1, (f.r 8)), (1, 1, (vint 0)), (2, 1, v2)] fun c4 =>
 aNewS 3 c4 h3 fun v5 h6 =>
 Good prog J 69 [(f.r 0), (f.r 8), v5] h6 fun v7 h8 =>
(((1 * 1 : Nat) ≤ 16777216 ∧ (1 : Nat) ≤ 16777216 ∧ List.length [(vint 0)] = 1) ∧ aFill (zrep [(vint 0)] 1) [(0, 1, v7)] fun c9 =>
 aNewS 1 c9 h8 fun v10 h11 =>
((List.length [(vint 0)] = 1 ∧ 0 < (1 : Nat) ∧ 0 < (8 : Nat) ∧ (8 : Nat) ≤ 1024) ∧ aApp 1 (f.r 7) v10 h11 fun v12 h13 =>
 aBin prog .add 3 (f.r 9) (vint 1) fun v14 =>
 nx0 (RG.p (RG.p (RG.p (RG.p (RG.p (RG.p (RG.p (RG.p (RG.p (RG.p (RG.p (RG.p (RG.p (RG.p (RG.p (RG.p (RG.p (RG.p f 13 (f.r 9)) 14 (f.r 1)) 15 v1) 18 (f.r 7)) 19 (f.r 0)) 20 (f.r 8)) 21 (f.r 8)) 22 (f.r 0)) 23 (f.r 2)) 24 v2) 25 v5) 26 v7) 27 v10) 28 v12) 7 v12) 16 (f.r 9)) 17 v14) 9 v14) h13))))
(retL n0 K f.ds [(f.r 7)] h)) := sub_eq pok30 ct30 (by kernel_rfl)
theorem l30_1 (hJ : Closed prog main J) {S : Type} (μ : S → Nat) (I : S → RG → List AObj → Prop) (hI : ∀ s f h, I s f h → heapOk h → n0 ≤ h.length → W prog J 30 n0 30 (subC [1, 1, 1, 0, 1, 0, 0] (codeOf f30)) f h (thenK (Nx n0 μ I s) (contX pl30 prog J 30 n0 30 ct30 [1, 1, 1, 0, 1, 0] (codeOf f30) [] (RetQ prog [.tmp 6] n0 K))))
 {s : S} {f : RG} (hi : Gets n0 I s f h) : Sem J 30 n0 30 (subC [1, 1, 1, 0, 1, 0] (codeOf f30)) f h (contX pl30 prog J 30 n0 30 ct30 [1, 1, 1, 0, 1, 0] (codeOf f30) [] (RetQ prog [.tmp 6] n0 K)) :=
 loop_rule hJ mixed (b := subC [1, 1, 1, 0, 1, 0, 0] (codeOf f30)) (by kernel_rfl) μ I hI hi
theorem at31 : prog.funcs[31]? = some f31 := by kernel_rfl
theorem body31 : f31.body = some (codeOf f31) := by kernel_rfl
def pl31 : Plans := []
def ct31 : Cuts := .go
theorem pok31 : plansOk prog pl31 (codeOf f31) = true := by kernel_rfl
theorem e31 {a0 a1 : Value} : W prog J 19 h.length 31 (codeOf f31) (RG.mk (regs [a0, a1]) []) h (RetQ prog [.tmp 4] h.length K) =
(Sem J 19 h.length 31 (subC [1, 1, 0, 1, 0] (codeOf f31)) (RG.p (RG.p (RG.p (RG.mk (regs [a0, a1]) []) 4 (Value.string { data := #[] })) 5 (Value.string { data := #[] })) 6 (vint 0)) h (contX pl31 prog J 19 h.length 31 ct31 [1, 1, 0, 1, 0] (codeOf f31) [] (RetQ prog [.tmp 4] h.length K))) := top_eq pok31 ct31 (by kernel_rfl)
theorem g31 (hJ : Closed prog main J) {a0 a1 : Value} (hs : heapOk h → W prog J 19 h.length 31 (codeOf f31) (RG.mk (regs [a0, a1]) []) h (RetQ prog [.tmp 4] h.length K)) : Good prog J 31 [a0, a1] h K :=
 good_of_W hJ mixed at31 body31 (by kernel_rfl) (Nat.le_of_ble_eq_true rfl) hs
theorem s31_1 {f : RG} {nx0 : RG → List AObj → Prop} : W prog J 19 n0 31 (subC [1, 1, 0, 1, 0, 0] (codeOf f31)) f h (thenK nx0 (contX pl31 prog J 19 n0 31 ct31 [1, 1, 0, 1, 0] (codeOf f31) [] (RetQ prog [.tmp 4] n0 K))) =
(aBin prog .lss 3 (f.r 6) (f.r 1) fun v1 =>
 cnd v1
(Good prog J 42 [(f.r 0), (vint 1), (vint 2)] h fun v2 h3 =>
 cnd v2
(aBin prog .add 9 (f.r 5) (Value.string { data := #[100] }) fun v4 =>
 aBin prog .add 3 (f.r 6) (vint 1) fun v5 =>
 nx0 (RG.p (RG.p (RG.p (RG.p (RG.p (RG.p (RG.p (RG.p (RG.p (RG.p (RG.p f 7 (f.r 6)) 8 (f.r 1)) 9 v1) 12 (f.r 0)) 13 v2) 14 (f.r 5)) 15 v4) 5 v4) 10 (f.r 6)) 11 v5) 6 v5) h3)
(aBin prog .add 9 (f.r 5) (Value.string { data := #[119] }) fun v6 =>
 aBin prog .add 3 (f.r 6) (vint 1) fun v7 =>
 nx0 (RG.p (RG.p (RG.p (RG.p (RG.p (RG.p (RG.p (RG.p (RG.p (RG.p (RG.p f 7 (f.r 6)) 8 (f.r 1)) 9 v1) 12 (f.r 0)) 13 v2) 16 (f.r 5)) 17 v6) 5 v6) 10 (f.r 6)) 11 v7) 6 v7) h3))
(retL n0 K f.ds [(f.r 5)] h)) := sub_eq pok31 ct31 (by kernel_rfl)
theorem l31_1 (hJ : Closed prog main J) {S : Type} (μ : S → Nat) (I : S → RG → List AObj → Prop) (hI : ∀ s f h, I s f h → heapOk h → n0 ≤ h.length → W prog J 19 n0 31 (subC [1, 1, 0, 1, 0, 0] (codeOf f31)) f h (thenK (Nx n0 μ I s) (contX pl31 prog J 19 n0 31 ct31 [1, 1, 0, 1, 0] (codeOf f31) [] (RetQ prog [.tmp 4] n0 K))))
 {s : S} {f : RG} (hi : Gets n0 I s f h) : Sem J 19 n0 31 (subC [1, 1, 0, 1, 0] (codeOf f31)) f h (contX pl31 prog J 19 n0 31 ct31 [1, 1, 0, 1, 0] (codeOf f31) [] (RetQ prog [.tmp 4] n0 K)) :=
 loop_rule hJ mixed (b := subC [1, 1, 0, 1, 0, 0] (codeOf f31)) (by kernel_rfl) μ I hI hi
theorem at42 : prog.funcs[42]? = some f42 := by kernel_rfl
theorem body42 : f42.body = some (codeOf f42) := by kernel_rfl
def pl42 : Plans := []
def ct42 : Cuts := .go
theorem pok42 : plansOk prog pl42 (codeOf f42) = true := by kernel_rfl
theorem e42 {a0 a1 a2 : Value} : W prog J 13 h.length 42 (codeOf f42) (RG.mk (regs [a0, a1, a2]) []) h (RetQ prog [.tmp 6] h.length K) =
(aBin prog .sub 3 a2 (vint 1) fun v1 =>
 Good prog J 26 [a0, v1] h fun v2 h3 =>
 aBin prog .lss 3 v2 a1 fun v4 =>
 retL h.length K [] [v4] h3) := top_eq pok42 ct42 (by kernel_rfl)
theorem g42 (hJ : Closed prog main J) {a0 a1 a2 : Value} (hs : heapOk h → W prog J 13 h.length 42 (codeOf f42) (RG.mk (regs [a0, a1, a2]) []) h (RetQ prog [.tmp 6] h.length K)) : Good prog J 42 [a0, a1, a2] h K :=
 good_of_W hJ mixed at42 body42 (by kernel_rfl) (Nat.le_of_ble_eq_true rfl) hs
end
end Go.Proofs.Ythnccaajpdnndaa
namespace Go.Proofs.Ythnccaajpdnndaa
open Go.Conc Go.Proofs.Try
set_option maxRecDepth 100000
section
variable {main : Bool} {J : JT} {h H : List AObj} {K : Value → List AObj → Prop} {KV : Value → Prop} {HL : List AObj → Prop} {n0 : Nat} {ns : List Int} {k : Nat}
theorem strAddR {c : UInt8} {u : List UInt8} {t : TypeId} (hu : u.length ≤ 1000000) (hk : KV (strV (u ++ [c]))) : aBin prog .add t (strV u) (Value.string { data := #[c] }) KV := by
 have hrm : (2000000 : Nat) < room := by decide
 show (ByteArray.mk ⟨u⟩).size + (ByteArray.mk #[c]).size ≤ room ∧ KV (.string (ByteArray.mk ⟨u⟩ ++ ByteArray.mk #[c]))
 have e1 : (ByteArray.mk #[c]).size = 1 := rfl
 have e2 : (ByteArray.mk ⟨u⟩).size = u.length := rfl
 have e3 : ByteArray.mk ⟨u⟩ ++ ByteArray.mk #[c] = ByteArray.mk ⟨u ++ [c]⟩ := by
  apply ByteArray.ext
  rw [ByteArray.data_append]
  apply Array.ext'
  rw [Array.toList_append]
 rw [e1, e2, e3]
 exact ⟨by omega, hk⟩
theorem good42 (hJ : Closed prog main J) (a : HX h H ns k) (hk : k < 900000) {x y : Int} (hy : -1000000 ≤ y ∧ y ≤ 1000000)
  (hK : ∀ b H', SameX [h.length] H H' → H'.length = H.length → HX h H' ns (k + 1) → K (.bool b) H') : Good prog J 42 [ptr h.length 0, vint x, vint y] H K := by
 refine g42 hJ fun ok => ?_
 rw [e42]
 refine subI (by omega) (upX hJ a (by omega) (by omega) fun u H1 u1 u2 S1 l1 a1 => lssI (retL_same (by simp [unk]) (hK _ H1 S1 l1 a1)))
theorem good30 (hJ : Closed prog main J) (a : HX h H ns k) (hk : k < 400000) {D : Nat} {m : Int} (hD : D ≤ 8) (hm : 0 ≤ m ∧ m ≤ 40)
  (hK : ∀ (xs : List Int) v o H', xs.length = D → (∀ x ∈ xs, 0 ≤ x ∧ x ≤ m) → SameX [h.length] H H' → HX h H' ns (k + 20) → OwnX H' 1 (xs.map vint) D v o → (∀ i, o = some i → H.length ≤ i) → K v H') : Good prog J 30 [ptr h.length 0, vint (D : Nat), vint m] H K := by
 refine g30 hJ fun ok => ?_
 rw [e30]
 have hlt := hxLt a
 refine upX hJ a (by omega) (by omega) fun u H1 u1 u2 S1 l1 a1 => ?_
 refine l30_1 hJ (fun i : Nat => D - i) (fun i F H' => i ≤ D ∧ (∃ xs v o, xs.length = i ∧ (∀ x ∈ xs, 0 ≤ x ∧ x ≤ m) ∧ OwnX H' 1 (xs.map vint) i v o ∧ (∀ j, o = some j → H.length ≤ j) ∧ F.r 7 = v) ∧ SameX [h.length] H H' ∧ HX h H' ns (k + 1 + 2 * i) ∧ F.ds = [] ∧ F.r 0 = ptr h.length 0 ∧ F.r 1 = vint (D : Nat) ∧ F.r 2 = vint m ∧ F.r 8 = vint u ∧ F.r 9 = vint (i : Nat)) ?_ (s := 0)
  (.inl ⟨Nat.zero_le _, ⟨[], _, none, rfl, by simp, ⟨rfl, rfl, .inl ⟨rfl, rfl, rfl⟩⟩, by simp, rfl⟩, S1, a1, rfl, rfl, rfl, rfl, rfl, rfl⟩)
 rintro i F H' ⟨hi, ⟨xs, v, o, hx, hxs, O, ho, r7⟩, S, b, ds, r0, r1, r2, r8, r9⟩ okc hnc
 rw [s30_1, r0, r1, r2, r7, r8, r9, ds]
 have hS := S.1
 refine lssI (cndI (fun hl => ?_) fun hge => ?_)
 ·refine upX hJ b (by omega) (by omega) fun y H2 y1 y2 S2 l2 b2 => ⟨by decide, fillO (l := [vint u]) rfl rfl rfl (by decide) (fillO (l := [vint 0]) rfl rfl rfl (by rw [wrAt_length]; decide) (fillO (l := [vint y]) rfl rfl rfl (by rw [wrAt_length, wrAt_length]; decide) (fillI (qNew fun H3 p3 e3 S3 c3 l3 => ?_))))⟩
  have c3 : H3[p3]? = some (.cells (([u, 0, y] : List Int).map vint) true 0) := c3
  refine ofZ hJ (b2.same S3 (by simp)) (by omega) c3 (by omega) rfl (by simp) fun z H4 m4 S4 l4 b4 => ?_
  have hz : 0 ≤ z ∧ z ≤ m := by
   rcases m4 with e | e
   ·omega
   ·simp only [List.mem_cons, List.not_mem_nil, or_false] at e
    omega
  refine ⟨by decide, fillO (l := [vint z]) rfl rfl rfl (by decide) (fillI (qNew fun H5 p5 e5 S5 c5 l5 => ?_))⟩
  have S25 : SameX [h.length] H' H5 := ((S2.trans S3.weak0).trans S4).trans S5.weak0
  have T5 := S.trans S25
  have hno : ∀ j, o = some j → j ∉ [h.length] := fun j hj => by
   have := ho j hj
   simp
   omega
  refine ⟨by decide, ownX_more (ownX_keep O S25 hno) (by decide) (by omega) (e := [vint z]) ⟨_, _, rfl, ⟨rfl, rfl⟩, .inr ⟨p5, 0, rfl, .inr ⟨_, _, _, c5, rfl⟩⟩⟩ fun v' H6 p6 e6 O6 S6 => ?_⟩
  have h5 := T5.1
  refine addI (by omega) ⟨i + 1, by dsimp only; omega, .inl ⟨by omega, ⟨xs ++ [z], v', some p6, by simp [hx], ?_, by rw [List.map_append]; exact O6, fun j hj => by cases hj; omega, rfl⟩, T5.thru S6 fun y hy => .inr (ho y (by simpa using hy)), ?_, ds, r0, r1, r2, r8, by show vint _ = vint _; congr 1⟩⟩
  ·intro x hxm
   rcases List.mem_append.1 hxm with e | e
   ·exact hxs x e
   ·rw [List.mem_singleton.1 e]
    exact hz
  ·refine HX.mono (HX.same (HX.same b4 S5 (by simp)) S6 fun x hx => ?_) (by omega)
   have := ho x (by simpa using hx)
   omega
 ·have : i = D := by omega
  subst this
  refine retL_same ?_ (hK xs v o H' hx hxs S (b.mono (by omega)) O ho)
  intro x hx
  rw [List.mem_singleton.1 hx]
  exact ownU O
theorem good31 (hJ : Closed prog main J) (a : HX h H ns k) (hk : k < 400000) {D : Nat} (hD : D ≤ 8)
  (hK : ∀ (w : List UInt8) H', w.length = D → (∀ c ∈ w, c = 100 ∨ c = 119) → SameX [h.length] H H' → HX h H' ns (k + 8) → K (strV w) H') : Good prog J 31 [ptr h.length 0, vint (D : Nat)] H K := by
 refine g31 hJ fun ok => ?_
 rw [e31]
 have hlt := hxLt a
 refine l31_1 hJ (fun i : Nat => D - i) (fun i F H' => i ≤ D ∧ (∃ w, w.length = i ∧ (∀ c ∈ w, c = 100 ∨ c = 119) ∧ F.r 5 = strV w) ∧ SameX [h.length] H H' ∧ HX h H' ns (k + i) ∧ F.ds = [] ∧ F.r 0 = ptr h.length 0 ∧ F.r 1 = vint (D : Nat) ∧ F.r 6 = vint (i : Nat)) ?_ (s := 0)
  (.inl ⟨Nat.zero_le _, ⟨[], rfl, by simp, rfl⟩, SameX.refl, a, rfl, rfl, rfl, rfl⟩)
 rintro i F H' ⟨hi, ⟨w, hw, hc, r5⟩, S, b, ds, r0, r1, r6⟩ okc hnc
 rw [s31_1, r0, r1, r5, r6, ds]
 refine lssI (cndI (fun hl => ?_) fun hge => ?_)
 ·have more : ∀ {c : UInt8}, (c = 100 ∨ c = 119) → ∀ d ∈ w ++ [c], d = 100 ∨ d = 119 := fun {c} h d hd => by
   rcases List.mem_append.1 hd with e | e
   ·exact hc d e
   ·rw [List.mem_singleton.1 e]
    exact h
  refine good42 hJ b (by omega) (by omega) fun z H2 S2 l2 b2 => cndB (fun _ => ?_) fun _ => ?_
  ·exact strAddR (by omega) (addI (by omega) ⟨i + 1, by dsimp only; omega, .inl ⟨by omega, ⟨w ++ [100], by simp [hw], more (.inl rfl), rfl⟩, S.trans S2, b2, ds, r0, r1, by show vint _ = vint _; congr 1⟩⟩)
  ·exact strAddR (by omega) (addI (by omega) ⟨i + 1, by dsimp only; omega, .inl ⟨by omega, ⟨w ++ [119], by simp [hw], more (.inr rfl), rfl⟩, S.trans S2, b2, ds, r0, r1, by show vint _ = vint _; congr 1⟩⟩)
 ·have : i = D := by omega
  subst this
  exact retL_same (by simp [unk, strV]) (hK w H' hw hc S (b.mono (by omega)))
end
end Go.Proofs.Ythnccaajpdnndaa
namespace Go.Proofs.Ythnccaajpdnndaa
open Go.Conc Go.Proofs.Try
set_option maxRecDepth 100000
set_option maxHeartbeats 4000000
set_option linter.unusedVariables false
section
variable {main : Bool} {J : JT} {n0 : Nat} {h : List AObj} {K : Value → List AObj → Prop}
def pl9 : Plans := [(20, true, .take 0 (.take 1 (.take 2 (.take 3 (.take 4 (.take 5 (.take 6 (.take 7 (.take 8 (.fin)))))))))),
 (22, false, .take 0 (.take 1 (.take 2 (.take 3 (.take 4 (.take 5 (.take 6 (.take 7 (.take 8 (.take 9 (.take 10 (.take 11 (.take 12 (.take 13 (.take 14 (.take 15 (.take 16 (.take 17 (.last 18 true (.take 19 (.take 20 (.fin))))))))))))))))))))))]
def ct9 : Cuts := .bin (.go) (.bin (.go) (.bin (.go) (.bin (.go) (.bin (.go) (.bin (.bin (.go) (.un (.un (.bin (.go) (.bin (.un (.bin (.go) (.cut (.go)))) (.go)))))) (.bin (.go) (.bin (.go) (.bin (.go) (.bin (.go) (.bin (.bin (.go) (.cut (.go))) (.go)))))))))))
theorem pok9 : plansOk prog pl9 (codeOf f9) = true := by kernel_rfl
theorem e9 {a0 : Value} : W prog J 136 h.length 9 (codeOf f9) (RG.mk (regs [a0]) []) h (RetQ prog [.tmp 2] h.length K) =
(Good prog J 22 [a0] h fun v1 h2 =>
 Good prog J 24 [v1] h2 fun v3 h4 =>
 Good prog J 23 [v1, (vint 1), (vint 8)] h4 fun v5 h6 =>
 aAlloc [(vint 0), (vint 0), (vint 0), (vint 0), (vint 0), (vint 0)] h6 fun v7 h8 =>
 aStore 6 v7 v3 h8 fun h9 =>
 Good prog J 30 [v1, v5, (vint 10)] h9 fun v10 h11 =>
 Good prog J 31 [v1, v5] h11 fun v12 h13 =>
 Sem J 136 h.length 9 (subC [1, 1, 1, 1, 1, 0, 1, 0] (codeOf f9)) (RG.p (RG.p (RG.p (RG.p (RG.p (RG.p (RG.p (RG.p (RG.p (RG.p (RG.p (RG.p (RG.p (RG.p (RG.p (RG.p (RG.p (RG.p (RG.p (RG.p (RG.mk (regs [a0]) []) 2 (Value.bool false)) 19 a0) 20 v1) 3 v1) 21 v1) 22 v3) 23 v1) 24 v5) 4 v7) 5 v5) 25 v1) 26 v5) 27 v10) 28 v1) 29 v5) 30 v12) 6 v10) 7 v12) 8 (Value.string { data := #[] })) 9 (vint 0)) h13 (contX pl9 prog J 136 h.length 9 ct9 [1, 1, 1, 1, 1, 0, 1, 0] (codeOf f9) [] (RetQ prog [.tmp 2] h.length K))) := top_eq pok9 ct9 (by kernel_rfl)
end
end Go.Proofs.Ythnccaajpdnndaa
namespace Go.Proofs.Ythnccaajpdnndaa
open Go.Conc Go.Proofs.Try
set_option maxRecDepth 100000
section
variable {main : Bool} {J : JT} {h H : List AObj} {K : Value → List AObj → Prop}
theorem good132 (hJ : Closed prog main J) {hs : List Int} {hv : Value} {d : Int} (sh : Sli H hv 1 hs.length (hs.map vint)) (hl : hs.length < 1000000) (hK : K (vint (hunE hs d)) H) : Good prog J 132 [hv, vint d] H K := by
 refine g132 hJ fun ok => ?_
 rw [e132]
 have e : hunE hs d = if (hs.length : Int) < d then 7 else if (hs.length : Int) > d then 6 else if ∀ n ∈ hs, 0 ≤ n ∧ n ≤ 40 then 0 else 1 := by
  unfold hunE cntE
  by_cases c : (hs.length : Int) < d
  ·rw [if_pos c, if_pos c, if_pos (by decide)]
  ·rw [if_neg c, if_neg c]
   by_cases c2 : (hs.length : Int) > d
   ·rw [if_pos c2, if_pos c2, if_pos (by decide)]
   ·rw [if_neg c2, if_neg c2, if_neg (by decide)]
 rw [e] at hK
 refine lenI sh (lssI (cndI (fun h1 => ?_) fun h1 => lenI sh (gtrI (cndI (fun h2 => ?_) fun h2 => ?_))))
 ·rw [if_pos h1] at hK
  exact retL_same (by simp [unk]) hK
 ·rw [if_neg h1, if_pos h2] at hK
  exact retL_same (by simp [unk]) hK
 rw [if_neg h1, if_neg h2] at hK
 refine l132_1 hJ (fun i : Nat => hs.length - i) (fun i F H' => i ≤ hs.length ∧ H' = H ∧ (∀ j, j < i → ∀ n, hs[j]? = some n → 0 ≤ n ∧ n ≤ 40) ∧ F.ds = [] ∧ F.r 0 = hv ∧ F.r 5 = vint (i : Nat)) ?_ (s := 0)
  (.inl ⟨Nat.zero_le _, rfl, fun j hj => absurd hj (Nat.not_lt_zero _), rfl, rfl, rfl⟩)
 rintro i F H' ⟨hi, rfl, hall, ds, r0, r5⟩ okc hnc
 rw [s132_1, r0, r5, ds]
 refine lenI sh (lssI (cndI (fun hlt => ?_) fun hge => ?_))
 ·have hx : hs[i]? = some hs[i] := List.getElem?_eq_getElem (by omega)
  have hm := List.getElem_mem (l := hs) (n := i) (by omega)
  generalize hs[i] = x at hx hm
  refine sliN sh hx fun q => good82 hJ (notI (cndN (fun h3 => ?_) fun h3 => ?_))
  ·rw [if_neg (fun c => h3 (c x hm))] at hK
   exact retL_same (by simp [unk]) hK
  ·refine addI (by omega) ⟨i + 1, by dsimp only; omega, .inl ⟨by omega, rfl, fun j hj n hn => ?_, ds, r0, by show vint _ = vint _; congr 1⟩⟩
   by_cases c : j = i
   ·rw [c, hx] at hn
    cases hn
    exact h3
   ·exact hall j (by omega) n hn
 ·have c : ∀ n ∈ hs, 0 ≤ n ∧ n ≤ 40 := fun n hn => by
   obtain ⟨j, hj, e⟩ := List.mem_iff_getElem.1 hn
   exact hall j (by omega) n (by rw [List.getElem?_eq_getElem hj, e])
  rw [if_pos c] at hK
  exact retL_same (by simp [unk]) hK
end
section
variable {main : Bool} {J : JT} {h H : List AObj} {K : Value → List AObj → Prop} {KV : Value → Prop}
theorem good102 (hJ : Closed prog main J) {p : Pas} {hs : List Int} {w : List UInt8} {hv : Value} (sh : Sli H hv 1 hs.length (hs.map vint)) (hl : hs.length < 1000000) (hw : w.length ≤ 1000000) (hK : ∀ H', SameX [] H H' → K (vint (askE p hs w)) H') : Good prog J 102 [.agg ⟨p.cells⟩, hv, strV w] H K := by
 refine g102 hJ fun ok => ?_
 rw [e102]
 have e : askE p hs w = if pasE p ≠ 0 then pasE p else if (w.length : Int) = 0 then 7 else if (w.length : Int) > 8 then 6 else if hunE hs w.length ≠ 0 then hunE hs w.length else if wordOk w then 0 else 2 := by
  unfold askE fst2 cntE
  by_cases c : pasE p ≠ 0
  ·rw [if_pos c, if_pos c, if_pos c]
  ·rw [if_neg c, if_neg c]
   by_cases c1 : (w.length : Int) = 0
   ·rw [if_pos c1, if_pos (by omega : (w.length : Int) < 1), if_pos (by decide)]
   ·rw [if_neg c1, if_neg (by omega : ¬ (w.length : Int) < 1)]
    by_cases c2 : (w.length : Int) > 8
    ·rw [if_pos c2, if_pos c2, if_pos (by decide)]
    ·rw [if_neg c2, if_neg c2, if_neg (by decide)]
 refine qBox (l := p.cells) rfl fun H1 p1 e1 S1 c1 l1 => load_part (c := p.cells) c1 (by simp [Pas.cells]) rfl rfl ?_
 have fin : ∀ {d : Int}, askE p hs w = d → retL H.length K [] [vint d] H1 := fun {d} he => by
  have := hK H1 S1
  rw [he] at this
  exact retL_same (by simp [unk]) this
 refine good37 hJ (neqI (cndI (fun h1 => fin (by rw [e, if_pos h1])) fun h1 => ?_))
 refine lenStrI (eqlI (cndI (fun h2 => fin (by rw [e, if_neg h1, if_pos h2])) fun h2 => ?_))
 refine lenStrI (gtrI (cndI (fun h3 => fin (by rw [e, if_neg h1, if_neg h2, if_pos h3])) fun h3 => ?_))
 refine lenStrI (good132 hJ (S1.sli sh (by simp)) hl (neqI (cndI (fun h4 => fin (by rw [e, if_neg h1, if_neg h2, if_neg h3, if_pos h4])) fun h4 => ?_)))
 refine l102_1 hJ (fun i : Nat => w.length - i) (fun i F H' => i ≤ w.length ∧ H' = H1 ∧ (∀ j, j < i → ∀ b, w[j]? = some b → b = 100 ∨ b = 119) ∧ F.ds = [] ∧ F.r 2 = strV w ∧ F.r 9 = vint (i : Nat)) ?_ (s := 0)
  (.inl ⟨Nat.zero_le _, rfl, fun j hj => absurd hj (Nat.not_lt_zero _), rfl, rfl, rfl⟩)
 rintro i F H' ⟨hi, rfl, hall, ds, r2, r9⟩ okc hnc
 have tail : ∀ {F2 : RG} {z : Bool} {b : UInt8}, w[i]? = some b → (z = true ↔ ¬ (b = 100 ∨ b = 119)) → F2.ds = [] → F2.r 2 = strV w → F2.r 9 = vint (i : Nat) → F2.r 43 = .bool z →
   W prog J 44 H.length 102 (subC [1, 1, 1, 1, 1, 0, 1, 0, 0, 1, 0, 0, 1] (codeOf f102)) F2 H' (contX pl102 prog J 44 H.length 102 ct102 [1, 1, 1, 1, 1, 0, 1, 0, 0, 1, 0, 0, 1] (codeOf f102) [Nx H.length (fun i : Nat => w.length - i) (fun i F H2 => i ≤ w.length ∧ H2 = H' ∧ (∀ j, j < i → ∀ b, w[j]? = some b → b = 100 ∨ b = 119) ∧ F.ds = [] ∧ F.r 2 = strV w ∧ F.r 9 = vint (i : Nat)) i] (RetQ prog [.tmp 6] H.length K)) := by
  intro F2 z b hb hz ds2 q2 q9 q43
  rw [s102_2, q9, q43, ds2]
  refine cndB (fun hy => fin ?_) fun hn => addI (by omega) ⟨i + 1, by have := (List.getElem?_eq_some_iff.1 hb).1; dsimp only; omega, .inl ⟨(List.getElem?_eq_some_iff.1 hb).1, rfl, fun j hj c hc => ?_, ds2, q2, by show vint _ = vint _; congr 1⟩⟩
  ·rw [e, if_neg h1, if_neg h2, if_neg h3, if_neg h4, if_neg fun c => hz.1 hy (c b (List.mem_of_getElem? hb))]
  ·by_cases c1 : j = i
   ·rw [c1, hb] at hc
    cases hc
    exact Classical.byContradiction fun c2 => by
     rw [hz.2 c2] at hn
     cases hn
   ·exact hall j (by omega) c hc
 rw [s102_1, r2, r9, ds]
 refine lenStrI (lssI (cndI (fun hlt => ?_) fun hge => fin ?_))
 ·have hx : w[i]? = some w[i] := List.getElem?_eq_getElem (by omega)
  generalize w[i] = b at hx
  have e100 : (Value.int .u8 100) = .int .u8 (100 : UInt8).toNat := rfl
  have e119 : (Value.int .u8 119) = .int .u8 (119 : UInt8).toNat := rfl
  refine byteI hx ?_
  rw [e100]
  refine neqU (cndI (fun h5 => byteI hx ?_) fun h5 => hold.2 (tail (z := false) hx ⟨fun h => absurd h (by decide), fun h => absurd (.inl (Classical.not_not.1 h5)) h⟩ ds r2 r9 rfl))
  rw [e119]
  have hz : (decide (b ≠ 119) = true ↔ ¬ (b = 100 ∨ b = 119)) := by
   rw [decide_eq_true_iff]
   exact ⟨fun h c => c.elim h5 h, fun h c => h (.inr c)⟩
  exact neqU (hold.2 (tail (z := decide (b ≠ 119)) hx hz ds r2 r9 rfl))
 ·have ho : wordOk w := fun b hb => by
   obtain ⟨j, hj, e'⟩ := List.mem_iff_getElem.1 hb
   exact hall j (by omega) b (by rw [List.getElem?_eq_getElem hj, e'])
  rw [e, if_neg h1, if_neg h2, if_neg h3, if_neg h4, if_pos ho]
theorem good57 (hJ : Closed prog main J) {p : Pas} {hs : List Int} {w : List UInt8} {hv : Value} (sh : Sli H hv 1 hs.length (hs.map vint)) (hl : hs.length < 1000000) (hw : w.length ≤ 1000)
  (hK0 : askE p hs w ≠ 0 → ∀ H', SameX [] H H' → K (.tuple ⟨[.slice none 0 0, vint (askE p hs w)]⟩) H')
  (hK1 : askE p hs w = 0 → ∀ H' v, SameX [] H H' → Sli H' v 1 (endsR p hs w w.length).length ((endsR p hs w w.length).map vint) → K (.tuple ⟨[v, vint 0]⟩) H') : Good prog J 57 [.agg ⟨p.cells⟩, hv, strV w] H K := by
 refine g57 hJ fun ok => ?_
 rw [e57]
 refine qBox (l := p.cells) rfl fun H1 p1 e1 S1 c1 l1 => load_part (c := p.cells) c1 (by simp [Pas.cells]) rfl rfl ?_
 refine good102 hJ (S1.sli sh (by simp)) hl (by omega) fun H2 S2 => neqI (cndI (fun h1 => retL_same (nu2 (by simp [unk]) (by simp [unk])) (hK0 h1 H2 (S1.trans S2))) fun h1 => ?_)
 have h1 := Classical.not_not.1 h1
 obtain ⟨fp, fw, fl, fh, fo⟩ := askE_ok h1
 have T2 := S1.trans S2
 refine load_part (c := p.cells) (S2.get c1 (by simp)) (by simp [Pas.cells]) rfl rfl ?_
 refine good97 hJ fp fh (T2.sli sh (by simp)) (by omega) hw fun H3 ev bv nv S3 O => ext30 (ext31 (ext32 ?_))
 obtain ⟨oa, ob, oc, A, B, C, _⟩ := O
 exact retL_same (nu2 (ownU A) (by simp [unk])) (hK1 h1 H3 ev (T2.trans S3) (ownX_sli A))
theorem good59 (hJ : Closed prog main J) {p : Pas} {hs : List Int} {w : List UInt8} {hv : Value} (sh : Sli H hv 1 hs.length (hs.map vint)) (hl : hs.length < 1000000) (hw : w.length ≤ 1000)
  (hK0 : askE p hs w ≠ 0 → ∀ H', SameX [] H H' → K (.tuple ⟨[.slice none 0 0, vint (askE p hs w)]⟩) H')
  (hK1 : askE p hs w = 0 → ∀ H' v, SameX [] H H' → Sli H' v 1 (daysR (shortAt p hs w) w.length).length ((daysR (shortAt p hs w) w.length).map vint) → K (.tuple ⟨[v, vint 0]⟩) H') : Good prog J 59 [.agg ⟨p.cells⟩, hv, strV w] H K := by
 refine g59 hJ fun ok => ?_
 rw [e59]
 refine qBox (l := p.cells) rfl fun H1 p1 e1 S1 c1 l1 => load_part (c := p.cells) c1 (by simp [Pas.cells]) rfl rfl ?_
 refine good102 hJ (S1.sli sh (by simp)) hl (by omega) fun H2 S2 => neqI (cndI (fun h1 => retL_same (nu2 (by simp [unk]) (by simp [unk])) (hK0 h1 H2 (S1.trans S2))) fun h1 => ?_)
 have h1 := Classical.not_not.1 h1
 obtain ⟨fp, fw, fl, fh, fo⟩ := askE_ok h1
 have T2 := S1.trans S2
 refine load_part (c := p.cells) (S2.get c1 (by simp)) (by simp [Pas.cells]) rfl rfl ?_
 refine good97 hJ fp fh (T2.sli sh (by simp)) (by omega) hw fun H3 ev bv nv S3 O => ext30 (ext31 (ext32 ?_))
 obtain ⟨oa, ob, oc, A, B, C, _⟩ := O
 exact retL_same (nu2 (ownU B) (by simp [unk])) (hK1 h1 H3 bv (T2.trans S3) (ownX_sli B))
theorem good60 (hJ : Closed prog main J) {p : Pas} {hs : List Int} {w : List UInt8} {hv : Value} (sh : Sli H hv 1 hs.length (hs.map vint)) (hl : hs.length < 1000000) (hw : w.length ≤ 1000)
  (hK0 : askE p hs w ≠ 0 → ∀ H', SameX [] H H' → K (.tuple ⟨[.slice none 0 0, vint (askE p hs w)]⟩) H')
  (hK1 : askE p hs w = 0 → ∀ H' v, SameX [] H H' → Sli H' v 1 (daysR (hungAt p hs w) w.length).length ((daysR (hungAt p hs w) w.length).map vint) → K (.tuple ⟨[v, vint 0]⟩) H') : Good prog J 60 [.agg ⟨p.cells⟩, hv, strV w] H K := by
 refine g60 hJ fun ok => ?_
 rw [e60]
 refine qBox (l := p.cells) rfl fun H1 p1 e1 S1 c1 l1 => load_part (c := p.cells) c1 (by simp [Pas.cells]) rfl rfl ?_
 refine good102 hJ (S1.sli sh (by simp)) hl (by omega) fun H2 S2 => neqI (cndI (fun h1 => retL_same (nu2 (by simp [unk]) (by simp [unk])) (hK0 h1 H2 (S1.trans S2))) fun h1 => ?_)
 have h1 := Classical.not_not.1 h1
 obtain ⟨fp, fw, fl, fh, fo⟩ := askE_ok h1
 have T2 := S1.trans S2
 refine load_part (c := p.cells) (S2.get c1 (by simp)) (by simp [Pas.cells]) rfl rfl ?_
 refine good97 hJ fp fh (T2.sli sh (by simp)) (by omega) hw fun H3 ev bv nv S3 O => ext30 (ext31 (ext32 ?_))
 obtain ⟨oa, ob, oc, A, B, C, _⟩ := O
 exact retL_same (nu2 (ownU C) (by simp [unk])) (hK1 h1 H3 nv (T2.trans S3) (ownX_sli C))
def dysL (p : Pas) (hs : List Int) (w : List UInt8) (l : List Int) : List Int := if askE p hs w = 0 then l else []
theorem sli_nilI : Sli H (.slice none 0 0) 1 ([] : List Int).length (([] : List Int).map vint) := ⟨none, 0, rfl, ⟨rfl, rfl⟩, .inl ⟨rfl, rfl⟩⟩
theorem oneDys {p : Pas} {hs : List Int} {w : List UInt8} {l : List Int} {KT : Value → List AObj → Prop} (hK : ∀ H' v, SameX [] H H' → Sli H' v 1 (dysL p hs w l).length ((dysL p hs w l).map vint) → KT (.tuple ⟨[v, vint (askE p hs w)]⟩) H') :
  (askE p hs w ≠ 0 → ∀ H', SameX [] H H' → KT (.tuple ⟨[.slice none 0 0, vint (askE p hs w)]⟩) H') ∧ (askE p hs w = 0 → ∀ H' v, SameX [] H H' → Sli H' v 1 l.length (l.map vint) → KT (.tuple ⟨[v, vint 0]⟩) H') := by
 refine ⟨fun h0 H' S => hK H' _ S ?_, fun h0 H' v S sv => ?_⟩
 ·unfold dysL
  rw [if_neg h0]
  exact sli_nilI
 ·have := hK H' v S (by unfold dysL; rw [if_pos h0]; exact sv)
  rw [h0] at this
  exact this
theorem remX {t : TypeId} {x n : Int} (hn : 1 ≤ n) (hK : ∀ r : Int, -n < r → r < n → KV (vint r)) : aBin prog .rem t (vint x) (vint n) KV := by
 simp only [aBin, aInt, true_and]
 exact ⟨by omega, hK _ (Int.lt_tmod_of_pos x (by omega)) (Int.tmod_lt_of_pos x (by omega))⟩
theorem good101 (hJ : Closed prog main J) {x n : Int} (hn : 1 ≤ n ∧ n ≤ 1000000) (hK : ∀ r : Int, 0 ≤ r → r < n → K (vint r) H) : Good prog J 101 [vint x, vint n] H K := by
 refine g101 hJ fun ok => ?_
 rw [e101]
 refine lssI (cndI (fun h1 => absurd h1 (by omega)) fun _ => ?_)
 refine remX (by omega) fun r b2 b1 => lssI (cndI (fun h2 => ?_) fun h2 => retL_same (by simp [unk]) (hK r (by omega) b1))
 exact addI (by omega) (retL_same (by simp [unk]) (hK _ (by omega) (by omega)))
theorem slTo {w : List UInt8} {k : Int} (hk : 0 ≤ k ∧ k ≤ w.length) (hK : ∀ u : List UInt8, (u.length : Int) = k → KV (strV u)) : aSlStr (strV w) none (some (vint k)) KV := by
 obtain ⟨n, rfl⟩ := Int.eq_ofNat_of_zero_le hk.1
 show match (some 0 : Option Nat), (bif decide ((0 : Int) ≤ (n : Nat)) then some ((n : Nat) : Int).toNat else none) with
  | some l, some u => (l ≤ u ∧ u ≤ w.length) ∧ KV (.string ⟨⟨(w.take u).drop l⟩⟩)
  | _, _ => False
 rw [decide_eq_true (by omega : (0 : Int) ≤ (n : Nat)), cond_true, Int.toNat_natCast]
 exact ⟨⟨by omega, by omega⟩, hK _ (by simp; omega)⟩
theorem slFr {w : List UInt8} {k : Int} (hk : 0 ≤ k ∧ k ≤ w.length) (hK : ∀ u : List UInt8, (u.length : Int) = w.length - k → KV (strV u)) : aSlStr (strV w) (some (vint k)) none KV := by
 obtain ⟨n, rfl⟩ := Int.eq_ofNat_of_zero_le hk.1
 show match (bif decide ((0 : Int) ≤ (n : Nat)) then some ((n : Nat) : Int).toNat else none), (some w.length : Option Nat) with
  | some l, some u => (l ≤ u ∧ u ≤ w.length) ∧ KV (.string ⟨⟨(w.take u).drop l⟩⟩)
  | _, _ => False
 rw [decide_eq_true (by omega : (0 : Int) ≤ (n : Nat)), cond_true, Int.toNat_natCast]
 exact ⟨⟨by omega, by omega⟩, hK _ (by simp; omega)⟩
theorem catS {t : TypeId} {u v : List UInt8} (hl : u.length + v.length ≤ 1000000) (hK : ∀ x : List UInt8, x.length = u.length + v.length → KV (strV x)) : aBin prog .add t (strV u) (strV v) KV := by
 have hrm : (2000000 : Nat) < room := by decide
 show (ByteArray.mk ⟨u⟩).size + (ByteArray.mk ⟨v⟩).size ≤ room ∧ KV (.string (ByteArray.mk ⟨u⟩ ++ ByteArray.mk ⟨v⟩))
 have e1 : (ByteArray.mk ⟨v⟩).size = v.length := rfl
 have e2 : (ByteArray.mk ⟨u⟩).size = u.length := rfl
 have e3 : ByteArray.mk ⟨u⟩ ++ ByteArray.mk ⟨v⟩ = ByteArray.mk ⟨u ++ v⟩ := by
  apply ByteArray.ext
  rw [ByteArray.data_append]
  apply Array.ext'
  rw [Array.toList_append]
 rw [e1, e2, e3]
 exact ⟨by omega, hK _ (by simp)⟩
theorem newB {b : UInt8} {KB : Value → List AObj → Prop} (hK : ∀ H' p, SameX [] H H' → H'[p]? = some (.cells [bV b] true 0) → KB (.slice (some ⟨p, 0, none⟩) 1 1) H') :
  ((1 * 1 : Nat) ≤ 16777216 ∧ (1 : Nat) ≤ 16777216 ∧ List.length [(Value.int .u8 0)] = 1) ∧ aFill (zrep [(Value.int .u8 0)] 1) [(0, 1, bV b)] fun c3 => aNewS 1 c3 H KB :=
 ⟨by decide, fillO (l := [bV b]) rfl rfl rfl (by decide) (fillI (qNew fun H1 p1 e1 S1 c1 l1 => hK H1 p1 S1 c1))⟩
theorem b2s {b : UInt8} {p : Nat} (hp : H[p]? = some (.cells [bV b] true 0)) (hK : ∀ u : List UInt8, u.length = 1 → KV (strV u)) : aB2S (.slice (some ⟨p, 0, none⟩) 1 1) H KV := strI (w := [b]) hp rfl rfl (hK [b] rfl)
set_option maxHeartbeats 2000000 in
theorem good56 (hJ : Closed prog main J) {w : List UInt8} {b : UInt8} {at_ how : Int} (hw : w.length ≤ 1000) (hK : ∀ (u : List UInt8) H', u.length ≤ w.length + 1 → SameX [] H H' → K (strV u) H') : Good prog J 56 [strV w, vint at_, vint how, bV b] H K := by
 refine g56 hJ fun ok => ?_
 rw [e56]
 have fin : ∀ {u : List UInt8} {H' : List AObj}, u.length ≤ w.length + 1 → SameX [] H H' → retL H.length K [] [strV u] H' := fun h1 h2 => retL_same (by simp [unk, strV]) (hK _ _ h1 h2)
 refine lenStrI (eqlI (cndI (fun h0 => newB fun H1 p1 S1 c1 => b2s c1 fun u hu => fin (by omega) S1) fun h0 => ?_))
 refine lenStrI (good101 hJ (by omega) fun k k0 k1 => good101 hJ (by decide) fun m m0 m1 => eqlI (cndI (fun _ => addI (by omega) ?_) fun _ => eqlI (cndI (fun _ => addI (by omega) ?_) fun _ => ?_)))
 all_goals
  repeat' first
   | exact fin (by omega) (by first | assumption | exact SameX.refl)
   | refine slTo (by omega) fun _ _ => ?_
   | refine slFr (by omega) fun _ _ => ?_
   | refine catS (by omega) fun _ _ => ?_
   | refine newB fun _ _ _ _ => ?_
   | refine b2s (by assumption) fun _ _ => ?_
   | refine ⟨?_, ?_⟩
end
def B4s (H : List AObj) (v : Value) (c : List Value) : Prop := ∃ p, v = .slice (some ⟨p, 0, none⟩) 4 4 ∧ H[p]? = some (.cells c true 0)
theorem B4s.same {H H' : List AObj} {v : Value} {c : List Value} (a : B4s H v c) (S : SameX [] H H') : B4s H' v c := by
 obtain ⟨p, h1, h3⟩ := a
 exact ⟨p, h1, S.get h3 (by simp)⟩
inductive VD | val (x : Value) | box (c : List Value) | str | sbox (w v : List UInt8)
def VD.ok : VD → Value → List AObj → Prop
 | .val x, v, _ => v = x
 | .box c, v, H => B4s H v c
 | .str, v, _ => ∃ u : List UInt8, u.length ≤ 10 ∧ v = strV u
 | .sbox w x, v, H => ∃ u : List UInt8, u.length ≤ 10 ∧ B4s H v [strV w, strV x, strV u, strV w]
theorem VD.same {k : VD} {v : Value} {H H' : List AObj} (a : VD.ok k v H) (S : SameX [] H H') : VD.ok k v H' := by
 cases k with
 | val x => exact a
 | box c => exact B4s.same a S
 | str => exact a
 | sbox w x => exact let ⟨u, hu, b⟩ := a; ⟨u, hu, b.same S⟩
theorem w4p {p q : Pas} : wrAt (wrAt (wrAt (wrAt (zrep [vint 0, vint 0, vint 0, vint 0, vint 0, vint 0] 4) 0 p.cells) 6 q.cells) 12 q.cells) 18 q.cells = [p, q, q, q].flatMap Pas.cells := by kernel_rfl
theorem w4v {z a b c d : Value} : wrAt (wrAt (wrAt (wrAt (zrep [z] 4) 0 [a]) 1 [b]) 2 [c]) 3 [d] = [a, b, c, d] := by kernel_rfl
def ka14 (p q : Pas) (hv sv : Value) (w wet : List UInt8) (at_ : Int) (b : UInt8) : Nat → VD
 | 0 => .val (.agg ⟨p.cells⟩)
 | 1 => .val (.agg ⟨q.cells⟩)
 | 2 => .val (.agg ⟨q.cells⟩)
 | 3 => .val (.agg ⟨q.cells⟩)
 | 4 => .box ([p, q, q, q].flatMap Pas.cells)
 | 5 => .val hv
 | 6 => .val sv
 | 7 => .val sv
 | 8 => .val hv
 | 9 => .box [hv, sv, sv, hv]
 | 10 => .val (strV w)
 | 11 => .val (strV wet)
 | 12 => .val (strV wet)
 | 13 => .val (vint at_)
 | 14 => .val (vint at_)
 | 15 => .val (bV b)
 | 16 => .str
 | 17 => .val (strV w)
 | 18 => .sbox w wet
 | 19 => .box ([p, q, q, q].flatMap Pas.cells)
 | 20 => .box [hv, sv, sv, hv]
 | 21 => .sbox w wet
 | _ => .str
section
variable {main : Bool} {J : JT} {h H H0 : List AObj} {K : Value → List AObj → Prop} {n0 : Nat}
structure M14 (h H : List AObj) (f : RG) (p q : Pas) (ys zs : List Int) (hv sv : Value) (w wet : List UInt8) (at_ : Int) (b : UInt8) (p6 p15 : Nat) : Prop where
 ds : f.ds = []
 sy : Sli H hv 1 ys.length (ys.map vint)
 ly : ys.length ≤ 20
 sz : Sli H sv 1 zs.length (zs.map vint)
 lz : zs.length ≤ 8
 vh : hv.cells = #[hv] ∧ one hv = true ∧ kn1 hv = true
 vs : sv.cells = #[sv] ∧ one sv = true ∧ kn1 sv = true
 lr : w.length ≤ 20
 lw : wet.length ≤ 8
 r1 : f.r 1 = hv
 r2 : f.r 2 = strV w
 r3 : f.r 3 = vint at_
 r4 : f.r 4 = bV b
 r6 : f.r 6 = ptr p6 0
 r15 : f.r 15 = ptr p15 0
 r16 : f.r 16 = sv
 r17 : f.r 17 = strV wet
 c6 : H[p6]? = some (.cells p.cells true 0)
 c15 : H[p15]? = some (.cells q.cells true 0)
theorem front14 {W0 : World} {Post : Value → World → Prop} {p : Pas} {w : List UInt8} {at_ : Int} {b : UInt8} {hv nv : Value} {ys ns : List Int} {Sx : RG → List AObj → Prop} (sy : Sli h hv 1 ys.length (ys.map vint)) (sn : Sli h nv 1 ns.length (ns.map vint)) (hln : ns.length < 4611686018427387904) (hK : ∀ H', K (.bool true) H')
  (hS : ∀ H f q zs sv wet p6 p15, M14 h H f p q ys zs hv sv w wet at_ b p6 p15 → Sx f H) :
  W prog (J2 prog W0 Post) 214 h.length 14 (trunc 5 (codeOf f14)) (RG.mk (regs [.agg ⟨p.cells⟩, hv, strV w, vint at_, bV b, nv]) []) h (thenK Sx (RetQ prog [.tmp 12] h.length K)) := by
 have hJ := J2.closed prog W0 Post
 rw [e14]
 refine qBox (l := p.cells) rfl fun H2 p1 e1 S1 c1 l1 => ?_
 have b1 := lt_of_get c1
 have l1' := S1.1
 have tail : ∀ {F : RG} {z : Bool}, F.ds = [] → F.r 1 = hv → F.r 2 = strV w → F.r 3 = vint at_ → F.r 4 = bV b → F.r 5 = nv → F.r 6 = ptr p1 0 → F.r 42 = .bool z → (z = false → ys.length ≤ 20 ∧ w.length ≤ 20) →
   W prog (J2 prog W0 Post) 214 h.length 14 (subC [1, 0, 1] (trunc 5 (codeOf f14))) F H2 (contX pl14 prog (J2 prog W0 Post) 214 h.length 14 ct14 [1, 0, 1] (trunc 5 (codeOf f14)) [] (thenK Sx (RetQ prog [.tmp 12] h.length K))) := by
  intro F z ds r1 r2 r3 r4 r5 r6 r42 hz
  rw [s14_1, r5, r42, ds]
  refine cndB (fun _ => good21 fun H13 _ => retL_same (by simp [unk]) (hK H13)) fun hb => ?_
  obtain ⟨ly, lr⟩ := hz hb
  have vh := sliValZ sy
  refine newX hJ (S1.sli sn (by simp)) hln fun H3 a3 => ?_
  have S3 : SameX [] H2 H3 := by
   obtain ⟨nv', k', s', rest, rfl, _⟩ := a3
   exact ⟨by rw [hf_len]; omega, fun i hi _ => by unfold HF; rw [List.getElem?_append_left hi]⟩
  refine amX hJ a3 (by omega) (by decide) (by decide) fun y H4 y1 y2 S4 l4 a4 => ?_
  obtain ⟨D, rfl⟩ := Int.eq_ofNat_of_zero_le (by omega : 0 ≤ y)
  refine good24 hJ a4 (by omega) fun q H5 fq _ S5 a5 => ?_
  refine good30 hJ a5 (by omega) (D := D) (by omega) (by decide) fun xs v o H6 hxl _ S6 a6 O hoo => ?_
  refine good31 hJ a6 (by omega) (D := D) (by omega) fun wet H7 hwl _ S7 a7 => ?_
  have l5 := hxLt a5
  have l7 := hxLt a7
  refine qAl fun H8 p9 e8 S8 c8 l8 => qStA (c := q.cells) c8 rfl rfl rfl fun H9 S9 c9 l9 => ?_
  have T79 : SameX [] H7 H9 := S8.thru S9 (by simp; omega)
  have T29 : SameX [H2.length] H2 H9 := ((((S3.weak0.trans S4).trans S5).trans S6).trans S7).trans T79.weak0
  have O9 := ownX_keep (ownX_keep O S7 (fun i hi => by have := hoo i hi; simp; omega)) T79 (by simp)
  have hh9 : SameX [] h H9 := S1.thru T29 (by simp; omega)
  exact hS H9 _ q xs v wet p1 p9 ⟨ds, hh9.sli sy (by simp), ly, by rw [hxl]; exact ownX_sli O9, by omega, vh, ownX_val O9, lr, by omega, r1, r2, r3, r4, r6, rfl, rfl, rfl, T29.get c1 (by simp; omega), c9⟩
 refine lenI (S1.sli sy (by simp)) (gtrI (cndI (fun _ => hold.2 (tail (z := true) rfl rfl rfl rfl rfl rfl rfl rfl fun h => by cases h)) fun hle => lenStrI (gtrI (hold.2 (tail (z := decide ((w.length : Int) > 20)) rfl rfl rfl rfl rfl rfl rfl rfl fun hb => ?_)))))
 have := of_decide_eq_false hb
 exact ⟨by omega, by omega⟩
set_option maxHeartbeats 4000000 in
theorem region14 (hJ : Closed prog main J) {h H : List AObj} {ys zs : List Int} {f : RG} {p q : Pas} {hv sv : Value} {w wet : List UInt8} {at_ : Int} {b : UInt8} {p6 p15 : Nat} {Q : QT} (M : M14 h H f p q ys zs hv sv w wet at_ b p6 p15)
  (hS : ∀ f' H', f'.ds = [] → SameX [] H H' → VD.ok (.box ([p, q, q, q].flatMap Pas.cells)) (f'.r 18) H' → VD.ok (.box [hv, sv, sv, hv]) (f'.r 19) H' → VD.ok (.sbox w wet) (f'.r 20) H' → Q .normal f' H') :
  Sem J 214 n0 14 (subC [1, 1, 1, 1, 1, 0] (codeOf f14)) f H Q := by
 rw [r14_1]
 have z := z14_1
 refine Sem_vals hJ mixed (by kernel_rfl) (by kernel_rfl) (fun j v H' => VD.ok ((ka14 p q hv sv w wet at_ b) j) v H') (fun _ H' => SameX [] H H') (SameX []) (fun j v h h' S a => VD.same a S) SameX.refl ?_ ?_
 ·intro d i o f1 h1 ho hd2 hB hout hdep
  have S := hB
  have out : ∀ {tt}, noDst ops14_1 tt = true → f1.r tt = f.r tt := fun hn => hout _ (noDst_spec hn)
  have hi : i < 22 := by
   have := (Array.getElem?_eq_some_iff.1 ho).1
   omega
  have dep : ∀ {j pj tt}, needs ops14_1 i j = true → (ops14_1[j]? = some pj ∧ pj.dst = some tt) → VD.ok ((ka14 p q hv sv w wet at_ b) j) (f1.r tt) h1 := fun hn e => needs_spec (A := fun j tt => VD.ok ((ka14 p q hv sv w wet at_ b) j) (f1.r tt) h1) hn ho e.1 e.2 hdep
  have same : ∀ {v}, VD.ok ((ka14 p q hv sv w wet at_ b) i) v h1 → VD.ok ((ka14 p q hv sv w wet at_ b) i) v h1 ∧ SameX [] H h1 ∧ SameX [] h1 h1 := fun {v} qq => ⟨qq, S, SameX.refl⟩
  have made : ∀ {c} {h2 : List AObj} {qa : Nat}, (B4s h2 (.slice (some ⟨qa, 0, none⟩) 4 4) c → VD.ok ((ka14 p q hv sv w wet at_ b) i) (.slice (some ⟨qa, 0, none⟩) 4 4) h2) → qa = h1.length → SameX [] h1 h2 → h2[qa]? = some (.cells c true 0) → VD.ok ((ka14 p q hv sv w wet at_ b) i) (.slice (some ⟨qa, 0, none⟩) 4 4) h2 ∧ SameX [] H h2 ∧ SameX [] h1 h2 := fun {c h2 qa} hk eq S2 c2 =>
   ⟨hk ⟨qa, rfl, c2⟩, S.trans S2, S2⟩
  match i, hi with
  | 0, _ =>
   refine op_step o14_1_0 ho ?_
   rw [out (tt := 6) (by kernel_rfl), M.r6]
   exact load_part (c := p.cells) (S.get M.c6 (by simp)) (by simp [Pas.cells]) rfl rfl (same rfl)
  | 1, _ =>
   refine op_step o14_1_1 ho ?_
   rw [out (tt := 15) (by kernel_rfl), M.r15]
   exact load_part (c := q.cells) (S.get M.c15 (by simp)) (by simp [Pas.cells]) rfl rfl (same rfl)
  | 2, _ =>
   refine op_step o14_1_2 ho ?_
   rw [out (tt := 15) (by kernel_rfl), M.r15]
   exact load_part (c := q.cells) (S.get M.c15 (by simp)) (by simp [Pas.cells]) rfl rfl (same rfl)
  | 3, _ =>
   refine op_step o14_1_3 ho ?_
   rw [out (tt := 15) (by kernel_rfl), M.r15]
   exact load_part (c := q.cells) (S.get M.c15 (by simp)) (by simp [Pas.cells]) rfl rfl (same rfl)
  | 4, _ =>
   refine op_step o14_1_4 ho ?_
   have u0 : f1.r 56 = .agg ⟨p.cells⟩ := (dep (j := 0) (tt := 56) (by kernel_rfl) ⟨o14_1_0 (J := J).1, o14_1_0 (J := J).2.1⟩)
   have u1 : f1.r 57 = .agg ⟨q.cells⟩ := (dep (j := 1) (tt := 57) (by kernel_rfl) ⟨o14_1_1 (J := J).1, o14_1_1 (J := J).2.1⟩)
   have u2 : f1.r 58 = .agg ⟨q.cells⟩ := (dep (j := 2) (tt := 58) (by kernel_rfl) ⟨o14_1_2 (J := J).1, o14_1_2 (J := J).2.1⟩)
   have u3 : f1.r 59 = .agg ⟨q.cells⟩ := (dep (j := 3) (tt := 59) (by kernel_rfl) ⟨o14_1_3 (J := J).1, o14_1_3 (J := J).2.1⟩)
   rw [u0, u1, u2, u3]
   refine ⟨by decide, fillO (l := p.cells) rfl rfl rfl (Nat.le_of_ble_eq_true (by kernel_rfl)) (fillO (l := q.cells) rfl rfl rfl (Nat.le_of_ble_eq_true (by kernel_rfl)) (fillO (l := q.cells) rfl rfl rfl (Nat.le_of_ble_eq_true (by kernel_rfl)) (fillO (l := q.cells) rfl rfl rfl (Nat.le_of_ble_eq_true (by kernel_rfl)) (fillI (qNew fun h2 qa eq S2 c2 l2 => ?_)))))⟩
   rw [w4p] at c2
   exact made (fun b => b) eq S2 c2
  | 5, _ =>
   refine op_step o14_1_5 ho ?_
   rw [out (tt := 1) (by kernel_rfl), M.r1]
   exact same rfl
  | 6, _ =>
   refine op_step o14_1_6 ho ?_
   rw [out (tt := 16) (by kernel_rfl), M.r16]
   exact same rfl
  | 7, _ =>
   refine op_step o14_1_7 ho ?_
   rw [out (tt := 16) (by kernel_rfl), M.r16]
   exact same rfl
  | 8, _ =>
   refine op_step o14_1_8 ho ?_
   rw [out (tt := 1) (by kernel_rfl), M.r1]
   exact same rfl
  | 9, _ =>
   refine op_step o14_1_9 ho ?_
   have u5 : f1.r 61 = hv := (dep (j := 5) (tt := 61) (by kernel_rfl) ⟨o14_1_5 (J := J).1, o14_1_5 (J := J).2.1⟩)
   have u6 : f1.r 62 = sv := (dep (j := 6) (tt := 62) (by kernel_rfl) ⟨o14_1_6 (J := J).1, o14_1_6 (J := J).2.1⟩)
   have u7 : f1.r 63 = sv := (dep (j := 7) (tt := 63) (by kernel_rfl) ⟨o14_1_7 (J := J).1, o14_1_7 (J := J).2.1⟩)
   have u8 : f1.r 64 = hv := (dep (j := 8) (tt := 64) (by kernel_rfl) ⟨o14_1_8 (J := J).1, o14_1_8 (J := J).2.1⟩)
   have wh := M.vh
   have ws := M.vs
   rw [u5, u6, u7, u8]
   refine ⟨by decide, fillO (l := [hv]) (congrArg Array.toList wh.1) rfl (by simp [wh.2.1]) (Nat.le_of_ble_eq_true (by kernel_rfl)) (fillO (l := [sv]) (congrArg Array.toList ws.1) rfl (by simp [ws.2.1]) (Nat.le_of_ble_eq_true (by kernel_rfl)) (fillO (l := [sv]) (congrArg Array.toList ws.1) rfl (by simp [ws.2.1]) (Nat.le_of_ble_eq_true (by kernel_rfl)) (fillO (l := [hv]) (congrArg Array.toList wh.1) rfl (by simp [wh.2.1]) (Nat.le_of_ble_eq_true (by kernel_rfl)) (fillI (qNew fun h2 qa eq S2 c2 l2 => ?_)))))⟩
   rw [w4v] at c2
   exact made (fun b => b) eq S2 c2
  | 10, _ =>
   refine op_step o14_1_10 ho ?_
   rw [out (tt := 2) (by kernel_rfl), M.r2]
   exact same rfl
  | 11, _ =>
   refine op_step o14_1_11 ho ?_
   rw [out (tt := 17) (by kernel_rfl), M.r17]
   exact same rfl
  | 12, _ =>
   refine op_step o14_1_12 ho ?_
   rw [out (tt := 17) (by kernel_rfl), M.r17]
   exact same rfl
  | 13, _ =>
   refine op_step o14_1_13 ho ?_
   rw [out (tt := 3) (by kernel_rfl), M.r3]
   exact same rfl
  | 14, _ =>
   refine op_step o14_1_14 ho ?_
   rw [out (tt := 3) (by kernel_rfl), M.r3]
   exact same rfl
  | 15, _ =>
   refine op_step o14_1_15 ho ?_
   rw [out (tt := 4) (by kernel_rfl), M.r4]
   exact same rfl
  | 16, _ =>
   refine op_step o14_1_16 ho ?_
   have u12 : f1.r 68 = strV wet := (dep (j := 12) (tt := 68) (by kernel_rfl) ⟨o14_1_12 (J := J).1, o14_1_12 (J := J).2.1⟩)
   have u13 : f1.r 69 = vint at_ := (dep (j := 13) (tt := 69) (by kernel_rfl) ⟨o14_1_13 (J := J).1, o14_1_13 (J := J).2.1⟩)
   have u14 : f1.r 70 = vint at_ := (dep (j := 14) (tt := 70) (by kernel_rfl) ⟨o14_1_14 (J := J).1, o14_1_14 (J := J).2.1⟩)
   have u15 : f1.r 71 = bV b := (dep (j := 15) (tt := 71) (by kernel_rfl) ⟨o14_1_15 (J := J).1, o14_1_15 (J := J).2.1⟩)
   rw [u12, u13, u14, u15]
   have lw := M.lw
   exact good56 hJ (by omega) fun u H2 hu S2 => ⟨⟨u, by omega, rfl⟩, S.trans S2, S2⟩
  | 17, _ =>
   refine op_step o14_1_17 ho ?_
   rw [out (tt := 2) (by kernel_rfl), M.r2]
   exact same rfl
  | 18, _ =>
   refine op_step o14_1_18 ho ?_
   have u10 : f1.r 66 = strV w := (dep (j := 10) (tt := 66) (by kernel_rfl) ⟨o14_1_10 (J := J).1, o14_1_10 (J := J).2.1⟩)
   have u11 : f1.r 67 = strV wet := (dep (j := 11) (tt := 67) (by kernel_rfl) ⟨o14_1_11 (J := J).1, o14_1_11 (J := J).2.1⟩)
   obtain ⟨u, hu, u16⟩ : ∃ u : List UInt8, u.length ≤ 10 ∧ f1.r 72 = strV u := (dep (j := 16) (tt := 72) (by kernel_rfl) ⟨o14_1_16 (J := J).1, o14_1_16 (J := J).2.1⟩)
   have u17 : f1.r 73 = strV w := (dep (j := 17) (tt := 73) (by kernel_rfl) ⟨o14_1_17 (J := J).1, o14_1_17 (J := J).2.1⟩)
   rw [u10, u11, u16, u17]
   refine ⟨by decide, fillO (l := [strV w]) rfl rfl rfl (Nat.le_of_ble_eq_true (by kernel_rfl)) (fillO (l := [strV wet]) rfl rfl rfl (Nat.le_of_ble_eq_true (by kernel_rfl)) (fillO (l := [strV u]) rfl rfl rfl (Nat.le_of_ble_eq_true (by kernel_rfl)) (fillO (l := [strV w]) rfl rfl rfl (Nat.le_of_ble_eq_true (by kernel_rfl)) (fillI (qNew fun h2 qa eq S2 c2 l2 => ?_)))))⟩
   rw [w4v] at c2
   exact made (fun b => ⟨u, hu, b⟩) eq S2 c2
  | 19, _ =>
   refine op_step o14_1_19 ho ?_
   exact same (dep (j := 4) (tt := 60) (by kernel_rfl) ⟨o14_1_4 (J := J).1, o14_1_4 (J := J).2.1⟩)
  | 20, _ =>
   refine op_step o14_1_20 ho ?_
   exact same (dep (j := 9) (tt := 65) (by kernel_rfl) ⟨o14_1_9 (J := J).1, o14_1_9 (J := J).2.1⟩)
  | 21, _ =>
   refine op_step o14_1_21 ho ?_
   exact same (dep (j := 18) (tt := 74) (by kernel_rfl) ⟨o14_1_18 (J := J).1, o14_1_18 (J := J).2.1⟩)
 ·intro d f1 h1 hB ds hout hin
  have at2 : ∀ {j pj tt}, (ops14_1[j]? = some pj ∧ pj.dst = some tt) → VD.ok ((ka14 p q hv sv w wet at_ b) j) (f1.r tt) h1 := fun e => hin _ _ _ e.1 e.2
  exact hS f1 h1 (ds.trans M.ds) hB (at2 (j := 19) (tt := 18) ⟨o14_1_19 (J := J).1, o14_1_19 (J := J).2.1⟩) (at2 (j := 20) (tt := 19) ⟨o14_1_20 (J := J).1, o14_1_20 (J := J).2.1⟩) (at2 (j := 21) (tt := 20) ⟨o14_1_21 (J := J).1, o14_1_21 (J := J).2.1⟩)
end
structure Mdy (F : RG) (p18 p19 p20 i : Nat) : Prop where
 ds : F.ds = []
 r18 : F.r 18 = .slice (some ⟨p18, 0, none⟩) 4 4
 r19 : F.r 19 = .slice (some ⟨p19, 0, none⟩) 4 4
 r20 : F.r 20 = .slice (some ⟨p20, 0, none⟩) 4 4
 r21 : F.r 21 = vint (i : Nat)
structure Ldy (H : List AObj) (p18 p19 p20 i : Nat) (x : Pas) (v : Value) (y : List Int) (w : List UInt8) : Prop where
 fx : ∀ {K2 : Value → Value → Prop}, (∀ q, K2 q (.agg ⟨x.cells⟩)) → aIdx 6 (.slice (some ⟨p18, 0, none⟩) 4 4) (vint (i : Nat)) fun q => aLoad true 6 q H (K2 q)
 fv : ∀ {K2 : Value → Value → Prop}, (∀ q, K2 q v) → aIdx 1 (.slice (some ⟨p19, 0, none⟩) 4 4) (vint (i : Nat)) fun q => aLoad false 1 q H (K2 q)
 fw : ∀ {K2 : Value → Value → Prop}, (∀ q, K2 q (strV w)) → aIdx 1 (.slice (some ⟨p20, 0, none⟩) 4 4) (vint (i : Nat)) fun q => aLoad false 1 q H (K2 q)
 sl : Sli H v 1 y.length (y.map vint)
 l : y.length < 1000
 lw : w.length ≤ 1000
section
variable {main : Bool} {J : JT} {n0 : Nat} {h H : List AObj} {K : Value → List AObj → Prop}
variable {F : RG} {nx0 : RG → List AObj → Prop} {p18 p19 p20 i : Nat} {x : Pas} {v own : Value} {y : List Int} {w : List UInt8}
theorem rec4 {α : Type} {enc : α → List Value} {s : Nat} (hen : ∀ x, (enc x).length = s) (hkn : ∀ x, kn (enc x) = true) {xs : List α} {p i : Nat} {KI : Value → Value → Prop} (hb : H[p]? = some (.cells (xs.flatMap enc) true 0)) (hx : xs.length = 4) (hi : i < 4) (hk : ∀ o, KI (ptr p o) (.agg ⟨enc (xs[i]'(by omega))⟩)) :
  aIdx s (.slice (some ⟨p, 0, none⟩) 4 4) (vint (i : Nat)) fun v => aLoad true s v H (KI v) := by
 refine idxI ⟨by omega, by omega⟩ ?_
 rw [Int.toNat_natCast, Nat.zero_add]
 have hfl : (xs.flatMap enc).length = 4 * s := by
  have : ∀ l : List α, (l.flatMap enc).length = l.length * s := fun l => by
   induction l with
   | nil => simp
   | cons x l ih => rw [List.flatMap_cons, List.length_append, ih, hen, List.length_cons, Nat.succ_mul]; omega
  rw [this, hx]
 refine load_part (c := enc xs[i]) hb ?_ (flat_take hen xs i (by omega)) (hkn _) (hk _)
 rw [hfl, show (4 : Nat) = 3 + 1 from rfl, Nat.succ_mul]
 have := Nat.mul_le_mul_right s (show i ≤ 3 by omega)
 omega
theorem val4 {vs : List Value} {v : Value} {p i : Nat} {KI : Value → Value → Prop} (hb : H[p]? = some (.cells vs true 0)) (hi : i < 4) (hv : vs[i]? = some v) (hk1 : kn1 v = true) (hk : ∀ o, KI (ptr p o) v) :
  aIdx 1 (.slice (some ⟨p, 0, none⟩) 4 4) (vint (i : Nat)) fun v => aLoad false 1 v H (KI v) := by
 refine idxI ⟨by omega, by omega⟩ ?_
 rw [Int.toNat_natCast, Nat.zero_add, Nat.mul_one]
 exact ldI hb hv hk1 (hk _)
theorem dEns (hJ : Closed prog main J) {hv : Value} (sh : Sli H hv 1 y.length (y.map vint)) (hl : y.length < 1000000) (hw : w.length ≤ 1000) (hK : ∀ H' u, SameX [] H H' → Sli H' u 1 (dysL x y w (endsR x y w w.length)).length ((dysL x y w (endsR x y w w.length)).map vint) → K (.tuple ⟨[u, vint (askE x y w)]⟩) H') : Good prog J 32 [.agg ⟨x.cells⟩, hv, strV w] H K :=
 good32 hJ (heads := y) sh hl (by omega) (oneDys hK).1 fun h0 H' u S s => (oneDys hK).2 h0 H' u S (by rw [show (endsR x y w w.length).length = w.length by simp [endsR]]; exact s)
theorem dRens (hJ : Closed prog main J) {hv : Value} (sh : Sli H hv 1 y.length (y.map vint)) (hl : y.length < 1000000) (hw : w.length ≤ 1000) (hK : ∀ H' u, SameX [] H H' → Sli H' u 1 (dysL x y w (endsR x y w w.length)).length ((dysL x y w (endsR x y w w.length)).map vint) → K (.tuple ⟨[u, vint (askE x y w)]⟩) H') : Good prog J 57 [.agg ⟨x.cells⟩, hv, strV w] H K :=
 good57 hJ (hs := y) sh hl hw (oneDys hK).1 (oneDys hK).2
theorem dBtn (hJ : Closed prog main J) {hv : Value} (sh : Sli H hv 1 y.length (y.map vint)) (hl : y.length < 1000000) (hw : w.length ≤ 1000) (hK : ∀ H' u, SameX [] H H' → Sli H' u 1 (dysL x y w (daysR (shortAt x y w) w.length)).length ((dysL x y w (daysR (shortAt x y w) w.length)).map vint) → K (.tuple ⟨[u, vint (askE x y w)]⟩) H') : Good prog J 58 [.agg ⟨x.cells⟩, hv, strV w] H K :=
 good58 hJ (heads := y) sh hl (by omega) (oneDys hK).1 (oneDys hK).2
theorem dRbtn (hJ : Closed prog main J) {hv : Value} (sh : Sli H hv 1 y.length (y.map vint)) (hl : y.length < 1000000) (hw : w.length ≤ 1000) (hK : ∀ H' u, SameX [] H H' → Sli H' u 1 (dysL x y w (daysR (shortAt x y w) w.length)).length ((dysL x y w (daysR (shortAt x y w) w.length)).map vint) → K (.tuple ⟨[u, vint (askE x y w)]⟩) H') : Good prog J 59 [.agg ⟨x.cells⟩, hv, strV w] H K :=
 good59 hJ (hs := y) sh hl hw (oneDys hK).1 (oneDys hK).2
theorem dHgr (hJ : Closed prog main J) {hv : Value} (sh : Sli H hv 1 y.length (y.map vint)) (hl : y.length < 1000000) (hw : w.length ≤ 1000) (hK : ∀ H' u, SameX [] H H' → Sli H' u 1 (dysL x y w (daysR (hungAt x y w) w.length)).length ((dysL x y w (daysR (hungAt x y w) w.length)).map vint) → K (.tuple ⟨[u, vint (askE x y w)]⟩) H') : Good prog J 43 [.agg ⟨x.cells⟩, hv, strV w] H K :=
 good43 hJ (heads := y) sh hl (by omega) (oneDys hK).1 (oneDys hK).2
theorem dRhgr (hJ : Closed prog main J) {hv : Value} (sh : Sli H hv 1 y.length (y.map vint)) (hl : y.length < 1000000) (hw : w.length ≤ 1000) (hK : ∀ H' u, SameX [] H H' → Sli H' u 1 (dysL x y w (daysR (hungAt x y w) w.length)).length ((dysL x y w (daysR (hungAt x y w) w.length)).map vint) → K (.tuple ⟨[u, vint (askE x y w)]⟩) H') : Good prog J 60 [.agg ⟨x.cells⟩, hv, strV w] H K :=
 good60 hJ (hs := y) sh hl hw (oneDys hK).1 (oneDys hK).2
theorem dysL_few {l : List Int} (hl : l.length ≤ w.length) (hw : w.length ≤ 1000) : (dysL x y w l).length < 10000 := by
 unfold dysL
 split
 ·omega
 ·decide
theorem endsR_few : (endsR x y w w.length).length ≤ w.length := by simp [endsR]
theorem daysR_le {q : Nat → Bool} : (daysR q w.length).length ≤ w.length := by
 unfold daysR
 rw [List.length_map]
 have := List.length_filter_le q (List.range w.length)
 rwa [List.length_range] at this
theorem dy9 (M : Mdy F p18 p19 p20 i) (hi : i < 1000) (r212 : F.r 212 = .bool false) (hn : ∀ F', Mdy F' p18 p19 p20 (i + 1) → nx0 F' H) :
  W prog J 214 n0 14 (subC [1, 1, 1, 1, 1, 1, 0, 1, 0, 0, 1, 0, 0, 1, 1, 1, 1, 1, 1, 1, 1] (codeOf f14)) F H (contX pl14t prog J 214 n0 14 ct14t [1, 1, 1, 1, 1, 1, 0, 1, 0, 0, 1, 0, 0, 1, 1, 1, 1, 1, 1, 1, 1] (codeOf f14) [nx0] (RetQ prog [.tmp 12] n0 K)) := by
 rw [s14t_9, M.r21, r212]
 exact cnd_false.2 (addI (by omega) (hn _ ⟨M.ds, M.r18, M.r19, M.r20, by show vint _ = vint _; congr 1⟩))
theorem notSame {a : List Int} {P Q : Prop} (h : Q) : cnd (.bool (!decide (a = a))) P Q := by
 rw [decide_eq_true rfl]
 exact cnd_false.2 h
theorem dy8 (hJ : Closed prog main J) {la lb lc : List Int} {va va2 vb vb2 vc vc2 : Value} {e : Int} (M : Mdy F p18 p19 p20 i) (A : Ldy H p18 p19 p20 i x v y w) (hi : i < 1000) (so : Sli H own 1 y.length (y.map vint)) (s1 : Sli H va 1 la.length (la.map vint)) (s2 : Sli H va2 1 la.length (la.map vint)) (s3 : Sli H vb 1 lb.length (lb.map vint)) (s4 : Sli H vb2 1 lb.length (lb.map vint)) (s5 : Sli H vc 1 lc.length (lc.map vint)) (s6 : Sli H vc2 1 lc.length (lc.map vint)) (la1 : la.length < 10000) (lb1 : lb.length < 10000) (lc1 : lc.length < 10000) (r22 : F.r 22 = own) (r23 : F.r 23 = va) (r24 : F.r 24 = vint e) (r25 : F.r 25 = va2) (r26 : F.r 26 = vint e) (r27 : F.r 27 = vb) (r28 : F.r 28 = vint e) (r29 : F.r 29 = vb2) (r30 : F.r 30 = vint e) (r31 : F.r 31 = vc) (r32 : F.r 32 = vint e) (r33 : F.r 33 = vc2) (r34 : F.r 34 = vint e) (hn : ∀ F', Mdy F' p18 p19 p20 (i + 1) → nx0 F' H) :
  W prog J 214 n0 14 (subC [1, 1, 1, 1, 1, 1, 0, 1, 0, 0, 1, 0, 0, 1, 1, 1, 1, 1, 1, 1] (codeOf f14)) F H (contX pl14t prog J 214 n0 14 ct14t [1, 1, 1, 1, 1, 1, 0, 1, 0, 0, 1, 0, 0, 1, 1, 1, 1, 1, 1, 1] (codeOf f14) [nx0] (RetQ prog [.tmp 12] n0 K)) := by
 rw [s14t_8, M.r19, M.r21, r22, r23, r24, r25, r26, r27, r28, r29, r30, r31, r32, r33, r34]
 have al := A.l
 refine neqI (cndI (fun h => absurd rfl h) fun _ => neqI (cndI (fun h => absurd rfl h) fun _ => neqI (cndI (fun h => absurd rfl h) fun _ => ?_)))
 refine good29 hJ s1 s2 (by omega) (notI (notSame (good29 hJ s3 s4 (by omega) (notI (notSame (good29 hJ s5 s6 (by omega) (notI (notSame (A.fv fun q => ?_)))))))))
 refine good29 hJ so A.sl (by omega) (notI (hold.2 (dy9 ⟨M.ds, M.r18, M.r19, M.r20, M.r21⟩ hi ?_ hn)))
 show Value.bool (!decide (y = y)) = .bool false
 rw [decide_eq_true rfl]
 rfl
theorem dy7 (hJ : Closed prog main J) {va : Value} {va2 : Value} {vb : Value} {vb2 : Value} {vc : Value} (M : Mdy F p18 p19 p20 i) (A : ∀ H', SameX [] H H' → Ldy H' p18 p19 p20 i x v y w) (hi : i < 1000) (so : Sli H own 1 y.length (y.map vint)) (s1 : Sli H va 1 (dysL x y w (endsR x y w w.length)).length ((dysL x y w (endsR x y w w.length)).map vint)) (s2 : Sli H va2 1 (dysL x y w (endsR x y w w.length)).length ((dysL x y w (endsR x y w w.length)).map vint)) (s3 : Sli H vb 1 (dysL x y w (daysR (shortAt x y w) w.length)).length ((dysL x y w (daysR (shortAt x y w) w.length)).map vint)) (s4 : Sli H vb2 1 (dysL x y w (daysR (shortAt x y w) w.length)).length ((dysL x y w (daysR (shortAt x y w) w.length)).map vint)) (s5 : Sli H vc 1 (dysL x y w (daysR (hungAt x y w) w.length)).length ((dysL x y w (daysR (hungAt x y w) w.length)).map vint)) (r22 : F.r 22 = own) (r23 : F.r 23 = va) (r24 : F.r 24 = vint (askE x y w)) (r25 : F.r 25 = va2) (r26 : F.r 26 = vint (askE x y w)) (r27 : F.r 27 = vb) (r28 : F.r 28 = vint (askE x y w)) (r29 : F.r 29 = vb2) (r30 : F.r 30 = vint (askE x y w)) (r31 : F.r 31 = vc) (r32 : F.r 32 = vint (askE x y w)) (hn : ∀ F' H', SameX [] H H' → Mdy F' p18 p19 p20 (i + 1) → nx0 F' H') :
  W prog J 214 n0 14 (subC [1, 1, 1, 1, 1, 1, 0, 1, 0, 0, 1, 0, 0, 1, 1, 1, 1, 1, 1] (codeOf f14)) F H (contX pl14t prog J 214 n0 14 ct14t [1, 1, 1, 1, 1, 1, 0, 1, 0, 0, 1, 0, 0, 1, 1, 1, 1, 1, 1] (codeOf f14) [nx0] (RetQ prog [.tmp 12] n0 K)) := by
 rw [s14t_7, M.r18, M.r19, M.r20, M.r21]
 have A0 := A H SameX.refl
 have al := A0.l
 have aw := A0.lw
 refine A0.fx fun q1 => A0.fv fun q2 => A0.fw fun q3 => dRhgr hJ (y := y) A0.sl (by omega) (by omega) fun H1 u S1 s6 => ext0 (ext1 (hold.2 ?_))
 exact dy8 hJ ⟨M.ds, M.r18, M.r19, M.r20, M.r21⟩ (A H1 S1) hi (S1.sli so (by simp)) (S1.sli s1 (by simp)) (S1.sli s2 (by simp)) (S1.sli s3 (by simp)) (S1.sli s4 (by simp)) (S1.sli s5 (by simp)) s6 (dysL_few endsR_few aw) (dysL_few daysR_le aw) (dysL_few daysR_le aw) r22 r23 r24 r25 r26 r27 r28 r29 r30 r31 r32 rfl rfl (hn := fun F' M' => hn F' H1 S1 M')
theorem dy6 (hJ : Closed prog main J) {va : Value} {va2 : Value} {vb : Value} {vb2 : Value} (M : Mdy F p18 p19 p20 i) (A : ∀ H', SameX [] H H' → Ldy H' p18 p19 p20 i x v y w) (hi : i < 1000) (so : Sli H own 1 y.length (y.map vint)) (s1 : Sli H va 1 (dysL x y w (endsR x y w w.length)).length ((dysL x y w (endsR x y w w.length)).map vint)) (s2 : Sli H va2 1 (dysL x y w (endsR x y w w.length)).length ((dysL x y w (endsR x y w w.length)).map vint)) (s3 : Sli H vb 1 (dysL x y w (daysR (shortAt x y w) w.length)).length ((dysL x y w (daysR (shortAt x y w) w.length)).map vint)) (s4 : Sli H vb2 1 (dysL x y w (daysR (shortAt x y w) w.length)).length ((dysL x y w (daysR (shortAt x y w) w.length)).map vint)) (r22 : F.r 22 = own) (r23 : F.r 23 = va) (r24 : F.r 24 = vint (askE x y w)) (r25 : F.r 25 = va2) (r26 : F.r 26 = vint (askE x y w)) (r27 : F.r 27 = vb) (r28 : F.r 28 = vint (askE x y w)) (r29 : F.r 29 = vb2) (r30 : F.r 30 = vint (askE x y w)) (hn : ∀ F' H', SameX [] H H' → Mdy F' p18 p19 p20 (i + 1) → nx0 F' H') :
  W prog J 214 n0 14 (subC [1, 1, 1, 1, 1, 1, 0, 1, 0, 0, 1, 0, 0, 1, 1, 1, 1, 1] (codeOf f14)) F H (contX pl14t prog J 214 n0 14 ct14t [1, 1, 1, 1, 1, 1, 0, 1, 0, 0, 1, 0, 0, 1, 1, 1, 1, 1] (codeOf f14) [nx0] (RetQ prog [.tmp 12] n0 K)) := by
 rw [s14t_6, M.r18, M.r20, M.r21, r22]
 have A0 := A H SameX.refl
 have al := A0.l
 have aw := A0.lw
 refine A0.fx fun q1 => A0.fw fun q3 => dHgr hJ (y := y) so (by omega) (by omega) fun H1 u S1 s5 => ext0 (ext1 (hold.2 ?_))
 exact dy7 hJ ⟨M.ds, M.r18, M.r19, M.r20, M.r21⟩ (fun H6 S6 => A H6 (S1.trans S6)) hi (S1.sli so (by simp)) (S1.sli s1 (by simp)) (S1.sli s2 (by simp)) (S1.sli s3 (by simp)) (S1.sli s4 (by simp)) s5 r22 r23 r24 r25 r26 r27 r28 r29 r30 rfl rfl (hn := fun F' H6 S6 M' => hn F' H6 (S1.trans S6) M')
theorem dy5 (hJ : Closed prog main J) {va : Value} {va2 : Value} {vb : Value} (M : Mdy F p18 p19 p20 i) (A : ∀ H', SameX [] H H' → Ldy H' p18 p19 p20 i x v y w) (hi : i < 1000) (so : Sli H own 1 y.length (y.map vint)) (s1 : Sli H va 1 (dysL x y w (endsR x y w w.length)).length ((dysL x y w (endsR x y w w.length)).map vint)) (s2 : Sli H va2 1 (dysL x y w (endsR x y w w.length)).length ((dysL x y w (endsR x y w w.length)).map vint)) (s3 : Sli H vb 1 (dysL x y w (daysR (shortAt x y w) w.length)).length ((dysL x y w (daysR (shortAt x y w) w.length)).map vint)) (r22 : F.r 22 = own) (r23 : F.r 23 = va) (r24 : F.r 24 = vint (askE x y w)) (r25 : F.r 25 = va2) (r26 : F.r 26 = vint (askE x y w)) (r27 : F.r 27 = vb) (r28 : F.r 28 = vint (askE x y w)) (hn : ∀ F' H', SameX [] H H' → Mdy F' p18 p19 p20 (i + 1) → nx0 F' H') :
  W prog J 214 n0 14 (subC [1, 1, 1, 1, 1, 1, 0, 1, 0, 0, 1, 0, 0, 1, 1, 1, 1] (codeOf f14)) F H (contX pl14t prog J 214 n0 14 ct14t [1, 1, 1, 1, 1, 1, 0, 1, 0, 0, 1, 0, 0, 1, 1, 1, 1] (codeOf f14) [nx0] (RetQ prog [.tmp 12] n0 K)) := by
 rw [s14t_5, M.r18, M.r19, M.r20, M.r21]
 have A0 := A H SameX.refl
 have al := A0.l
 have aw := A0.lw
 refine A0.fx fun q1 => A0.fv fun q2 => A0.fw fun q3 => dRbtn hJ (y := y) A0.sl (by omega) (by omega) fun H1 u S1 s4 => ext0 (ext1 (hold.2 ?_))
 exact dy6 hJ ⟨M.ds, M.r18, M.r19, M.r20, M.r21⟩ (fun H6 S6 => A H6 (S1.trans S6)) hi (S1.sli so (by simp)) (S1.sli s1 (by simp)) (S1.sli s2 (by simp)) (S1.sli s3 (by simp)) s4 r22 r23 r24 r25 r26 r27 r28 rfl rfl (hn := fun F' H6 S6 M' => hn F' H6 (S1.trans S6) M')
theorem dy4 (hJ : Closed prog main J) {va : Value} {va2 : Value} (M : Mdy F p18 p19 p20 i) (A : ∀ H', SameX [] H H' → Ldy H' p18 p19 p20 i x v y w) (hi : i < 1000) (so : Sli H own 1 y.length (y.map vint)) (s1 : Sli H va 1 (dysL x y w (endsR x y w w.length)).length ((dysL x y w (endsR x y w w.length)).map vint)) (s2 : Sli H va2 1 (dysL x y w (endsR x y w w.length)).length ((dysL x y w (endsR x y w w.length)).map vint)) (r22 : F.r 22 = own) (r23 : F.r 23 = va) (r24 : F.r 24 = vint (askE x y w)) (r25 : F.r 25 = va2) (r26 : F.r 26 = vint (askE x y w)) (hn : ∀ F' H', SameX [] H H' → Mdy F' p18 p19 p20 (i + 1) → nx0 F' H') :
  W prog J 214 n0 14 (subC [1, 1, 1, 1, 1, 1, 0, 1, 0, 0, 1, 0, 0, 1, 1, 1] (codeOf f14)) F H (contX pl14t prog J 214 n0 14 ct14t [1, 1, 1, 1, 1, 1, 0, 1, 0, 0, 1, 0, 0, 1, 1, 1] (codeOf f14) [nx0] (RetQ prog [.tmp 12] n0 K)) := by
 rw [s14t_4, M.r18, M.r20, M.r21, r22]
 have A0 := A H SameX.refl
 have al := A0.l
 have aw := A0.lw
 refine A0.fx fun q1 => A0.fw fun q3 => dBtn hJ (y := y) so (by omega) (by omega) fun H1 u S1 s3 => ext0 (ext1 (hold.2 ?_))
 exact dy5 hJ ⟨M.ds, M.r18, M.r19, M.r20, M.r21⟩ (fun H6 S6 => A H6 (S1.trans S6)) hi (S1.sli so (by simp)) (S1.sli s1 (by simp)) (S1.sli s2 (by simp)) s3 r22 r23 r24 r25 r26 rfl rfl (hn := fun F' H6 S6 M' => hn F' H6 (S1.trans S6) M')
theorem dy3 (hJ : Closed prog main J) {va : Value} (M : Mdy F p18 p19 p20 i) (A : ∀ H', SameX [] H H' → Ldy H' p18 p19 p20 i x v y w) (hi : i < 1000) (so : Sli H own 1 y.length (y.map vint)) (s1 : Sli H va 1 (dysL x y w (endsR x y w w.length)).length ((dysL x y w (endsR x y w w.length)).map vint)) (r22 : F.r 22 = own) (r23 : F.r 23 = va) (r24 : F.r 24 = vint (askE x y w)) (hn : ∀ F' H', SameX [] H H' → Mdy F' p18 p19 p20 (i + 1) → nx0 F' H') :
  W prog J 214 n0 14 (subC [1, 1, 1, 1, 1, 1, 0, 1, 0, 0, 1, 0, 0, 1, 1] (codeOf f14)) F H (contX pl14t prog J 214 n0 14 ct14t [1, 1, 1, 1, 1, 1, 0, 1, 0, 0, 1, 0, 0, 1, 1] (codeOf f14) [nx0] (RetQ prog [.tmp 12] n0 K)) := by
 rw [s14t_3, M.r18, M.r19, M.r20, M.r21]
 have A0 := A H SameX.refl
 have al := A0.l
 have aw := A0.lw
 refine A0.fx fun q1 => A0.fv fun q2 => A0.fw fun q3 => dRens hJ (y := y) A0.sl (by omega) (by omega) fun H1 u S1 s2 => ext0 (ext1 (hold.2 ?_))
 exact dy4 hJ ⟨M.ds, M.r18, M.r19, M.r20, M.r21⟩ (fun H6 S6 => A H6 (S1.trans S6)) hi (S1.sli so (by simp)) (S1.sli s1 (by simp)) s2 r22 r23 r24 rfl rfl (hn := fun F' H6 S6 M' => hn F' H6 (S1.trans S6) M')
end
section
variable {W0 : World} {Post : Value → World → Prop} {h H H0 : List AObj} {K : Value → List AObj → Prop} {n0 : Nat}
theorem loop14 {f : RG} {p18 p19 p20 : Nat} {p q : Pas} {hv u : Value} {ys zs : List Int} {wa wb wc : List UInt8} (kh : kn1 hv = true) (ku : kn1 u = true) (sy : Sli H0 hv 1 ys.length (ys.map vint)) (sz : Sli H0 u 1 zs.length (zs.map vint)) (ly : ys.length < 1000) (lz : zs.length < 1000) (la : wa.length ≤ 1000) (lb : wb.length ≤ 1000) (lc : wc.length ≤ 1000)
  (c18 : H0[p18]? = some (.cells ([p, q, q, q].flatMap Pas.cells) true 0)) (c19 : H0[p19]? = some (.cells [hv, u, u, hv] true 0)) (c20 : H0[p20]? = some (.cells [strV wa, strV wb, strV wc, strV wa] true 0))
  (M0 : f.ds = []) (r18 : f.r 18 = .slice (some ⟨p18, 0, none⟩) 4 4) (r19 : f.r 19 = .slice (some ⟨p19, 0, none⟩) 4 4) (r20 : f.r 20 = .slice (some ⟨p20, 0, none⟩) 4 4) (hK : ∀ h', K (.bool true) h') :
  Sem (J2 prog W0 Post) 214 n0 14 (subC [1, 1, 1, 1, 1, 1] (codeOf f14)) f H0 (RetQ prog [.tmp 12] n0 K) := by
 have hJ := J2.closed prog W0 Post
 have las : ∀ (i : Nat), i < 4 → ∃ x v y w, ∀ H2, SameX [] H0 H2 → Ldy H2 p18 p19 p20 i x v y w := fun i hi => by
  have go : ∀ (v : Value) (y : List Int) (w : List UInt8), ([hv, u, u, hv] : List Value)[i]? = some v → ([strV wa, strV wb, strV wc, strV wa] : List Value)[i]? = some (strV w) → kn1 v = true → Sli H0 v 1 y.length (y.map vint) → y.length < 1000 → w.length ≤ 1000 → ∃ x v y w, ∀ H2, SameX [] H0 H2 → Ldy H2 p18 p19 p20 i x v y w := fun v y w hv hw kv sv ly lw => ⟨[p, q, q, q][i]'hi, v, y, w, fun H2 S =>
   ⟨fun hk => rec4 (enc := Pas.cells) (fun _ => rfl) (fun _ => rfl) (S.get c18 (by simp)) rfl hi fun _ => hk _, fun hk => val4 (S.get c19 (by simp)) hi hv kv fun _ => hk _, fun hk => val4 (S.get c20 (by simp)) hi hw rfl fun _ => hk _, S.sli sv (by simp), ly, lw⟩⟩
  match i, hi with
  | 0, _ => exact go hv ys wa rfl rfl kh sy ly la
  | 1, _ => exact go u zs wb rfl rfl ku sz lz lb
  | 2, _ => exact go u zs wc rfl rfl ku sz lz lc
  | 3, _ => exact go hv ys wa rfl rfl kh sy ly la
 refine W_sound hJ mixed _ ?_
 have e := s14t_1 (J := J2 prog W0 Post) (n0 := n0) (K := K) (f := f) (h := H0)
 refine e.mpr ?_
 refine l14t_2 hJ (fun i : Nat => 4 - i) (fun i F H => SameX [] H0 H ∧ i ≤ 4 ∧ Mdy F p18 p19 p20 i) ?_ (s := 0)
  (.inl ⟨SameX.refl, by omega, ⟨M0, r18, r19, r20, rfl⟩⟩)
 rintro i F H ⟨S, hi, M⟩ ok' hn'
 rw [s14t_2, M.r18, M.r19, M.r20, M.r21, M.ds, lenS]
 refine lssI (cndI (fun hlt => ?_) fun hge => good21 fun H3 _ => retL_same (by simp [unk]) (hK _))
 have hi3 : i < 4 := by omega
 obtain ⟨x, v, y, w, las⟩ := las i hi3
 have A2 := las H S
 have al := A2.l
 have aw := A2.lw
 refine A2.fv fun q1 => good47 hJ (xs := y) A2.sl (by omega) fun cc sz => ?_
 generalize hHn : H ++ [AObj.cells (y.map vint) true sz] = Hn
 have Sn : SameX [] H Hn := by rw [← hHn]; exact SameX.refl.app
 have hon : Hn[H.length]? = some (.cells (y.map vint) true sz) := by rw [← hHn]; simp
 have so : Sli Hn (.slice (some ⟨H.length, 0, none⟩) y.length cc) 1 y.length (y.map vint) := sli_new (wr := true) (sz := sz) hon (by simp) (kn_ints _)
 have Tn := S.trans Sn
 have An := las Hn Tn
 refine An.fx fun q2 => An.fw fun q3 => dEns hJ (y := y) so (by omega) aw fun H3 va S3 s1 => ext0 (ext1 (hold.2 ?_))
 have T3 := Tn.trans S3
 exact dy3 hJ ⟨M.ds, M.r18, M.r19, M.r20, M.r21⟩ (fun H6 S6 => las H6 (T3.trans S6)) (by omega) (S3.sli so (by simp)) s1 rfl rfl rfl fun F' H6 S6 M' => ⟨i + 1, by dsimp only; omega, .inl ⟨T3.trans S6, by omega, M'⟩⟩
theorem walk14 {p : Pas} {wr : List UInt8} {at_ : Int} {b : UInt8} {hv nv : Value} {ys ns : List Int} (sy : Sli h hv 1 ys.length (ys.map vint)) (_ : ys.length < 4611686018427387904) (sn : Sli h nv 1 ns.length (ns.map vint)) (hln : ns.length < 4611686018427387904) (hK : ∀ h', K (.bool true) h') :
  Sem (J2 prog W0 Post) 214 h.length 14 (codeOf f14) (RG.mk (regs [.agg ⟨p.cells⟩, hv, strV wr, vint at_, bV b, nv]) []) h (RetQ prog [.tmp 12] h.length K) := by
 have hJ := J2.closed prog W0 Post
 refine trunc_sound hJ mixed 5 (codeOf f14) (by kernel_rfl) (front14 sy sn hln hK fun H f q zs sv wet p6 p15 M => ?_)
 have e : subC (List.replicate 5 1) (codeOf f14) = .seq (subC [1, 1, 1, 1, 1, 0] (codeOf f14)) (subC [1, 1, 1, 1, 1, 1] (codeOf f14)) := by kernel_rfl
 rw [e]
 refine Sem_seq hJ (region14 hJ M fun f1 H1 ds1 S1 b18 b19 b20 => ?_)
 obtain ⟨q18, e18, c18⟩ := b18
 obtain ⟨q19, e19, c19⟩ := b19
 obtain ⟨u, hu, q20, e20, c20⟩ := b20
 have h1 := M.ly
 have h2 := M.lz
 have h3 := M.lr
 have h4 := M.lw
 exact loop14 M.vh.2.2 M.vs.2.2 (S1.sli M.sy (by simp)) (S1.sli M.sz (by simp)) (by omega) (by omega) (by omega) (by omega) (by omega) c18 c19 c20 ds1 e18 e19 e20 hK
end
end Go.Proofs.Ythnccaajpdnndaa
namespace Go.Proofs.Ythnccaajpdnndaa
open Go.Conc Go.ChangeShapes Go.WideShapes Go.ChangeAt Go.RowKit Go.Proofs.Try
set_option maxRecDepth 100000
theorem trodAll_cons {H : Type} {enc : TypeId × Value → H} {P : Program} {w : World} {base : Nat} {spare : Nat → Bool} {held : Bool} {t : TypeId} {ts : List TypeId} {vs : List Value} {ds : List (DataW H)} {ps : List MemPlace}
  (h : DataW.TrodAll enc P w base spare held (t :: ts) vs ds ps) : ∃ v vs' d ds' p q, vs = v :: vs' ∧ ds = d :: ds' ∧ ps = p ++ q ∧ DataW.Trod enc P w base spare held t v d p ∧ DataW.TrodAll enc P w base spare held ts vs' ds' q := by
 match vs, ds, h with
 | v :: vs, d :: ds, ⟨p, q, h1, h2, h3⟩ => exact ⟨v, vs, d, ds, p, q, rfl, rfl, h3, h1, h2⟩
theorem trodAll_nil {H : Type} {enc : TypeId × Value → H} {P : Program} {w : World} {base : Nat} {spare : Nat → Bool} {held : Bool} {vs : List Value} {ds : List (DataW H)} {ps : List MemPlace}
  (h : DataW.TrodAll enc P w base spare held [] vs ds ps) : vs = [] ∧ ds = [] ∧ ps = [] := by
 match vs, ds, h with
 | [], [], h => exact ⟨rfl, rfl, h⟩
theorem trodAll_mkc {H : Type} {enc : TypeId × Value → H} {P : Program} {w : World} {base : Nat} {spare : Nat → Bool} {held : Bool} {t : TypeId} {ts : List TypeId} {v : Value} {vs : List Value} {d : DataW H} {ds : List (DataW H)} {p q : List MemPlace}
 (h1 : DataW.Trod enc P w base spare held t v d p) (h2 : DataW.TrodAll enc P w base spare held ts vs ds q) : DataW.TrodAll enc P w base spare held (t :: ts) (v :: vs) (d :: ds) (p ++ q) := ⟨p, q, h1, h2, rfl⟩
section
variable {H : Type} {enc : TypeId × Value → H}
theorem fine_int {m : Nat} {n : Int} : Fine m (vint n) := ⟨by simp [VOk], rfl, by simp [ren]⟩
theorem trod_vint {W : World} {n : Nat} {cs : List Value} {r : DataW H × List MemPlace} {t : TypeId} (u : prog.underlying t = some (.int .i64)) (h : DataW.trod enc prog W 0 (fun _ => true) true n t cs = some r) : ∃ z, cs = [vint z] := by
 obtain ⟨z, h1, _⟩ := DataW.trod_int u h
 exact ⟨z, h1⟩
end
section
variable {H : Type} {enc : TypeId × Value → H} {W : World} {n base : Nat} {cs : List Value} {r : DataW H × List MemPlace}
def structOf : Option TypeDesc → Option (List (TypeId × Nat))
 | some (.struct fs) => some (fs.toList.map fun f => (f.type, f.offset))
 | _ => none
theorem trod_fields {t : TypeId} {l : List (TypeId × Nat)} (hs : structOf (prog.underlying t) = some l) (h : DataW.trod enc prog W 0 (fun _ => true) true n t cs = some r) :
  cs.length = prog.cellsOf t ∧ ∃ n' : Nat, ∀ (i : Nat) (ty : TypeId) (off : Nat), l[i]? = some (ty, off) → ∃ r', DataW.trod enc prog W 0 (fun _ => true) true n' ty ((cs.drop off).take (prog.cellsOf ty)) = some r' := by
 unfold structOf at hs
 split at hs
 ·rename_i fs hu
  cases hs
  obtain ⟨xs, n', _, rfl, hl, hxl, hf⟩ := DataW.trod_struct hu h
  refine ⟨hl, n', fun i ty off hi => ?_⟩
  rw [List.getElem?_map, Option.map_eq_some_iff] at hi
  obtain ⟨f, hfi, he⟩ := hi
  cases he
  have hfi' : fs[i]? = some f := by simpa using hfi
  have hil : i < xs.length := by rw [hxl]; exact (Array.getElem?_eq_some_iff.1 hfi').1
  exact ⟨xs[i], by rw [hf i f hfi', List.getElem?_eq_getElem hil]⟩
 ·cases hs
theorem lok_of : ∀ {l : List Value} {m : Nat}, (∀ v ∈ l, VOk m v) → LOk m l
 | [], _, _ => by simp [LOk]
 | v :: l, m, h => by
  simp only [LOk]
  exact ⟨h v (by simp), lok_of fun u hu => h u (by simp [hu])⟩
theorem argOk_agg {l : List Value} (h : ∀ v ∈ l, ArgOk W v) : ArgOk W (.agg ⟨l⟩) := by
 refine ⟨?_, ?_⟩
 ·simp only [VOk, AOk]
  exact lok_of fun v hv => (h v hv).1
 ·simp only [ren, renA, renL_eq]
  congr 2
  rw [List.map_congr_left (g := id) fun v hv => (h v hv).2, List.map_id]
theorem argOk_fine {v : Value} (h : ∀ m, Fine m v) : ArgOk W v := ⟨(h _).1, (h 0).2.2⟩
theorem agg_of {t : TypeId} {l : List (TypeId × Nat)} {v : Value} (hs : structOf (prog.underlying t) = some l) (hval : Value.okWide prog W .any base t v) : ∃ cs, v = .agg cs ∧ Row.okWide prog W .any base t cs := by
 unfold structOf at hs
 split at hs
 ·rename_i fs hu
  simp only [Value.okWide, hu] at hval
  obtain ⟨cs, h1, _, h3⟩ := hval
  exact ⟨cs, h1, h3⟩
 ·cases hs
end
section
variable {H : Type} {enc : TypeId × Value → H} {W : World} {base : Nat}
theorem arg_recs {t : TypeId} {m : Nat} (hs : structOf (prog.underlying t) = some ((List.range m).map fun i => (3, i))) (hc : prog.cellsOf t = m) {v : Value} {d : DataW H} {ps : List MemPlace}
  (hval : Value.okWide prog W .any base t v) (hd : DataW.Trod enc prog W 0 (fun _ => true) true t v d ps) : ∃ zs : List Int, zs.length = m ∧ v = .agg ⟨zs.map vint⟩ ∧ ArgOk W v := by
 have u3 : prog.underlying 3 = some (.int .i64) := by kernel_rfl
 have c3 : prog.cellsOf 3 = 1 := by kernel_rfl
 obtain ⟨cs, rfl, _⟩ := agg_of hs hval
 obtain ⟨cs⟩ := cs
 obtain ⟨fuel, hf⟩ := hd
 obtain ⟨hl, n', hf⟩ := trod_fields (cs := cs) hs hf
 rw [hc] at hl
 have hz : ∀ i, i < m → ∃ z, cs[i]? = some (vint z) := fun i hi => by
  obtain ⟨r', g⟩ := hf i 3 i (by rw [List.getElem?_map, List.getElem?_range hi]; rfl)
  rw [c3] at g
  obtain ⟨z, hz⟩ := trod_vint u3 g
  refine ⟨z, ?_⟩
  have := congrArg (fun l => l[0]?) hz
  simpa [List.getElem?_take, List.getElem?_drop] using this
 have hall : ∀ v ∈ cs, ∃ z, v = vint z := fun v hv => by
  obtain ⟨i, hi, rfl⟩ := List.getElem_of_mem hv
  obtain ⟨z, e⟩ := hz i (by omega)
  rw [List.getElem?_eq_getElem hi] at e
  exact ⟨z, Option.some.inj e⟩
 have key : ∀ (l : List Value), (∀ v ∈ l, ∃ z, v = vint z) → ∃ zs : List Int, l = zs.map vint := by
  intro l
  induction l with
  | nil => exact fun _ => ⟨[], rfl⟩
  | cons v l ih =>
   intro h
   obtain ⟨z, rfl⟩ := h v (by simp)
   obtain ⟨zs, e⟩ := ih fun u hu => h u (by simp [hu])
   exact ⟨z :: zs, by rw [e]; rfl⟩
 obtain ⟨zs, rfl⟩ := key cs hall
 refine ⟨zs, by simpa using hl, rfl, argOk_agg fun v hv => ?_⟩
 obtain ⟨z, rfl⟩ := hall v hv
 exact argOk_fine fun m => fine_int
theorem arg_pas {v : Value} {d : DataW H} {ps : List MemPlace} (hval : Value.okWide prog W .any base 31 v) (hd : DataW.Trod enc prog W 0 (fun _ => true) true 31 v d ps) : ∃ w : Pas, v = .agg ⟨w.cells⟩ ∧ ArgOk W v := by
 obtain ⟨zs, hl, rfl, ok⟩ := arg_recs (m := 6) (by kernel_rfl) (by kernel_rfl) hval hd
 match zs, hl with
 | [a, b, c, d, e, f], _ => exact ⟨⟨a, b, c, d, e, f⟩, rfl, ok⟩
end
theorem law_run2S {g : FuncId} {fn : Func} {c : Code} (hf : prog.funcs[g]? = some fn) (hb : fn.body = some c) (hin : prog.inits.idxOf? g = none) (W₀ : World) (args : List Value) (ha : args.length ≤ fn.ntmps) (hok : ∀ v ∈ args, ArgOk W₀ v)
  (walk : ∀ Post, Sem (J2 prog W₀ Post) fn.ntmps (absH W₀).length g c ⟨regs args, []⟩ (absH W₀) (RetQ prog fn.results.toList (absH W₀).length fun v _ => v = .bool true)) :
  Ends prog (fun v w' => v = .bool true ∧ Below W₀.heap.size W₀ w') (solo (G (Frame.enter prog g ⟨args⟩ .normal) []) W₀) #[] := by
 refine run_of_J2 (W0 := W₀) (ft := startFt W₀) (top_of_sem2 hf hb hin ha rfl (fun i => ?_) (start_rel W₀) (walk _) ?_) (fun b hb => hb) (fun b hb => hb.elim) rfl
 ·show VRel (absH W₀).length idEnv (args.getD i unk) (args.getD i undef)
  simp only [List.getD_eq_getElem?_getD]
  cases hi : args[i]? with
  | none => exact .inl rfl
  | some v =>
   obtain ⟨h1, h2⟩ := hok v (List.mem_of_getElem? hi)
   exact .inr ⟨by rw [absH_len]; exact h1, h2.symm⟩
 ·intro v h' ρ' w' ft' cv hv H' _ _ hcv hB
  subst hv
  refine ⟨?_, below_of H' hB⟩
  rcases hcv with e | ⟨_, e⟩
  ·cases e
  ·rw [e]
   rfl
section
variable {H : Type} {enc : TypeId × Value → H} {W : World} {base : Nat}
theorem arg_str {t : TypeId} (u : prog.underlying t = some .string) {v : Value} {d : DataW H} {ps : List MemPlace} (hval : Value.okWide prog W .any base t v) (hd : DataW.Trod enc prog W 0 (fun _ => true) true t v d ps) : ∃ w : List UInt8, v = strV w ∧ ArgOk W v := by
 obtain ⟨⟨⟨w⟩⟩, rfl, _⟩ := Go.ChangeMaps.open_string u hval hd
 exact ⟨w, rfl, argOk_fine fun m => ⟨by simp [VOk], rfl, by simp [ren]⟩⟩
theorem arg_byte {t : TypeId} (u : prog.underlying t = some (.int .u8)) {v : Value} {d : DataW H} {ps : List MemPlace} (hval : Value.okWide prog W .any base t v) (hd : DataW.Trod enc prog W 0 (fun _ => true) true t v d ps) : ∃ b : UInt8, v = bV b ∧ ArgOk W v := by
 obtain ⟨n, rfl, _, _, hw⟩ := open_int u hval hd
 have hn : 0 ≤ n ∧ n < 256 := by
  have e1 : IntKind.u8.min = 0 := rfl
  have e2 : IntKind.u8.max = 255 := rfl
  simp only [Lit.wf, Bool.and_eq_true, decide_eq_true_eq] at hw
  omega
 refine ⟨UInt8.ofNat n.toNat, ?_, argOk_fine fun m => ⟨by simp [VOk], rfl, by simp [ren]⟩⟩
 unfold bV
 rw [UInt8.toNat_ofNat', Nat.mod_eq_of_lt (by omega), Int.toNat_of_nonneg hn.1]
end
theorem lifted14 (os : Os) (started : os.Started) (H : Type) (enc : TypeId × Value → H) :
  ReturnsInLeavingWide {} checked os 14 .any (Rows.grassDaysSpec.pre6 enc prog f14 Rows.grassDaysRow.domain false) (Rows.grassDaysSpec.post enc prog f14 false true false false) := by
 refine returnsInLeavingWide_of_change_sized (C := checked) own started at14
  (ChangeSpec.witness6 (enc := enc) (C := checked) false ⟨#[], #[.agg #[.int .i64 0, .int .i64 0, .int .i64 0, .int .i64 0, .int .i64 0, .int .i64 0], .slice none 0 0, .string ⟨#[]⟩, .int .i64 0, .int .u8 0, .slice none 0 0], []⟩ 8 (by kernel_rfl) (by kernel_rfl) (by kernel_rfl) (by kernel_rfl)) ?_
 intro W base args ds gs before hval0 hW _ hsz0 _
 have hsz : (DataW.weightsEach prog (f14.params.toList ++ Rows.grassDaysSpec.plain.varTypes prog) (ds ++ gs)).all (· ≤ reachBytes) = true := hsz0
 clear hsz0
 have hval : ∀ (j : Nat) t v, f14.params[j]? = some t → args[j]? = some v → Value.okWide prog W .any base t v := hval0
 have hW' := hW
 obtain ⟨p, q, hA0, hV, rfl, _, _⟩ := hW
 have hA : DataW.TrodAll enc prog W 0 (fun _ => true) true f14.params.toList args.toList ds p := hA0
 have hps : f14.params = #[31, 25, 9, 3, 5, 25] := by kernel_rfl
 rw [hps] at hA hval hsz
 obtain ⟨args⟩ := args
 have r0 : DataW.TrodAll enc prog W 0 (fun _ => true) true [31, 25, 9, 3, 5, 25] args ds p := hA
 obtain ⟨v0, vs0, d0, ds0, p0, q0, hv0, hd0, hp0, h0, r1⟩ := trodAll_cons r0
 obtain ⟨v1, vs1, d1, ds1, p1, q1, hv1, hd1, hp1, h1, r2⟩ := trodAll_cons r1
 obtain ⟨v2, vs2, d2, ds2, p2, q2, hv2, hd2, hp2, h2, r3⟩ := trodAll_cons r2
 obtain ⟨v3, vs3, d3, ds3, p3, q3, hv3, hd3, hp3, h3, r4⟩ := trodAll_cons r3
 obtain ⟨v4, vs4, d4, ds4, p4, q4, hv4, hd4, hp4, h4, r5⟩ := trodAll_cons r4
 obtain ⟨v5, vs5, d5, ds5, p5, q5, hv5, hd5, hp5, h5, r6⟩ := trodAll_cons r5
 obtain ⟨hvn, hdn, hpn⟩ := trodAll_nil r6
 subst hvn hdn hpn
 subst hv5 hd5 hp5
 subst hv4 hd4 hp4
 subst hv3 hd3 hp3
 subst hv2 hd2 hp2
 subst hv1 hd1 hp1
 subst hv0 hd0 hp0
 obtain ⟨rfl, rfl⟩ := trodVars_none hV
 have u3 : prog.underlying 3 = some (.int .i64) := by kernel_rfl
 have u27 : prog.underlying 25 = some (.slice 3) := by kernel_rfl
 have u4 : prog.underlying 4 = some .bool := by kernel_rfl
 have c3 : prog.cellsOf 3 = 1 := by kernel_rfl
 have u900 : prog.underlying 9 = some .string := by kernel_rfl
 have u500 : prog.underlying 5 = some (.int .u8) := by kernel_rfl
 have b3 : prog.bytesOf 3 = 8 := by kernel_rfl
 have hlt : ∀ x ∈ p0 ++ (p1 ++ (p2 ++ (p3 ++ (p4 ++ (p5 ++ []))))), x.block < W.heap.size := fun x hx => by simpa using hW'.lt x (by simpa using hx)
 have hargs : ∀ (W' : World), Below W.heap.size W W' → DataW.TrodAll enc prog W' 0 (fun b => decide (b < W.heap.size)) true [31, 25, 9, 3, 5, 25] [v0, v1, v2, v3, v4, v5] [d0, d1, d2, d3, d4, d5] (p0 ++ (p1 ++ (p2 ++ (p3 ++ (p4 ++ (p5 ++ [])))))) := fun W' hn =>
  trodAll_mkc (Below.trod laidOut (by kernel_rfl) (of_decide_eq_true (by kernel_rfl)) h0 hn fun x hx => hlt x (by simp [hx])) (trodAll_mkc (Below.trod laidOut (by kernel_rfl) (of_decide_eq_true (by kernel_rfl)) h1 hn fun x hx => hlt x (by simp [hx])) (trodAll_mkc (Below.trod laidOut (by kernel_rfl) (of_decide_eq_true (by kernel_rfl)) h2 hn fun x hx => hlt x (by simp [hx])) (trodAll_mkc (Below.trod laidOut (by kernel_rfl) (of_decide_eq_true (by kernel_rfl)) h3 hn fun x hx => hlt x (by simp [hx])) (trodAll_mkc (Below.trod laidOut (by kernel_rfl) (of_decide_eq_true (by kernel_rfl)) h4 hn fun x hx => hlt x (by simp [hx])) (trodAll_mkc (Below.trod laidOut (by kernel_rfl) (of_decide_eq_true (by kernel_rfl)) h5 hn fun x hx => hlt x (by simp [hx])) (rfl))))))
 obtain ⟨w0, rfl, ok0⟩ := arg_pas (hval 0 31 v0 rfl rfl) h0
 obtain ⟨ns1, sn1, ok1, hbig1⟩ := arg_ints u27 u3 c3 (hval 1 25 v1 rfl rfl) h1
 have hln1 : ns1.length < 4611686018427387904 := by
  rcases hbig1 with rfl | ⟨es, sp, rfl, hle⟩
  ·simp
  ·have := sized_slice hsz (j := 1) (t := 25) (e := 3) rfl rfl u27
   rw [b3] at this
   simp only [reachBytes] at this
   omega
 obtain ⟨w2, rfl, ok2⟩ := arg_str u900 (hval 2 9 v2 rfl rfl) h2
 obtain ⟨z3, rfl, _, _, _⟩ := open_int u3 (hval 3 3 v3 rfl rfl) h3
 obtain ⟨w4, rfl, ok4⟩ := arg_byte u500 (hval 4 5 v4 rfl rfl) h4
 obtain ⟨ns5, sn5, ok5, hbig5⟩ := arg_ints u27 u3 c3 (hval 5 25 v5 rfl rfl) h5
 have hln5 : ns5.length < 4611686018427387904 := by
  rcases hbig5 with rfl | ⟨es, sp, rfl, hle⟩
  ·simp
  ·have := sized_slice hsz (j := 5) (t := 25) (e := 3) rfl rfl u27
   rw [b3] at this
   simp only [reachBytes] at this
   omega
 obtain ⟨M, last, o, w', t', r1, r2, r3, r4⟩ := law_run2S (g := 14) (fn := f14) at14 body14 (by kernel_rfl) W [.agg ⟨Pas.cells w0⟩, v1, strV w2, vint z3, bV w4, v5] (Nat.le_of_ble_eq_true (by kernel_rfl : Nat.ble 6 f14.ntmps = true))
  (by
   intro v hv
   simp only [List.mem_cons, List.not_mem_nil, or_false] at hv
   rcases hv with rfl | rfl | rfl | rfl | rfl | rfl
   ·exact ok0
   ·exact ok1
   ·exact ok2
   ·exact argOk_int
   ·exact ok4
   ·exact ok5)
  (fun Post => walk14 (K := fun v _ => v = .bool true) sn1 hln1 sn5 hln5 fun _ => rfl)
 refine ⟨M, last, o, w', t', r1, r2, r3, r4.mono fun v hF => ?_⟩
 obtain ⟨rfl, hbelow⟩ := hF
 refine ⟨_, _, _, [], _, [], hW', ?_, hargs _ hbelow, by rfl, hbelow.frame _, fun h => by cases h⟩
 exact trodAll_mk1 (shut_bool u4 true)
theorem grassDays_holds : Rows.GrassDaysSaid :=
 OpenClaim.holds_of_wide_leaving 14 f14 rfl rfl rfl rfl rfl rfl rfl ⟨rfl, rfl, rfl, rfl, rfl⟩ rfl rfl rfl rfl rfl (by kernel_rfl) at14 (by kernel_rfl)
  (of_decide_eq_true (by kernel_rfl)) (by unfold Func.isWrapper; first | (rw [if_pos (by decide +kernel)]; kernel_rfl) | (rw [if_neg (by decide +kernel)]; exact ⟨rfl, rfl⟩))
  (fun os started H enc _ => lifted14 os started H enc)
#print axioms grassDays_holds
end Go.Proofs.Ythnccaajpdnndaa
