/- GrassWaits answers true at every input, and its arguments read behind the call as they read before. No conditions. -/
import Derived.Test.YthnccaajpdnndaaK2
import Derived.Test.YthnccaajpdnndaaK6
import Derived.Test.YthnccaajpdnndaaK5
import Derived.Test.YthnccaajpdnndaaK3
import Derived.Deep.Slices
set_option linter.unusedSimpArgs false
set_option linter.unusedVariables false
namespace Go.Proofs.Ythnccaajpdnndaa
open Go.Conc
abbrev OpIs (P : Program) (J : JT) (ops : Array Oper) (i d N : Nat) (X : RG → List AObj → (Value → List AObj → Prop) → Prop) : Prop :=
 ops[i]? = some (opGet ops i) ∧ (opGet ops i).dst = some d ∧ dstOk N (opGet ops i) = true ∧ (∀ r, gd ops (opGet ops i) r = some true) ∧ ∀ (f : RG) (h : List AObj) (H : Value → List AObj → Prop), opW P (Good P J) (opGet ops i) f.r h H = X f h H
end Go.Proofs.Ythnccaajpdnndaa
namespace Go.Proofs.Ythnccaajpdnndaa
open Go.Conc Go.Proofs.Try
set_option maxRecDepth 100000
set_option maxHeartbeats 4000000
set_option linter.unusedVariables false
section
variable {main : Bool} {J : JT} {n0 : Nat} {h : List AObj} {K : Value → List AObj → Prop}
section
variable {Sx : RG → List AObj → Prop}
theorem at17 : prog.funcs[17]? = some f17 := by kernel_rfl
theorem body17 : f17.body = some (codeOf f17) := by kernel_rfl
def pl17 : Plans := []
def ct17 : Cuts := .go
theorem pok17 : plansOk prog pl17 (trunc 4 (codeOf f17)) = true := by kernel_rfl
theorem e17 {a0 a1 a2 a3 a4 a5 a6 a7 : Value} : W prog J 221 h.length 17 (trunc 4 (codeOf f17)) (RG.mk (regs [a0, a1, a2, a3, a4, a5, a6, a7]) []) h (thenK Sx (RetQ prog [.tmp 16] h.length K)) =
(aBox a0 h fun v1 h2 =>
 aBox a2 h2 fun v3 h4 =>
 aLenS a1 fun v5 =>
 aBin prog .gtr 3 v5 (vint 20) fun v6 =>
 cnd v6
(Good prog J 21 [] h4 fun v7 h8 =>
 retL h.length K [] [v7] h8)
(Good prog J 22 [a7] h4 fun v9 h10 =>
 Good prog J 24 [v9] h10 fun v11 h12 =>
 Good prog J 25 [v9, (vint 7)] h12 fun v13 h14 =>
 aAlloc [(vint 0), (vint 0), (vint 0), (vint 0), (vint 0), (vint 0)] h14 fun v15 h16 =>
 aAlloc [(vint 0), (vint 0), (vint 0)] h16 fun v17 h18 =>
 aStore 6 v15 v11 h18 fun h19 =>
 aStore 3 v17 v13 h19 fun h20 =>
 Sx (RG.p (RG.p (RG.p (RG.p (RG.p (RG.p (RG.p (RG.p (RG.p (RG.p (RG.p (RG.p (RG.p (RG.p (RG.p (RG.mk (regs [a0, a1, a2, a3, a4, a5, a6, a7]) []) 8 v1) 10 v3) 16 (Value.bool false)) 37 a1) 38 v5) 39 v6) 41 a7) 42 v9) 17 v9) 43 v9) 44 v11) 45 v9) 46 v13) 18 v15) 19 v17) h20)) := top_eq pok17 ct17 (by kernel_rfl)
end
noncomputable def ops17_1 : Array Oper := opsAt [1, 1, 1, 1, 0] (codeOf f17)
theorem r17_1 : subC [1, 1, 1, 1, 0] (codeOf f17) = .region 5 ops17_1 true := by kernel_rfl
theorem z17_1 : ops17_1.size = 18 := by kernel_rfl
theorem o17_1_0 {J : JT} : OpIs prog J ops17_1 0 47 221 fun f h H => (aLoad true 6 (f.r 8) h fun v1 =>
 H v1 h) := ⟨by kernel_rfl, by kernel_rfl, by kernel_rfl, fun _ => by kernel_rfl, fun _ _ _ => by kernel_rfl⟩
theorem o17_1_1 {J : JT} : OpIs prog J ops17_1 1 48 221 fun f h H => (aLoad true 6 (f.r 18) h fun v1 =>
 H v1 h) := ⟨by kernel_rfl, by kernel_rfl, by kernel_rfl, fun _ => by kernel_rfl, fun _ _ _ => by kernel_rfl⟩
theorem o17_1_2 {J : JT} : OpIs prog J ops17_1 2 49 221 fun f h H => (aLoad true 6 (f.r 18) h fun v1 =>
 H v1 h) := ⟨by kernel_rfl, by kernel_rfl, by kernel_rfl, fun _ => by kernel_rfl, fun _ _ _ => by kernel_rfl⟩
theorem o17_1_3 {J : JT} : OpIs prog J ops17_1 3 50 221 fun f h H => ((((3 * 6 : Nat) ≤ 16777216 ∧ (3 : Nat) ≤ 16777216 ∧ List.length [(vint 0), (vint 0), (vint 0), (vint 0), (vint 0), (vint 0)] = 6) ∧ aFill (zrep [(vint 0), (vint 0), (vint 0), (vint 0), (vint 0), (vint 0)] 3) [(0, 6, (f.r 47)), (6, 6, (f.r 48)), (12, 6, (f.r 49))] fun c1 =>
 aNewS 3 c1 h fun v2 h3 =>
 H v2 h3)) := ⟨by kernel_rfl, by kernel_rfl, by kernel_rfl, fun _ => by kernel_rfl, fun _ _ _ => by kernel_rfl⟩
theorem o17_1_4 {J : JT} : OpIs prog J ops17_1 4 51 221 fun f h H => (H (f.r 1) h) := ⟨by kernel_rfl, by kernel_rfl, by kernel_rfl, fun _ => by kernel_rfl, fun _ _ _ => by kernel_rfl⟩
theorem o17_1_5 {J : JT} : OpIs prog J ops17_1 5 52 221 fun f h H => (H (f.r 17) h) := ⟨by kernel_rfl, by kernel_rfl, by kernel_rfl, fun _ => by kernel_rfl, fun _ _ _ => by kernel_rfl⟩
theorem o17_1_6 {J : JT} : OpIs prog J ops17_1 6 53 221 fun f h H => (aOff (f.r 19) 0 fun v1 =>
 H v1 h) := ⟨by kernel_rfl, by kernel_rfl, by kernel_rfl, fun _ => by kernel_rfl, fun _ _ _ => by kernel_rfl⟩
theorem o17_1_7 {J : JT} : OpIs prog J ops17_1 7 54 221 fun f h H => (aLoad false 1 (f.r 53) h fun v1 =>
 H v1 h) := ⟨by kernel_rfl, by kernel_rfl, by kernel_rfl, fun _ => by kernel_rfl, fun _ _ _ => by kernel_rfl⟩
theorem o17_1_8 {J : JT} : OpIs prog J ops17_1 8 55 221 fun f h H => (Good prog J 30 [(f.r 52), (f.r 54), (vint 7)] h fun v1 h2 =>
 H v1 h2) := ⟨by kernel_rfl, by kernel_rfl, by kernel_rfl, fun _ => by kernel_rfl, fun _ _ _ => by kernel_rfl⟩
theorem o17_1_9 {J : JT} : OpIs prog J ops17_1 9 56 221 fun f h H => (H (f.r 1) h) := ⟨by kernel_rfl, by kernel_rfl, by kernel_rfl, fun _ => by kernel_rfl, fun _ _ _ => by kernel_rfl⟩
theorem o17_1_10 {J : JT} : OpIs prog J ops17_1 10 57 221 fun f h H => ((((3 * 1 : Nat) ≤ 16777216 ∧ (3 : Nat) ≤ 16777216 ∧ List.length [(Value.slice none 0 0)] = 1) ∧ aFill (zrep [(Value.slice none 0 0)] 3) [(0, 1, (f.r 51)), (1, 1, (f.r 55)), (2, 1, (f.r 56))] fun c1 =>
 aNewS 3 c1 h fun v2 h3 =>
 H v2 h3)) := ⟨by kernel_rfl, by kernel_rfl, by kernel_rfl, fun _ => by kernel_rfl, fun _ _ _ => by kernel_rfl⟩
theorem o17_1_11 {J : JT} : OpIs prog J ops17_1 11 58 221 fun f h H => (aLoad true 3 (f.r 10) h fun v1 =>
 H v1 h) := ⟨by kernel_rfl, by kernel_rfl, by kernel_rfl, fun _ => by kernel_rfl, fun _ _ _ => by kernel_rfl⟩
theorem o17_1_12 {J : JT} : OpIs prog J ops17_1 12 59 221 fun f h H => (aLoad true 3 (f.r 19) h fun v1 =>
 H v1 h) := ⟨by kernel_rfl, by kernel_rfl, by kernel_rfl, fun _ => by kernel_rfl, fun _ _ _ => by kernel_rfl⟩
theorem o17_1_13 {J : JT} : OpIs prog J ops17_1 13 60 221 fun f h H => (aLoad true 3 (f.r 19) h fun v1 =>
 H v1 h) := ⟨by kernel_rfl, by kernel_rfl, by kernel_rfl, fun _ => by kernel_rfl, fun _ _ _ => by kernel_rfl⟩
theorem o17_1_14 {J : JT} : OpIs prog J ops17_1 14 61 221 fun f h H => ((((3 * 3 : Nat) ≤ 16777216 ∧ (3 : Nat) ≤ 16777216 ∧ List.length [(vint 0), (vint 0), (vint 0)] = 3) ∧ aFill (zrep [(vint 0), (vint 0), (vint 0)] 3) [(0, 3, (f.r 58)), (3, 3, (f.r 59)), (6, 3, (f.r 60))] fun c1 =>
 aNewS 3 c1 h fun v2 h3 =>
 H v2 h3)) := ⟨by kernel_rfl, by kernel_rfl, by kernel_rfl, fun _ => by kernel_rfl, fun _ _ _ => by kernel_rfl⟩
theorem o17_1_15 {J : JT} : OpIs prog J ops17_1 15 20 221 fun f h H => (H (f.r 50) h) := ⟨by kernel_rfl, by kernel_rfl, by kernel_rfl, fun _ => by kernel_rfl, fun _ _ _ => by kernel_rfl⟩
theorem o17_1_16 {J : JT} : OpIs prog J ops17_1 16 21 221 fun f h H => (H (f.r 57) h) := ⟨by kernel_rfl, by kernel_rfl, by kernel_rfl, fun _ => by kernel_rfl, fun _ _ _ => by kernel_rfl⟩
theorem o17_1_17 {J : JT} : OpIs prog J ops17_1 17 22 221 fun f h H => (H (f.r 61) h) := ⟨by kernel_rfl, by kernel_rfl, by kernel_rfl, fun _ => by kernel_rfl, fun _ _ _ => by kernel_rfl⟩
noncomputable def ops17_2 : Array Oper := opsAt [1, 1, 1, 1, 1, 0] (codeOf f17)
theorem r17_2 : subC [1, 1, 1, 1, 1, 0] (codeOf f17) = .region 6 ops17_2 true := by kernel_rfl
theorem z17_2 : ops17_2.size = 31 := by kernel_rfl
theorem o17_2_0 {J : JT} : OpIs prog J ops17_2 0 62 221 fun f h H => (H (f.r 3) h) := ⟨by kernel_rfl, by kernel_rfl, by kernel_rfl, fun _ => by kernel_rfl, fun _ _ _ => by kernel_rfl⟩
theorem o17_2_1 {J : JT} : OpIs prog J ops17_2 1 63 221 fun f h H => (H (f.r 17) h) := ⟨by kernel_rfl, by kernel_rfl, by kernel_rfl, fun _ => by kernel_rfl, fun _ _ _ => by kernel_rfl⟩
theorem o17_2_2 {J : JT} : OpIs prog J ops17_2 2 64 221 fun f h H => (aOff (f.r 19) 0 fun v1 =>
 H v1 h) := ⟨by kernel_rfl, by kernel_rfl, by kernel_rfl, fun _ => by kernel_rfl, fun _ _ _ => by kernel_rfl⟩
theorem o17_2_3 {J : JT} : OpIs prog J ops17_2 3 65 221 fun f h H => (aLoad false 1 (f.r 64) h fun v1 =>
 H v1 h) := ⟨by kernel_rfl, by kernel_rfl, by kernel_rfl, fun _ => by kernel_rfl, fun _ _ _ => by kernel_rfl⟩
theorem o17_2_4 {J : JT} : OpIs prog J ops17_2 4 66 221 fun f h H => (aBin prog .sub 3 (f.r 65) (vint 1) fun v1 =>
 H v1 h) := ⟨by kernel_rfl, by kernel_rfl, by kernel_rfl, fun _ => by kernel_rfl, fun _ _ _ => by kernel_rfl⟩
theorem o17_2_5 {J : JT} : OpIs prog J ops17_2 5 67 221 fun f h H => (Good prog J 26 [(f.r 63), (f.r 66)] h fun v1 h2 =>
 H v1 h2) := ⟨by kernel_rfl, by kernel_rfl, by kernel_rfl, fun _ => by kernel_rfl, fun _ _ _ => by kernel_rfl⟩
theorem o17_2_6 {J : JT} : OpIs prog J ops17_2 6 68 221 fun f h H => (H (f.r 3) h) := ⟨by kernel_rfl, by kernel_rfl, by kernel_rfl, fun _ => by kernel_rfl, fun _ _ _ => by kernel_rfl⟩
theorem o17_2_7 {J : JT} : OpIs prog J ops17_2 7 69 221 fun f h H => ((((3 * 1 : Nat) ≤ 16777216 ∧ (3 : Nat) ≤ 16777216 ∧ List.length [(vint 0)] = 1) ∧ aFill (zrep [(vint 0)] 3) [(0, 1, (f.r 62)), (1, 1, (f.r 67)), (2, 1, (f.r 68))] fun c1 =>
 aNewS 3 c1 h fun v2 h3 =>
 H v2 h3)) := ⟨by kernel_rfl, by kernel_rfl, by kernel_rfl, fun _ => by kernel_rfl, fun _ _ _ => by kernel_rfl⟩
theorem o17_2_8 {J : JT} : OpIs prog J ops17_2 8 70 221 fun f h H => (H (f.r 4) h) := ⟨by kernel_rfl, by kernel_rfl, by kernel_rfl, fun _ => by kernel_rfl, fun _ _ _ => by kernel_rfl⟩
theorem o17_2_9 {J : JT} : OpIs prog J ops17_2 9 71 221 fun f h H => (H (f.r 17) h) := ⟨by kernel_rfl, by kernel_rfl, by kernel_rfl, fun _ => by kernel_rfl, fun _ _ _ => by kernel_rfl⟩
theorem o17_2_10 {J : JT} : OpIs prog J ops17_2 10 72 221 fun f h H => (aOff (f.r 18) 1 fun v1 =>
 H v1 h) := ⟨by kernel_rfl, by kernel_rfl, by kernel_rfl, fun _ => by kernel_rfl, fun _ _ _ => by kernel_rfl⟩
theorem o17_2_11 {J : JT} : OpIs prog J ops17_2 11 73 221 fun f h H => (aLoad false 1 (f.r 72) h fun v1 =>
 H v1 h) := ⟨by kernel_rfl, by kernel_rfl, by kernel_rfl, fun _ => by kernel_rfl, fun _ _ _ => by kernel_rfl⟩
theorem o17_2_12 {J : JT} : OpIs prog J ops17_2 12 74 221 fun f h H => (Good prog J 26 [(f.r 71), (f.r 73)] h fun v1 h2 =>
 H v1 h2) := ⟨by kernel_rfl, by kernel_rfl, by kernel_rfl, fun _ => by kernel_rfl, fun _ _ _ => by kernel_rfl⟩
theorem o17_2_13 {J : JT} : OpIs prog J ops17_2 13 75 221 fun f h H => (H (f.r 4) h) := ⟨by kernel_rfl, by kernel_rfl, by kernel_rfl, fun _ => by kernel_rfl, fun _ _ _ => by kernel_rfl⟩
theorem o17_2_14 {J : JT} : OpIs prog J ops17_2 14 76 221 fun f h H => ((((3 * 1 : Nat) ≤ 16777216 ∧ (3 : Nat) ≤ 16777216 ∧ List.length [(vint 0)] = 1) ∧ aFill (zrep [(vint 0)] 3) [(0, 1, (f.r 70)), (1, 1, (f.r 74)), (2, 1, (f.r 75))] fun c1 =>
 aNewS 3 c1 h fun v2 h3 =>
 H v2 h3)) := ⟨by kernel_rfl, by kernel_rfl, by kernel_rfl, fun _ => by kernel_rfl, fun _ _ _ => by kernel_rfl⟩
theorem o17_2_15 {J : JT} : OpIs prog J ops17_2 15 77 221 fun f h H => (H (f.r 5) h) := ⟨by kernel_rfl, by kernel_rfl, by kernel_rfl, fun _ => by kernel_rfl, fun _ _ _ => by kernel_rfl⟩
theorem o17_2_16 {J : JT} : OpIs prog J ops17_2 16 78 221 fun f h H => (H (f.r 17) h) := ⟨by kernel_rfl, by kernel_rfl, by kernel_rfl, fun _ => by kernel_rfl, fun _ _ _ => by kernel_rfl⟩
theorem o17_2_17 {J : JT} : OpIs prog J ops17_2 17 79 221 fun f h H => (Good prog J 26 [(f.r 78), (vint 20)] h fun v1 h2 =>
 H v1 h2) := ⟨by kernel_rfl, by kernel_rfl, by kernel_rfl, fun _ => by kernel_rfl, fun _ _ _ => by kernel_rfl⟩
theorem o17_2_18 {J : JT} : OpIs prog J ops17_2 18 80 221 fun f h H => (H (f.r 5) h) := ⟨by kernel_rfl, by kernel_rfl, by kernel_rfl, fun _ => by kernel_rfl, fun _ _ _ => by kernel_rfl⟩
theorem o17_2_19 {J : JT} : OpIs prog J ops17_2 19 81 221 fun f h H => ((((3 * 1 : Nat) ≤ 16777216 ∧ (3 : Nat) ≤ 16777216 ∧ List.length [(vint 0)] = 1) ∧ aFill (zrep [(vint 0)] 3) [(0, 1, (f.r 77)), (1, 1, (f.r 79)), (2, 1, (f.r 80))] fun c1 =>
 aNewS 3 c1 h fun v2 h3 =>
 H v2 h3)) := ⟨by kernel_rfl, by kernel_rfl, by kernel_rfl, fun _ => by kernel_rfl, fun _ _ _ => by kernel_rfl⟩
theorem o17_2_20 {J : JT} : OpIs prog J ops17_2 20 82 221 fun f h H => (H (f.r 6) h) := ⟨by kernel_rfl, by kernel_rfl, by kernel_rfl, fun _ => by kernel_rfl, fun _ _ _ => by kernel_rfl⟩
theorem o17_2_21 {J : JT} : OpIs prog J ops17_2 21 83 221 fun f h H => (H (f.r 17) h) := ⟨by kernel_rfl, by kernel_rfl, by kernel_rfl, fun _ => by kernel_rfl, fun _ _ _ => by kernel_rfl⟩
theorem o17_2_22 {J : JT} : OpIs prog J ops17_2 22 84 221 fun f h H => (aOff (f.r 19) 0 fun v1 =>
 H v1 h) := ⟨by kernel_rfl, by kernel_rfl, by kernel_rfl, fun _ => by kernel_rfl, fun _ _ _ => by kernel_rfl⟩
theorem o17_2_23 {J : JT} : OpIs prog J ops17_2 23 85 221 fun f h H => (aLoad false 1 (f.r 84) h fun v1 =>
 H v1 h) := ⟨by kernel_rfl, by kernel_rfl, by kernel_rfl, fun _ => by kernel_rfl, fun _ _ _ => by kernel_rfl⟩
theorem o17_2_24 {J : JT} : OpIs prog J ops17_2 24 86 221 fun f h H => (Good prog J 23 [(f.r 83), (vint 1), (f.r 85)] h fun v1 h2 =>
 H v1 h2) := ⟨by kernel_rfl, by kernel_rfl, by kernel_rfl, fun _ => by kernel_rfl, fun _ _ _ => by kernel_rfl⟩
theorem o17_2_25 {J : JT} : OpIs prog J ops17_2 25 87 221 fun f h H => (H (f.r 6) h) := ⟨by kernel_rfl, by kernel_rfl, by kernel_rfl, fun _ => by kernel_rfl, fun _ _ _ => by kernel_rfl⟩
theorem o17_2_26 {J : JT} : OpIs prog J ops17_2 26 88 221 fun f h H => ((((3 * 1 : Nat) ≤ 16777216 ∧ (3 : Nat) ≤ 16777216 ∧ List.length [(vint 0)] = 1) ∧ aFill (zrep [(vint 0)] 3) [(0, 1, (f.r 82)), (1, 1, (f.r 86)), (2, 1, (f.r 87))] fun c1 =>
 aNewS 3 c1 h fun v2 h3 =>
 H v2 h3)) := ⟨by kernel_rfl, by kernel_rfl, by kernel_rfl, fun _ => by kernel_rfl, fun _ _ _ => by kernel_rfl⟩
theorem o17_2_27 {J : JT} : OpIs prog J ops17_2 27 23 221 fun f h H => (H (f.r 69) h) := ⟨by kernel_rfl, by kernel_rfl, by kernel_rfl, fun _ => by kernel_rfl, fun _ _ _ => by kernel_rfl⟩
theorem o17_2_28 {J : JT} : OpIs prog J ops17_2 28 24 221 fun f h H => (H (f.r 76) h) := ⟨by kernel_rfl, by kernel_rfl, by kernel_rfl, fun _ => by kernel_rfl, fun _ _ _ => by kernel_rfl⟩
theorem o17_2_29 {J : JT} : OpIs prog J ops17_2 29 25 221 fun f h H => (H (f.r 81) h) := ⟨by kernel_rfl, by kernel_rfl, by kernel_rfl, fun _ => by kernel_rfl, fun _ _ _ => by kernel_rfl⟩
theorem o17_2_30 {J : JT} : OpIs prog J ops17_2 30 26 221 fun f h H => (H (f.r 88) h) := ⟨by kernel_rfl, by kernel_rfl, by kernel_rfl, fun _ => by kernel_rfl, fun _ _ _ => by kernel_rfl⟩
def pl17t : Plans := [(11, true, .take 0 (.take 1 (.take 2 (.take 3 (.take 4 (.take 5 (.take 6 (.take 7 (.take 8 (.take 9 (.take 10 (.take 11 (.take 12 (.take 13 (.take 14 (.take 15 (.take 16 (.last 17 false (.take 18 (.take 19 (.take 20 (.take 21 (.take 22 (.fin)))))))))))))))))))))))),
 (12, true, .take 0 (.take 1 (.take 2 (.take 3 (.take 4 (.take 5 (.take 6 (.take 7 (.take 8 (.take 9 (.take 10 (.take 11 (.take 12 (.take 13 (.take 14 (.take 15 (.take 16 (.take 17 (.take 18 (.take 19 (.last 20 false (.take 21 (.take 22 (.take 23 (.take 24 (.take 25 (.fin))))))))))))))))))))))))))),
 (13, true, .take 0 (.take 1 (.take 2 (.take 3 (.take 4 (.take 5 (.take 6 (.take 7 (.take 8 (.take 9 (.take 10 (.take 11 (.take 12 (.take 13 (.take 14 (.take 15 (.take 16 (.take 17 (.take 18 (.take 19 (.last 20 false (.take 21 (.take 22 (.take 23 (.take 24 (.take 25 (.fin))))))))))))))))))))))))))),
 (14, true, .take 0 (.take 1 (.take 2 (.take 3 (.take 4 (.take 5 (.take 6 (.take 7 (.take 8 (.take 9 (.take 10 (.take 11 (.take 12 (.take 13 (.take 14 (.take 15 (.take 16 (.take 17 (.take 18 (.take 19 (.last 20 false (.take 21 (.take 22 (.take 23 (.take 24 (.take 25 (.fin)))))))))))))))))))))))))))]
def ct17t : Cuts := .bin (.go) (.bin (.go) (.bin (.go) (.bin (.go) (.bin (.go) (.bin (.go) (.cut (.bin (.bin (.go) (.un (.un (.bin (.go) (.bin (.un (.bin (.go) (.bin (.go) (.cut (.bin (.go) (.bin (.go) (.cut (.bin (.go) (.cut (.bin (.go) (.cut (.go)))))))))))) (.go)))))) (.go))))))))
theorem pok17t : plansOk prog pl17t (codeOf f17) = true := by kernel_rfl
theorem s17t_1 {f : RG} : W prog J 221 n0 17 (subC [1, 1, 1, 1, 1, 1] (codeOf f17)) f h (contX pl17t prog J 221 n0 17 ct17t [1, 1, 1, 1, 1, 1] (codeOf f17) [] (RetQ prog [.tmp 16] n0 K)) =
(Sem J 221 n0 17 (subC [1, 1, 1, 1, 1, 1, 0, 1, 0] (codeOf f17)) (RG.p f 27 (vint 0)) h (contX pl17t prog J 221 n0 17 ct17t [1, 1, 1, 1, 1, 1, 0, 1, 0] (codeOf f17) [] (RetQ prog [.tmp 16] n0 K))) := sub_eq pok17t ct17t (by kernel_rfl)
theorem s17t_2 {f : RG} {nx0 : RG → List AObj → Prop} : W prog J 221 n0 17 (subC [1, 1, 1, 1, 1, 1, 0, 1, 0, 0] (codeOf f17)) f h (thenK nx0 (contX pl17t prog J 221 n0 17 ct17t [1, 1, 1, 1, 1, 1, 0, 1, 0] (codeOf f17) [] (RetQ prog [.tmp 16] n0 K))) =
(aLenS (f.r 20) fun v1 =>
 aBin prog .lss 3 (f.r 27) v1 fun v2 =>
 cnd v2
(aIdx 1 (f.r 21) (f.r 27) fun v3 =>
 aLoad false 1 v3 h fun v4 =>
 Good prog J 47 [v4] h fun v5 h6 =>
 aIdx 6 (f.r 20) (f.r 27) fun v7 =>
 aLoad true 6 v7 h6 fun v8 =>
 aIdx 3 (f.r 22) (f.r 27) fun v9 =>
 aLoad true 3 v9 h6 fun v10 =>
 aIdx 1 (f.r 23) (f.r 27) fun v11 =>
 aLoad false 1 v11 h6 fun v12 =>
 aIdx 1 (f.r 24) (f.r 27) fun v13 =>
 aLoad false 1 v13 h6 fun v14 =>
 Good prog J 63 [v8, v5, v10, v12, v14] h6 fun v15 h16 =>
 aExt v15 0 fun v17 =>
 aExt v15 1 fun v18 =>
 Hold (W prog J 221 n0 17 (subC [1, 1, 1, 1, 1, 1, 0, 1, 0, 0, 1, 0, 0, 1, 1] (codeOf f17)) (RG.p (RG.p (RG.p (RG.p (RG.p (RG.p (RG.p (RG.p (RG.p (RG.p (RG.p (RG.p (RG.p (RG.p (RG.p (RG.p (RG.p (RG.p (RG.p (RG.p (RG.p (RG.p (RG.p (RG.p (RG.p (RG.p (RG.p (RG.p (RG.p (RG.p (RG.p (RG.p (RG.p f 89 (f.r 27)) 90 (f.r 20)) 91 v1) 92 v2) 95 (f.r 21)) 96 (f.r 27)) 97 v3) 98 v4) 99 v5) 28 v5) 101 (f.r 20)) 102 (f.r 27)) 103 v7) 104 v8) 105 v5) 106 (f.r 22)) 107 (f.r 27)) 108 v9) 109 v10) 110 (f.r 23)) 111 (f.r 27)) 112 v11) 113 v12) 114 (f.r 24)) 115 (f.r 27)) 116 v13) 117 v14) 118 v15) 100 v15) 119 v17) 120 v18) 29 v17) 30 v18) h16 (contX pl17t prog J 221 n0 17 ct17t [1, 1, 1, 1, 1, 1, 0, 1, 0, 0, 1, 0, 0, 1, 1] (codeOf f17) [nx0] (RetQ prog [.tmp 16] n0 K))))
(Good prog J 21 [] h fun v19 h20 =>
 retL n0 K f.ds [v19] h20)) := sub_eq pok17t ct17t (by kernel_rfl)
theorem l17t_2 (hJ : Closed prog main J) {S : Type} (μ : S → Nat) (I : S → RG → List AObj → Prop) (hI : ∀ s f h, I s f h → heapOk h → n0 ≤ h.length → W prog J 221 n0 17 (subC [1, 1, 1, 1, 1, 1, 0, 1, 0, 0] (codeOf f17)) f h (thenK (Nx n0 μ I s) (contX pl17t prog J 221 n0 17 ct17t [1, 1, 1, 1, 1, 1, 0, 1, 0] (codeOf f17) [] (RetQ prog [.tmp 16] n0 K))))
 {s : S} {f : RG} (hi : Gets n0 I s f h) : Sem J 221 n0 17 (subC [1, 1, 1, 1, 1, 1, 0, 1, 0] (codeOf f17)) f h (contX pl17t prog J 221 n0 17 ct17t [1, 1, 1, 1, 1, 1, 0, 1, 0] (codeOf f17) [] (RetQ prog [.tmp 16] n0 K)) :=
 loop_rule hJ mixed (b := subC [1, 1, 1, 1, 1, 1, 0, 1, 0, 0] (codeOf f17)) (by kernel_rfl) μ I hI hi
theorem s17t_3 {f : RG} {nx0 : RG → List AObj → Prop} : W prog J 221 n0 17 (subC [1, 1, 1, 1, 1, 1, 0, 1, 0, 0, 1, 0, 0, 1, 1] (codeOf f17)) f h (contX pl17t prog J 221 n0 17 ct17t [1, 1, 1, 1, 1, 1, 0, 1, 0, 0, 1, 0, 0, 1, 1] (codeOf f17) [nx0] (RetQ prog [.tmp 16] n0 K)) =
(aIdx 6 (f.r 20) (f.r 27) fun v1 =>
 aLoad true 6 v1 h fun v2 =>
 aIdx 1 (f.r 21) (f.r 27) fun v3 =>
 aLoad false 1 v3 h fun v4 =>
 aIdx 3 (f.r 22) (f.r 27) fun v5 =>
 aLoad true 3 v5 h fun v6 =>
 aIdx 1 (f.r 23) (f.r 27) fun v7 =>
 aLoad false 1 v7 h fun v8 =>
 aIdx 1 (f.r 24) (f.r 27) fun v9 =>
 aLoad false 1 v9 h fun v10 =>
 Good prog J 64 [v2, v4, v6, v8, v10] h fun v11 h12 =>
 aExt v11 0 fun v13 =>
 aExt v11 1 fun v14 =>
 aIdx 6 (f.r 20) (f.r 27) fun v15 =>
 aLoad true 6 v15 h12 fun v16 =>
 aIdx 3 (f.r 22) (f.r 27) fun v17 =>
 aLoad true 3 v17 h12 fun v18 =>
 aIdx 1 (f.r 25) (f.r 27) fun v19 =>
 aLoad false 1 v19 h12 fun v20 =>
 aIdx 1 (f.r 26) (f.r 27) fun v21 =>
 aLoad false 1 v21 h12 fun v22 =>
 aIdx 1 (f.r 23) (f.r 27) fun v23 =>
 aLoad false 1 v23 h12 fun v24 =>
 Good prog J 65 [v16, v18, v20, v22, v24] h12 fun v25 h26 =>
 aExt v25 0 fun v27 =>
 aExt v25 1 fun v28 =>
 Hold (W prog J 221 n0 17 (subC [1, 1, 1, 1, 1, 1, 0, 1, 0, 0, 1, 0, 0, 1, 1, 1, 1] (codeOf f17)) (RG.p (RG.p (RG.p (RG.p (RG.p (RG.p (RG.p (RG.p (RG.p (RG.p (RG.p (RG.p (RG.p (RG.p (RG.p (RG.p (RG.p (RG.p (RG.p (RG.p (RG.p (RG.p (RG.p (RG.p (RG.p (RG.p (RG.p (RG.p (RG.p (RG.p (RG.p (RG.p (RG.p (RG.p (RG.p (RG.p (RG.p (RG.p (RG.p (RG.p (RG.p (RG.p (RG.p (RG.p (RG.p (RG.p (RG.p (RG.p (RG.p (RG.p (RG.p (RG.p f 122 (f.r 20)) 123 (f.r 27)) 124 v1) 125 v2) 126 (f.r 21)) 127 (f.r 27)) 128 v3) 129 v4) 130 (f.r 22)) 131 (f.r 27)) 132 v5) 133 v6) 134 (f.r 23)) 135 (f.r 27)) 136 v7) 137 v8) 138 (f.r 24)) 139 (f.r 27)) 140 v9) 141 v10) 142 v11) 121 v11) 143 v13) 144 v14) 31 v13) 32 v14) 146 (f.r 20)) 147 (f.r 27)) 148 v15) 149 v16) 150 (f.r 22)) 151 (f.r 27)) 152 v17) 153 v18) 154 (f.r 25)) 155 (f.r 27)) 156 v19) 157 v20) 158 (f.r 26)) 159 (f.r 27)) 160 v21) 161 v22) 162 (f.r 23)) 163 (f.r 27)) 164 v23) 165 v24) 166 v25) 145 v25) 167 v27) 168 v28) 33 v27) 34 v28) h26 (contX pl17t prog J 221 n0 17 ct17t [1, 1, 1, 1, 1, 1, 0, 1, 0, 0, 1, 0, 0, 1, 1, 1, 1] (codeOf f17) [nx0] (RetQ prog [.tmp 16] n0 K)))) := sub_eq pok17t ct17t (by kernel_rfl)
theorem s17t_4 {f : RG} {nx0 : RG → List AObj → Prop} : W prog J 221 n0 17 (subC [1, 1, 1, 1, 1, 1, 0, 1, 0, 0, 1, 0, 0, 1, 1, 1, 1] (codeOf f17)) f h (contX pl17t prog J 221 n0 17 ct17t [1, 1, 1, 1, 1, 1, 0, 1, 0, 0, 1, 0, 0, 1, 1, 1, 1] (codeOf f17) [nx0] (RetQ prog [.tmp 16] n0 K)) =
(aIdx 6 (f.r 20) (f.r 27) fun v1 =>
 aLoad true 6 v1 h fun v2 =>
 aIdx 3 (f.r 22) (f.r 27) fun v3 =>
 aLoad true 3 v3 h fun v4 =>
 aIdx 1 (f.r 25) (f.r 27) fun v5 =>
 aLoad false 1 v5 h fun v6 =>
 aIdx 1 (f.r 26) (f.r 27) fun v7 =>
 aLoad false 1 v7 h fun v8 =>
 aIdx 1 (f.r 23) (f.r 27) fun v9 =>
 aLoad false 1 v9 h fun v10 =>
 Good prog J 66 [v2, v4, v6, v8, v10] h fun v11 h12 =>
 aExt v11 0 fun v13 =>
 aExt v11 1 fun v14 =>
 Hold (W prog J 221 n0 17 (subC [1, 1, 1, 1, 1, 1, 0, 1, 0, 0, 1, 0, 0, 1, 1, 1, 1, 1] (codeOf f17)) (RG.p (RG.p (RG.p (RG.p (RG.p (RG.p (RG.p (RG.p (RG.p (RG.p (RG.p (RG.p (RG.p (RG.p (RG.p (RG.p (RG.p (RG.p (RG.p (RG.p (RG.p (RG.p (RG.p (RG.p (RG.p (RG.p f 170 (f.r 20)) 171 (f.r 27)) 172 v1) 173 v2) 174 (f.r 22)) 175 (f.r 27)) 176 v3) 177 v4) 178 (f.r 25)) 179 (f.r 27)) 180 v5) 181 v6) 182 (f.r 26)) 183 (f.r 27)) 184 v7) 185 v8) 186 (f.r 23)) 187 (f.r 27)) 188 v9) 189 v10) 190 v11) 169 v11) 191 v13) 192 v14) 35 v13) 36 v14) h12 (contX pl17t prog J 221 n0 17 ct17t [1, 1, 1, 1, 1, 1, 0, 1, 0, 0, 1, 0, 0, 1, 1, 1, 1, 1] (codeOf f17) [nx0] (RetQ prog [.tmp 16] n0 K)))) := sub_eq pok17t ct17t (by kernel_rfl)
theorem s17t_5 {f : RG} {nx0 : RG → List AObj → Prop} : W prog J 221 n0 17 (subC [1, 1, 1, 1, 1, 1, 0, 1, 0, 0, 1, 0, 0, 1, 1, 1, 1, 1] (codeOf f17)) f h (contX pl17t prog J 221 n0 17 ct17t [1, 1, 1, 1, 1, 1, 0, 1, 0, 0, 1, 0, 0, 1, 1, 1, 1, 1] (codeOf f17) [nx0] (RetQ prog [.tmp 16] n0 K)) =
(aBin prog .neq 3 (f.r 29) (f.r 31) fun v1 =>
 cnd v1
(Hold (W prog J 221 n0 17 (subC [1, 1, 1, 1, 1, 1, 0, 1, 0, 0, 1, 0, 0, 1, 1, 1, 1, 1, 1] (codeOf f17)) (RG.p (RG.p (RG.p (RG.p (RG.p (RG.p (RG.p (RG.p (RG.p (RG.p (RG.p (RG.p (RG.p (RG.p (RG.p (RG.p (RG.p (RG.p (RG.p (RG.p (RG.p (RG.p (RG.p (RG.p (RG.p (RG.p (RG.p (RG.p (RG.p (RG.p (RG.p f 193 (f.r 29)) 194 (f.r 31)) 195 v1) 196 v1) 196 (Value.bool true)) 197 undef) 198 undef) 199 undef) 200 (Value.bool true)) 201 (Value.bool true)) 201 (Value.bool true)) 202 undef) 203 undef) 204 undef) 205 (Value.bool true)) 206 (Value.bool true)) 206 (Value.bool true)) 207 undef) 208 undef) 209 undef) 210 (Value.bool true)) 211 (Value.bool true)) 211 (Value.bool true)) 212 undef) 213 undef) 214 undef) 215 undef) 216 undef) 217 undef) 218 undef) 219 (Value.bool true)) h (contX pl17t prog J 221 n0 17 ct17t [1, 1, 1, 1, 1, 1, 0, 1, 0, 0, 1, 0, 0, 1, 1, 1, 1, 1, 1] (codeOf f17) [nx0] (RetQ prog [.tmp 16] n0 K))))
(aBin prog .neq 37 (f.r 30) (f.r 32) fun v2 =>
 cnd v2
(Hold (W prog J 221 n0 17 (subC [1, 1, 1, 1, 1, 1, 0, 1, 0, 0, 1, 0, 0, 1, 1, 1, 1, 1, 1] (codeOf f17)) (RG.p (RG.p (RG.p (RG.p (RG.p (RG.p (RG.p (RG.p (RG.p (RG.p (RG.p (RG.p (RG.p (RG.p (RG.p (RG.p (RG.p (RG.p (RG.p (RG.p (RG.p (RG.p (RG.p (RG.p (RG.p (RG.p (RG.p (RG.p (RG.p (RG.p (RG.p f 193 (f.r 29)) 194 (f.r 31)) 195 v1) 196 v1) 196 (Value.bool false)) 197 (f.r 30)) 198 (f.r 32)) 199 v2) 200 v2) 201 v2) 201 (Value.bool true)) 202 undef) 203 undef) 204 undef) 205 (Value.bool true)) 206 (Value.bool true)) 206 (Value.bool true)) 207 undef) 208 undef) 209 undef) 210 (Value.bool true)) 211 (Value.bool true)) 211 (Value.bool true)) 212 undef) 213 undef) 214 undef) 215 undef) 216 undef) 217 undef) 218 undef) 219 (Value.bool true)) h (contX pl17t prog J 221 n0 17 ct17t [1, 1, 1, 1, 1, 1, 0, 1, 0, 0, 1, 0, 0, 1, 1, 1, 1, 1, 1] (codeOf f17) [nx0] (RetQ prog [.tmp 16] n0 K))))
(aBin prog .neq 3 (f.r 33) (f.r 35) fun v3 =>
 cnd v3
(Hold (W prog J 221 n0 17 (subC [1, 1, 1, 1, 1, 1, 0, 1, 0, 0, 1, 0, 0, 1, 1, 1, 1, 1, 1] (codeOf f17)) (RG.p (RG.p (RG.p (RG.p (RG.p (RG.p (RG.p (RG.p (RG.p (RG.p (RG.p (RG.p (RG.p (RG.p (RG.p (RG.p (RG.p (RG.p (RG.p (RG.p (RG.p (RG.p (RG.p (RG.p (RG.p (RG.p (RG.p (RG.p (RG.p (RG.p (RG.p f 193 (f.r 29)) 194 (f.r 31)) 195 v1) 196 v1) 196 (Value.bool false)) 197 (f.r 30)) 198 (f.r 32)) 199 v2) 200 v2) 201 v2) 201 (Value.bool false)) 202 (f.r 33)) 203 (f.r 35)) 204 v3) 205 v3) 206 v3) 206 (Value.bool true)) 207 undef) 208 undef) 209 undef) 210 (Value.bool true)) 211 (Value.bool true)) 211 (Value.bool true)) 212 undef) 213 undef) 214 undef) 215 undef) 216 undef) 217 undef) 218 undef) 219 (Value.bool true)) h (contX pl17t prog J 221 n0 17 ct17t [1, 1, 1, 1, 1, 1, 0, 1, 0, 0, 1, 0, 0, 1, 1, 1, 1, 1, 1] (codeOf f17) [nx0] (RetQ prog [.tmp 16] n0 K))))
(aBin prog .neq 37 (f.r 34) (f.r 36) fun v4 =>
 cnd v4
(Hold (W prog J 221 n0 17 (subC [1, 1, 1, 1, 1, 1, 0, 1, 0, 0, 1, 0, 0, 1, 1, 1, 1, 1, 1] (codeOf f17)) (RG.p (RG.p (RG.p (RG.p (RG.p (RG.p (RG.p (RG.p (RG.p (RG.p (RG.p (RG.p (RG.p (RG.p (RG.p (RG.p (RG.p (RG.p (RG.p (RG.p (RG.p (RG.p (RG.p (RG.p (RG.p (RG.p (RG.p (RG.p (RG.p (RG.p (RG.p f 193 (f.r 29)) 194 (f.r 31)) 195 v1) 196 v1) 196 (Value.bool false)) 197 (f.r 30)) 198 (f.r 32)) 199 v2) 200 v2) 201 v2) 201 (Value.bool false)) 202 (f.r 33)) 203 (f.r 35)) 204 v3) 205 v3) 206 v3) 206 (Value.bool false)) 207 (f.r 34)) 208 (f.r 36)) 209 v4) 210 v4) 211 v4) 211 (Value.bool true)) 212 undef) 213 undef) 214 undef) 215 undef) 216 undef) 217 undef) 218 undef) 219 (Value.bool true)) h (contX pl17t prog J 221 n0 17 ct17t [1, 1, 1, 1, 1, 1, 0, 1, 0, 0, 1, 0, 0, 1, 1, 1, 1, 1, 1] (codeOf f17) [nx0] (RetQ prog [.tmp 16] n0 K))))
(aIdx 1 (f.r 21) (f.r 27) fun v5 =>
 aLoad false 1 v5 h fun v6 =>
 Good prog J 29 [(f.r 28), v6] h fun v7 h8 =>
 aUn .not v7 fun v9 =>
 Hold (W prog J 221 n0 17 (subC [1, 1, 1, 1, 1, 1, 0, 1, 0, 0, 1, 0, 0, 1, 1, 1, 1, 1, 1] (codeOf f17)) (RG.p (RG.p (RG.p (RG.p (RG.p (RG.p (RG.p (RG.p (RG.p (RG.p (RG.p (RG.p (RG.p (RG.p (RG.p (RG.p (RG.p (RG.p (RG.p (RG.p (RG.p (RG.p (RG.p (RG.p (RG.p (RG.p (RG.p (RG.p (RG.p (RG.p (RG.p f 193 (f.r 29)) 194 (f.r 31)) 195 v1) 196 v1) 196 (Value.bool false)) 197 (f.r 30)) 198 (f.r 32)) 199 v2) 200 v2) 201 v2) 201 (Value.bool false)) 202 (f.r 33)) 203 (f.r 35)) 204 v3) 205 v3) 206 v3) 206 (Value.bool false)) 207 (f.r 34)) 208 (f.r 36)) 209 v4) 210 v4) 211 v4) 211 (Value.bool false)) 212 (f.r 28)) 213 (f.r 21)) 214 (f.r 27)) 215 v5) 216 v6) 217 v7) 218 v9) 219 v9) h8 (contX pl17t prog J 221 n0 17 ct17t [1, 1, 1, 1, 1, 1, 0, 1, 0, 0, 1, 0, 0, 1, 1, 1, 1, 1, 1] (codeOf f17) [nx0] (RetQ prog [.tmp 16] n0 K)))))))) := sub_eq pok17t ct17t (by kernel_rfl)
theorem s17t_6 {f : RG} {nx0 : RG → List AObj → Prop} : W prog J 221 n0 17 (subC [1, 1, 1, 1, 1, 1, 0, 1, 0, 0, 1, 0, 0, 1, 1, 1, 1, 1, 1] (codeOf f17)) f h (contX pl17t prog J 221 n0 17 ct17t [1, 1, 1, 1, 1, 1, 0, 1, 0, 0, 1, 0, 0, 1, 1, 1, 1, 1, 1] (codeOf f17) [nx0] (RetQ prog [.tmp 16] n0 K)) =
(cnd (f.r 219)
(retL n0 K f.ds [(Value.bool false)] h)
(aBin prog .add 3 (f.r 27) (vint 1) fun v1 =>
 nx0 (RG.p (RG.p (RG.p f 93 (f.r 27)) 94 v1) 27 v1) h)) := sub_eq pok17t ct17t (by kernel_rfl)
end
section
variable {main : Bool} {J : JT} {n0 : Nat} {h : List AObj} {K : Value → List AObj → Prop}
section
variable {Sx : RG → List AObj → Prop}
def pl10 : Plans := []
def ct10 : Cuts := .go
theorem pok10 : plansOk prog pl10 (trunc 4 (codeOf f10)) = true := by kernel_rfl
theorem e10 {a0 a1 a2 a3 a4 a5 : Value} : W prog J 173 h.length 10 (trunc 4 (codeOf f10)) (RG.mk (regs [a0, a1, a2, a3, a4, a5]) []) h (thenK Sx (RetQ prog [.tmp 12] h.length K)) =
(aBox a0 h fun v1 h2 =>
 aBox a1 h2 fun v3 h4 =>
 Good prog J 22 [a5] h4 fun v5 h6 =>
 Good prog J 24 [v5] h6 fun v7 h8 =>
 Good prog J 25 [v5, (vint 6)] h8 fun v9 h10 =>
 aAlloc [(vint 0), (vint 0), (vint 0), (vint 0), (vint 0), (vint 0)] h10 fun v11 h12 =>
 aAlloc [(vint 0), (vint 0), (vint 0)] h12 fun v13 h14 =>
 aStore 6 v11 v7 h14 fun h15 =>
 aStore 3 v13 v9 h15 fun h16 =>
 aOff v13 0 fun v17 =>
 aLoad false 1 v17 h16 fun v18 =>
 aBin prog .sub 3 v18 (vint 1) fun v19 =>
 Good prog J 26 [v5, v19] h16 fun v20 h21 =>
 Sx (RG.p (RG.p (RG.p (RG.p (RG.p (RG.p (RG.p (RG.p (RG.p (RG.p (RG.p (RG.p (RG.p (RG.p (RG.p (RG.p (RG.p (RG.p (RG.mk (regs [a0, a1, a2, a3, a4, a5]) []) 6 v1) 7 v3) 12 (Value.bool false)) 31 a5) 32 v5) 13 v5) 33 v5) 34 v7) 35 v5) 36 v9) 14 v11) 15 v13) 37 v5) 38 v17) 39 v18) 40 v19) 41 v20) 16 v20) h21) := top_eq pok10 ct10 (by kernel_rfl)
end
end
end Go.Proofs.Ythnccaajpdnndaa
namespace Go.Proofs.Ythnccaajpdnndaa
open Go.Conc Go.Proofs.Try
set_option maxRecDepth 100000
def B3s (hb : Nat) (H : List AObj) (v : Value) (c : List Value) : Prop := ∃ p, v = .slice (some ⟨p, 0, none⟩) 3 3 ∧ p ≠ hb ∧ H[p]? = some (.cells c true 0)
theorem B3s.same {hb : Nat} {H H' : List AObj} {v : Value} {c : List Value} (a : B3s hb H v c) (S : SameX [hb] H H') : B3s hb H' v c := by
 obtain ⟨p, h1, h2, h3⟩ := a
 exact ⟨p, h1, h2, S.get h3 (by simpa using h2)⟩
section
variable {main : Bool} {J : JT} {h H H0 : List AObj} {K : Value → List AObj → Prop} {n0 : Nat}
theorem rec3 {α : Type} {enc : α → List Value} {s : Nat} (hen : ∀ x, (enc x).length = s) (hkn : ∀ x, kn (enc x) = true) {xs : List α} {p i : Nat} {KI : Value → Value → Prop} (hb : H[p]? = some (.cells (xs.flatMap enc) true 0)) (hx : xs.length = 3) (hi : i < 3) (hk : ∀ o, KI (ptr p o) (.agg ⟨enc (xs[i]'(by omega))⟩)) :
  aIdx s (.slice (some ⟨p, 0, none⟩) 3 3) (vint (i : Nat)) fun v => aLoad true s v H (KI v) := by
 refine idxI ⟨by omega, by omega⟩ ?_
 rw [Int.toNat_natCast, Nat.zero_add]
 have hfl : (xs.flatMap enc).length = 3 * s := by
  have : ∀ l : List α, (l.flatMap enc).length = l.length * s := fun l => by
   induction l with
   | nil => simp
   | cons x l ih => rw [List.flatMap_cons, List.length_append, ih, hen, List.length_cons, Nat.succ_mul]; omega
  rw [this, hx]
 refine load_part (c := enc xs[i]) hb ?_ (flat_take hen xs i (by omega)) (hkn _) (hk _)
 rw [hfl, show (3 : Nat) = 2 + 1 from rfl, Nat.succ_mul]
 have := Nat.mul_le_mul_right s (show i ≤ 2 by omega)
 omega
theorem int3 {zs : List Int} {p i : Nat} {KI : Value → Value → Prop} (hb : H[p]? = some (.cells (zs.map vint) true 0)) (hx : zs.length = 3) (hi : i < 3) (hk : ∀ o, KI (ptr p o) (vint (zs[i]'(by omega)))) :
  aIdx 1 (.slice (some ⟨p, 0, none⟩) 3 3) (vint (i : Nat)) fun v => aLoad false 1 v H (KI v) := by
 refine idxI ⟨by omega, by omega⟩ ?_
 rw [Int.toNat_natCast, Nat.zero_add, Nat.mul_one]
 exact ldI hb (by rw [List.getElem?_map, List.getElem?_eq_getElem (by omega)]; rfl) rfl (hk _)
end
end Go.Proofs.Ythnccaajpdnndaa
namespace Go.Proofs.Ythnccaajpdnndaa
open Go.Conc Go.Proofs.Try
set_option maxRecDepth 100000
set_option maxHeartbeats 4000000
set_option linter.unusedVariables false
section
variable {main : Bool} {J : JT} {n0 : Nat} {h : List AObj} {K : Value → List AObj → Prop}
theorem at30 : prog.funcs[30]? = some f30 := by kernel_rfl
theorem body30 : f30.body = some (codeOf f30) := by kernel_rfl
def pl30 : Plans := []
def ct30 : Cuts := .go
theorem pok30 : plansOk prog pl30 (codeOf f30) = true := by kernel_rfl
theorem e30 {a0 a1 a2 : Value} : W prog J 30 h.length 30 (codeOf f30) (RG.mk (regs [a0, a1, a2]) []) h (RetQ prog [.tmp 6] h.length K) =
(Good prog J 26 [a0, a2] h fun v1 h2 =>
 Sem J 30 h.length 30 (subC [1, 1, 1, 0, 1, 0] (codeOf f30)) (RG.p (RG.p (RG.p (RG.p (RG.p (RG.p (RG.p (RG.mk (regs [a0, a1, a2]) []) 6 (Value.slice none 0 0)) 7 (Value.slice none 0 0)) 10 a0) 11 a2) 12 v1) 8 v1) 9 (vint 0)) h2 (contX pl30 prog J 30 h.length 30 ct30 [1, 1, 1, 0, 1, 0] (codeOf f30) [] (RetQ prog [.tmp 6] h.length K))) := top_eq pok30 ct30 (by kernel_rfl)
theorem g30 (hJ : Closed prog main J) {a0 a1 a2 : Value} (hs : heapOk h → W prog J 30 h.length 30 (codeOf f30) (RG.mk (regs [a0, a1, a2]) []) h (RetQ prog [.tmp 6] h.length K)) : Good prog J 30 [a0, a1, a2] h K :=
 good_of_W hJ mixed at30 body30 (by kernel_rfl) (Nat.le_of_ble_eq_true rfl) hs
theorem s30_1 {f : RG} {nx0 : RG → List AObj → Prop} : W prog J 30 n0 30 (subC [1, 1, 1, 0, 1, 0, 0] (codeOf f30)) f h (thenK nx0 (contX pl30 prog J 30 n0 30 ct30 [1, 1, 1, 0, 1, 0] (codeOf f30) [] (RetQ prog [.tmp 6] n0 K))) =
(aBin prog .lss 3 (f.r 9) (f.r 1) fun v1 =>
 cnd v1
(Good prog J 26 [(f.r 0), (f.r 2)] h fun v2 h3 =>
(((3 * 1 : Nat) ≤ 16777216 ∧ (3 : Nat) ≤ 16777216 ∧ List.length [(vint 0)] = 1) ∧ aFill (zrep [(vint 0)] 3) [(0, 1, (f.r 8)), (1, 1, (vint 0)), (2, 1, v2)] fun c4 =>
 aNewS 3 c4 h3 fun v5 h6 =>
 Good prog J 69 [(f.r 0), (f.r 8), v5] h6 fun v7 h8 =>
(((1 * 1 : Nat) ≤ 16777216 ∧ (1 : Nat) ≤ 16777216 ∧ List.length [(vint 0)] = 1) ∧ aFill (zrep [(vint 0)] 1) [(0, 1, v7)] fun c9 =>
 aNewS 1 c9 h8 fun v10 h11 =>
((List.length [(vint 0)] = 1 ∧ 0 < (1 : Nat) ∧ 0 < (8 : Nat) ∧ (8 : Nat) ≤ 1024) ∧ aApp 1 (f.r 7) v10 h11 fun v12 h13 =>
 aBin prog .add 3 (f.r 9) (vint 1) fun v14 =>
 nx0 (RG.p (RG.p (RG.p (RG.p (RG.p (RG.p (RG.p (RG.p (RG.p (RG.p (RG.p (RG.p (RG.p (RG.p (RG.p (RG.p (RG.p (RG.p f 13 (f.r 9)) 14 (f.r 1)) 15 v1) 18 (f.r 7)) 19 (f.r 0)) 20 (f.r 8)) 21 (f.r 8)) 22 (f.r 0)) 23 (f.r 2)) 24 v2) 25 v5) 26 v7) 27 v10) 28 v12) 7 v12) 16 (f.r 9)) 17 v14) 9 v14) h13))))
(retL n0 K f.ds [(f.r 7)] h)) := sub_eq pok30 ct30 (by kernel_rfl)
theorem l30_1 (hJ : Closed prog main J) {S : Type} (μ : S → Nat) (I : S → RG → List AObj → Prop) (hI : ∀ s f h, I s f h → heapOk h → n0 ≤ h.length → W prog J 30 n0 30 (subC [1, 1, 1, 0, 1, 0, 0] (codeOf f30)) f h (thenK (Nx n0 μ I s) (contX pl30 prog J 30 n0 30 ct30 [1, 1, 1, 0, 1, 0] (codeOf f30) [] (RetQ prog [.tmp 6] n0 K))))
 {s : S} {f : RG} (hi : Gets n0 I s f h) : Sem J 30 n0 30 (subC [1, 1, 1, 0, 1, 0] (codeOf f30)) f h (contX pl30 prog J 30 n0 30 ct30 [1, 1, 1, 0, 1, 0] (codeOf f30) [] (RetQ prog [.tmp 6] n0 K)) :=
 loop_rule hJ mixed (b := subC [1, 1, 1, 0, 1, 0, 0] (codeOf f30)) (by kernel_rfl) μ I hI hi
end
end Go.Proofs.Ythnccaajpdnndaa
namespace Go.Proofs.Ythnccaajpdnndaa
open Go.Conc Go.Proofs.Try
set_option maxRecDepth 100000
section
variable {main : Bool} {J : JT} {h H : List AObj} {K : Value → List AObj → Prop} {KV : Value → Prop} {HL : List AObj → Prop} {n0 : Nat} {ns : List Int} {k : Nat}
theorem good30 (hJ : Closed prog main J) (a : HX h H ns k) (hk : k < 400000) {D : Nat} {m : Int} (hD : D ≤ 8) (hm : 0 ≤ m ∧ m ≤ 40)
  (hK : ∀ (xs : List Int) v o H', xs.length = D → (∀ x ∈ xs, 0 ≤ x ∧ x ≤ m) → SameX [h.length] H H' → HX h H' ns (k + 20) → OwnX H' 1 (xs.map vint) D v o → (∀ i, o = some i → H.length ≤ i) → K v H') : Good prog J 30 [ptr h.length 0, vint (D : Nat), vint m] H K := by
 refine g30 hJ fun ok => ?_
 rw [e30]
 have hlt := hxLt a
 refine upX hJ a (by omega) (by omega) fun u H1 u1 u2 S1 l1 a1 => ?_
 refine l30_1 hJ (fun i : Nat => D - i) (fun i F H' => i ≤ D ∧ (∃ xs v o, xs.length = i ∧ (∀ x ∈ xs, 0 ≤ x ∧ x ≤ m) ∧ OwnX H' 1 (xs.map vint) i v o ∧ (∀ j, o = some j → H.length ≤ j) ∧ F.r 7 = v) ∧ SameX [h.length] H H' ∧ HX h H' ns (k + 1 + 2 * i) ∧ F.ds = [] ∧ F.r 0 = ptr h.length 0 ∧ F.r 1 = vint (D : Nat) ∧ F.r 2 = vint m ∧ F.r 8 = vint u ∧ F.r 9 = vint (i : Nat)) ?_ (s := 0)
  (.inl ⟨Nat.zero_le _, ⟨[], _, none, rfl, by simp, ⟨rfl, rfl, .inl ⟨rfl, rfl, rfl⟩⟩, by simp, rfl⟩, S1, a1, rfl, rfl, rfl, rfl, rfl, rfl⟩)
 rintro i F H' ⟨hi, ⟨xs, v, o, hx, hxs, O, ho, r7⟩, S, b, ds, r0, r1, r2, r8, r9⟩ okc hnc
 rw [s30_1, r0, r1, r2, r7, r8, r9, ds]
 have hS := S.1
 refine lssI (cndI (fun hl => ?_) fun hge => ?_)
 ·refine upX hJ b (by omega) (by omega) fun y H2 y1 y2 S2 l2 b2 => ⟨by decide, fillO (l := [vint u]) rfl rfl rfl (by decide) (fillO (l := [vint 0]) rfl rfl rfl (by rw [wrAt_length]; decide) (fillO (l := [vint y]) rfl rfl rfl (by rw [wrAt_length, wrAt_length]; decide) (fillI (qNew fun H3 p3 e3 S3 c3 l3 => ?_))))⟩
  have c3 : H3[p3]? = some (.cells (([u, 0, y] : List Int).map vint) true 0) := c3
  refine ofZ hJ (b2.same S3 (by simp)) (by omega) c3 (by omega) rfl (by simp) fun z H4 m4 S4 l4 b4 => ?_
  have hz : 0 ≤ z ∧ z ≤ m := by
   rcases m4 with e | e
   ·omega
   ·simp only [List.mem_cons, List.not_mem_nil, or_false] at e
    omega
  refine ⟨by decide, fillO (l := [vint z]) rfl rfl rfl (by decide) (fillI (qNew fun H5 p5 e5 S5 c5 l5 => ?_))⟩
  have S25 : SameX [h.length] H' H5 := ((S2.trans S3.weak0).trans S4).trans S5.weak0
  have T5 := S.trans S25
  have hno : ∀ j, o = some j → j ∉ [h.length] := fun j hj => by
   have := ho j hj
   simp
   omega
  refine ⟨by decide, ownX_more (ownX_keep O S25 hno) (by decide) (by omega) (e := [vint z]) ⟨_, _, rfl, ⟨rfl, rfl⟩, .inr ⟨p5, 0, rfl, .inr ⟨_, _, _, c5, rfl⟩⟩⟩ fun v' H6 p6 e6 O6 S6 => ?_⟩
  have h5 := T5.1
  refine addI (by omega) ⟨i + 1, by dsimp only; omega, .inl ⟨by omega, ⟨xs ++ [z], v', some p6, by simp [hx], ?_, by rw [List.map_append]; exact O6, fun j hj => by cases hj; omega, rfl⟩, T5.thru S6 fun y hy => .inr (ho y (by simpa using hy)), ?_, ds, r0, r1, r2, r8, by show vint _ = vint _; congr 1⟩⟩
  ·intro x hxm
   rcases List.mem_append.1 hxm with e | e
   ·exact hxs x e
   ·rw [List.mem_singleton.1 e]
    exact hz
  ·refine HX.mono (HX.same (HX.same b4 S5 (by simp)) S6 fun x hx => ?_) (by omega)
   have := ho x (by simpa using hx)
   omega
 ·have : i = D := by omega
  subst this
  refine retL_same ?_ (hK xs v o H' hx hxs S (b.mono (by omega)) O ho)
  intro x hx
  rw [List.mem_singleton.1 hx]
  exact ownU O
end
theorem w3p {p q : Pas} : wrAt (wrAt (wrAt (zrep [vint 0, vint 0, vint 0, vint 0, vint 0, vint 0] 3) 0 p.cells) 6 q.cells) 12 q.cells = [p, q, q].flatMap Pas.cells := by kernel_rfl
theorem w3s {p q : SkyR} : wrAt (wrAt (wrAt (zrep [vint 0, vint 0, vint 0] 3) 0 p.cells) 3 q.cells) 6 q.cells = [p, q, q].flatMap SkyR.cells := by kernel_rfl
theorem w3v {z a b c : Value} : wrAt (wrAt (wrAt (zrep [z] 3) 0 [a]) 1 [b]) 2 [c] = [a, b, c] := by kernel_rfl
inductive VK | val (x : Value) | box (c : Int → List Value) | int | heads | hbox (a : Value)
def HdAt (hb : Nat) (v : Value) (H : List AObj) : Prop := ∃ (ys : List Int) (n : Nat) (o : Option Nat), OwnX H 1 (ys.map vint) n v o ∧ ys.length = n ∧ n ≤ 8 ∧ ∀ i, o = some i → i ≠ hb
def VK.ok (hb : Nat) : VK → Value → List AObj → Prop
 | .val x, v, _ => v = x
 | .box c, v, H => ∃ y, B3s hb H v (c y)
 | .int, v, _ => ∃ y : Int, v = vint y
 | .heads, v, H => HdAt hb v H
 | .hbox a, v, H => ∃ u, HdAt hb u H ∧ B3s hb H v [a, u, a]
theorem HdAt.same {hb : Nat} {v : Value} {H H' : List AObj} (a : HdAt hb v H) (S : SameX [hb] H H') : HdAt hb v H' := by
 obtain ⟨ys, n, o, h1, h2, h3, h4⟩ := a
 exact ⟨ys, n, o, ownX_keep h1 S (fun i e => by simpa using h4 i e), h2, h3, h4⟩
theorem VK.same {hb : Nat} {k : VK} {v : Value} {H H' : List AObj} (a : VK.ok hb k v H) (S : SameX [hb] H H') : VK.ok hb k v H' := by
 cases k with
 | val x => exact a
 | box c => exact let ⟨y, b⟩ := a; ⟨y, b.same S⟩
 | int => exact a
 | heads => exact HdAt.same a S
 | hbox x => exact let ⟨u, b, c⟩ := a; ⟨u, b.same S, c.same S⟩
def ka17 (p q : Pas) (s t : SkyR) (hv : Value) (hb p19 : Nat) : Nat → VK
 | 0 => .val (.agg ⟨p.cells⟩)
 | 1 => .val (.agg ⟨q.cells⟩)
 | 2 => .val (.agg ⟨q.cells⟩)
 | 3 => .box fun _ => [p, q, q].flatMap Pas.cells
 | 4 => .val hv
 | 5 => .val (ptr hb 0)
 | 6 => .val (ptr p19 0)
 | 7 => .val (vint t.days)
 | 8 => .heads
 | 9 => .val hv
 | 10 => .hbox hv
 | 11 => .val (.agg ⟨s.cells⟩)
 | 12 => .val (.agg ⟨t.cells⟩)
 | 13 => .val (.agg ⟨t.cells⟩)
 | 14 => .box fun _ => [s, t, t].flatMap SkyR.cells
 | 15 => .box fun _ => [p, q, q].flatMap Pas.cells
 | 16 => .hbox hv
 | 17 => .box fun _ => [s, t, t].flatMap SkyR.cells
 | _ => .int
def kb17 (q : Pas) (t : SkyR) (fr want many days : Int) (hb p18 p19 : Nat) : Nat → VK
 | 0 => .val (vint fr)
 | 1 => .val (ptr hb 0)
 | 2 => .val (ptr p19 0)
 | 3 => .val (vint t.days)
 | 4 => .val (vint (t.days - 1))
 | 5 => .int
 | 6 => .val (vint fr)
 | 7 => .box fun y => [fr, y, fr].map vint
 | 8 => .val (vint want)
 | 9 => .val (ptr hb 0)
 | 10 => .val (ptr p18 1)
 | 11 => .val (vint q.bears)
 | 12 => .int
 | 13 => .val (vint want)
 | 14 => .box fun y => [want, y, want].map vint
 | 15 => .val (vint many)
 | 16 => .val (ptr hb 0)
 | 17 => .int
 | 18 => .val (vint many)
 | 19 => .box fun y => [many, y, many].map vint
 | 20 => .val (vint days)
 | 21 => .val (ptr hb 0)
 | 22 => .val (ptr p19 0)
 | 23 => .val (vint t.days)
 | 24 => .int
 | 25 => .val (vint days)
 | 26 => .box fun y => [days, y, days].map vint
 | 27 => .box fun y => [fr, y, fr].map vint
 | 28 => .box fun y => [want, y, want].map vint
 | 29 => .box fun y => [many, y, many].map vint
 | 30 => .box fun y => [days, y, days].map vint
 | _ => .int
section
variable {main : Bool} {J : JT} {h H H0 : List AObj} {K : Value → List AObj → Prop} {n0 : Nat}
structure M17 (k : Nat) (Hb h H : List AObj) (ns : List Int) (f : RG) (p q : Pas) (s t : SkyR) (ys : List Int) (hv : Value) (fr want many days : Int) (p8 p10 p18 p19 : Nat) : Prop where
 ds : f.ds = []
 hx : HX Hb H ns k
 hh : SameX [] h H
 hl : h.length ≤ Hb.length
 sy : Sli h hv 1 ys.length (ys.map vint)
 ly : ys.length ≤ 20
 vh : hv.cells = #[hv] ∧ one hv = true ∧ kn1 hv = true
 t0 : 0 ≤ t.days ∧ t.days ≤ 7
 q0 : 0 ≤ q.bears ∧ q.bears ≤ 99
 r1 : f.r 1 = hv
 r3 : f.r 3 = vint fr
 r4 : f.r 4 = vint want
 r5 : f.r 5 = vint many
 r6 : f.r 6 = vint days
 r8 : f.r 8 = ptr p8 0
 r10 : f.r 10 = ptr p10 0
 r17 : f.r 17 = ptr Hb.length 0
 r18 : f.r 18 = ptr p18 0
 r19 : f.r 19 = ptr p19 0
 n8 : p8 ≠ Hb.length
 n10 : p10 ≠ Hb.length
 n18 : p18 ≠ Hb.length
 n19 : p19 ≠ Hb.length
 c8 : H[p8]? = some (.cells p.cells true 0)
 c10 : H[p10]? = some (.cells s.cells true 0)
 c18 : H[p18]? = some (.cells q.cells true 0)
 c19 : H[p19]? = some (.cells t.cells true 0)
theorem M17.step {k k' : Nat} {Hb h H H' : List AObj} {ns ys : List Int} {f f' : RG} {p q : Pas} {s t : SkyR} {hv : Value} {fr want many days : Int} {p8 p10 p18 p19 : Nat} (M : M17 k Hb h H ns f p q s t ys hv fr want many days p8 p10 p18 p19)
  (S : SameX [Hb.length] H H') (hx : HX Hb H' ns k') (ds : f'.ds = []) (e1 : f'.r 1 = f.r 1) (e3 : f'.r 3 = f.r 3) (e4 : f'.r 4 = f.r 4) (e5 : f'.r 5 = f.r 5) (e6 : f'.r 6 = f.r 6) (e8 : f'.r 8 = f.r 8) (e10 : f'.r 10 = f.r 10) (e17 : f'.r 17 = f.r 17) (e18 : f'.r 18 = f.r 18) (e19 : f'.r 19 = f.r 19) : M17 k' Hb h H' ns f' p q s t ys hv fr want many days p8 p10 p18 p19 :=
 ⟨ds, hx, M.hh.thru S (by simpa using M.hl), M.hl, M.sy, M.ly, M.vh, M.t0, M.q0, e1.trans M.r1, e3.trans M.r3, e4.trans M.r4, e5.trans M.r5, e6.trans M.r6, e8.trans M.r8, e10.trans M.r10, e17.trans M.r17, e18.trans M.r18, e19.trans M.r19, M.n8, M.n10, M.n18, M.n19, S.get M.c8 (by simpa using M.n8), S.get M.c10 (by simpa using M.n10), S.get M.c18 (by simpa using M.n18), S.get M.c19 (by simpa using M.n19)⟩
theorem front17 {W0 : World} {Post : Value → World → Prop} {p : Pas} {s : SkyR} {fr want many days : Int} {hv nv : Value} {ys ns : List Int} {Sx : RG → List AObj → Prop} (sy : Sli h hv 1 ys.length (ys.map vint)) (hly : ys.length < 4611686018427387904) (sn : Sli h nv 1 ns.length (ns.map vint)) (hln : ns.length < 4611686018427387904) (hK : ∀ H', K (.bool true) H')
  (hS : ∀ Hb H f q t p8 p10 p18 p19, M17 199 Hb h H ns f p q s t ys hv fr want many days p8 p10 p18 p19 → Sx f H) :
  W prog (J2 prog W0 Post) 221 h.length 17 (trunc 4 (codeOf f17)) (RG.mk (regs [.agg ⟨p.cells⟩, hv, .agg ⟨s.cells⟩, vint fr, vint want, vint many, vint days, nv]) []) h (thenK Sx (RetQ prog [.tmp 16] h.length K)) := by
 have hJ := J2.closed prog W0 Post
 rw [e17]
 refine qBox (l := p.cells) rfl fun H1 p1 e1 S1 c1 l1 => qBox (l := s.cells) rfl fun H2 p2 e2 S2 c2 l2 => ?_
 have S12 := S1.trans S2
 refine lenI (S12.sli sy (by simp)) (gtrI (cndI (fun _ => good21 fun H13 _ => retL_same (by simp [unk]) (hK H13)) fun hle => ?_))
 have vh := sliValZ sy
 refine newX hJ (S12.sli sn (by simp)) hln fun H3 a3 => ?_
 have S3 : SameX [] H2 H3 := by
  obtain ⟨nv', k', s', rest, rfl, _⟩ := a3
  exact ⟨by rw [hf_len]; omega, fun i hi _ => by unfold HF; rw [List.getElem?_append_left hi]⟩
 refine good24 hJ a3 (by omega) fun q H4 fq _ S4 a4 => good25 hJ a4 (by omega) (by decide) fun t H5 gt ht7 S5 a5 => ?_
 obtain ⟨g1, g2, g3⟩ := id gt
 have l5 := hxLt a5
 have l2h := S12.1
 refine qAl fun H6 p5 e6 S6 c6 l6 => qAl fun H7 p6 e7 S7 c7 l7 => ?_
 refine qStA (c := q.cells) (S7.get c6 (by simp)) rfl rfl rfl fun H8 S8 c8 l8 => qStA (c := t.cells) (S8.get c7 (by simp; omega)) rfl rfl rfl fun H9 S9 c9 l9 => ?_
 have T59 : SameX [] H5 H9 := ((S6.trans S7).thru S8 (by simp; omega)).thru S9 (by simp; omega)
 have T29 : SameX [H2.length] H2 H9 := ((S3.weak0.trans S4).trans S5).trans T59.weak0
 have a9 := HX.same a5 T59 (by simp)
 have i1 := lt_of_get (S2.get c1 (by simp))
 have i2 := lt_of_get c2
 have k1 := T29.get (S2.get c1 (by simp)) (by simp; omega)
 have k2 := T29.get c2 (by simp; omega)
 have k5 := S9.get c8 (by simp; omega)
 have hh9 : SameX [] h H9 := S12.thru T29 (by simp; omega)
 obtain ⟨q1, q2⟩ := id fq
 exact hS H2 H9 _ q t p1 p2 p5 p6 ⟨rfl, a9.mono (by omega), hh9, l2h, sy, by omega, vh, by omega, by omega, rfl, rfl, rfl, rfl, rfl, rfl, rfl, rfl, rfl, rfl, by omega, by omega, by omega, by omega, k1, k2, k5, c9⟩
set_option maxHeartbeats 4000000 in
theorem region17a (hJ : Closed prog main J) {Hb h H : List AObj} {ns ys : List Int} {f : RG} {p q : Pas} {s t : SkyR} {hv : Value} {fr want many days : Int} {p8 p10 p18 p19 : Nat} {Q : QT} (M : M17 199 Hb h H ns f p q s t ys hv fr want many days p8 p10 p18 p19)
  (hS : ∀ f' H', M17 219 Hb h H' ns f' p q s t ys hv fr want many days p8 p10 p18 p19 → (∀ {tt}, noDst ops17_1 tt = true → f'.r tt = f.r tt) → SameX [Hb.length] H H' → VK.ok Hb.length (.box fun _ => [p, q, q].flatMap Pas.cells) (f'.r 20) H' → VK.ok Hb.length (.hbox hv) (f'.r 21) H' → VK.ok Hb.length (.box fun _ => [s, t, t].flatMap SkyR.cells) (f'.r 22) H' → Q .normal f' H') :
  Sem J 221 n0 17 (subC [1, 1, 1, 1, 0] (codeOf f17)) f H Q := by
 rw [r17_1]
 have z := z17_1
 refine Sem_vals hJ mixed (by kernel_rfl) (by kernel_rfl) (fun j v H' => VK.ok Hb.length ((ka17 p q s t hv Hb.length p19) j) v H') (fun d H' => HX Hb H' ns (199 + (bif d 8 then 20 else 0)) ∧ SameX [Hb.length] H H') (SameX [Hb.length]) (fun j v h h' S a => VK.same a S) ⟨M.hx, SameX.refl⟩ ?_ ?_
 ·intro d i o f1 h1 ho hd2 hB hout hdep
  obtain ⟨hx, S⟩ := hB
  have hlt := hxLt hx
  have t0 := M.t0
  have out : ∀ {tt}, noDst ops17_1 tt = true → f1.r tt = f.r tt := fun hn => hout _ (noDst_spec hn)
  have hi : i < 18 := by
   have := (Array.getElem?_eq_some_iff.1 ho).1
   omega
  have dep : ∀ {j pj tt}, needs ops17_1 i j = true → (ops17_1[j]? = some pj ∧ pj.dst = some tt) → VK.ok Hb.length ((ka17 p q s t hv Hb.length p19) j) (f1.r tt) h1 := fun hn e => needs_spec (A := fun j tt => VK.ok Hb.length ((ka17 p q s t hv Hb.length p19) j) (f1.r tt) h1) hn ho e.1 e.2 hdep
  have same : ∀ {v}, (8 == i) = false → VK.ok Hb.length ((ka17 p q s t hv Hb.length p19) i) v h1 → VK.ok Hb.length ((ka17 p q s t hv Hb.length p19) i) v h1 ∧ (HX Hb h1 ns (199 + (bif (8 == i || d 8) then 20 else 0)) ∧ SameX [Hb.length] H h1) ∧ SameX [Hb.length] h1 h1 := fun {v} e8 qq => by
   rw [e8, Bool.false_or]
   exact ⟨qq, ⟨hx, S⟩, SameX.refl⟩
  have made : ∀ {c} {h2 : List AObj} {qa : Nat}, (8 == i) = false → (B3s Hb.length h2 (.slice (some ⟨qa, 0, none⟩) 3 3) c → VK.ok Hb.length ((ka17 p q s t hv Hb.length p19) i) (.slice (some ⟨qa, 0, none⟩) 3 3) h2) → qa = h1.length → SameX [] h1 h2 → h2[qa]? = some (.cells c true 0) → VK.ok Hb.length ((ka17 p q s t hv Hb.length p19) i) (.slice (some ⟨qa, 0, none⟩) 3 3) h2 ∧ (HX Hb h2 ns (199 + (bif (8 == i || d 8) then 20 else 0)) ∧ SameX [Hb.length] H h2) ∧ SameX [Hb.length] h1 h2 := fun {c h2 qa} e8 hk eq S2 c2 => by
   rw [e8, Bool.false_or]
   exact ⟨hk ⟨qa, rfl, by omega, c2⟩, ⟨hx.same S2 (by simp), S.trans S2.weak0⟩, S2.weak0⟩
  match i, hi with
  | 0, _ =>
   refine op_step o17_1_0 ho ?_
   rw [out (tt := 8) (by kernel_rfl), M.r8]
   exact load_part (c := p.cells) (S.get M.c8 (by simpa using M.n8)) (by simp [Pas.cells]) rfl rfl (same rfl rfl)
  | 1, _ =>
   refine op_step o17_1_1 ho ?_
   rw [out (tt := 18) (by kernel_rfl), M.r18]
   exact load_part (c := q.cells) (S.get M.c18 (by simpa using M.n18)) (by simp [Pas.cells]) rfl rfl (same rfl rfl)
  | 2, _ =>
   refine op_step o17_1_2 ho ?_
   rw [out (tt := 18) (by kernel_rfl), M.r18]
   exact load_part (c := q.cells) (S.get M.c18 (by simpa using M.n18)) (by simp [Pas.cells]) rfl rfl (same rfl rfl)
  | 3, _ =>
   refine op_step o17_1_3 ho ?_
   have u0 : f1.r 47 = .agg ⟨p.cells⟩ := (dep (j := 0) (tt := 47) (by kernel_rfl) ⟨o17_1_0 (J := J).1, o17_1_0 (J := J).2.1⟩)
   have u1 : f1.r 48 = .agg ⟨q.cells⟩ := (dep (j := 1) (tt := 48) (by kernel_rfl) ⟨o17_1_1 (J := J).1, o17_1_1 (J := J).2.1⟩)
   have u2 : f1.r 49 = .agg ⟨q.cells⟩ := (dep (j := 2) (tt := 49) (by kernel_rfl) ⟨o17_1_2 (J := J).1, o17_1_2 (J := J).2.1⟩)
   rw [u0, u1, u2]
   refine ⟨by decide, fillO (l := p.cells) rfl rfl rfl (Nat.le_of_ble_eq_true (by kernel_rfl)) (fillO (l := q.cells) rfl rfl rfl (Nat.le_of_ble_eq_true (by kernel_rfl)) (fillO (l := q.cells) rfl rfl rfl (Nat.le_of_ble_eq_true (by kernel_rfl)) (fillI (qNew fun h2 qa eq S2 c2 l2 => ?_))))⟩
   rw [w3p] at c2
   exact made rfl (fun b => ⟨0, b⟩) eq S2 c2
  | 4, _ =>
   refine op_step o17_1_4 ho ?_
   rw [out (tt := 1) (by kernel_rfl), M.r1]
   exact same rfl rfl
  | 5, _ =>
   refine op_step o17_1_5 ho ?_
   rw [out (tt := 17) (by kernel_rfl), M.r17]
   exact same rfl rfl
  | 6, _ =>
   refine op_step o17_1_6 ho ?_
   rw [out (tt := 19) (by kernel_rfl), M.r19]
   exact offI (same rfl rfl)
  | 7, _ =>
   refine op_step o17_1_7 ho ?_
   have u6 : f1.r 53 = ptr p19 0 := (dep (j := 6) (tt := 53) (by kernel_rfl) ⟨o17_1_6 (J := J).1, o17_1_6 (J := J).2.1⟩)
   rw [u6]
   exact ldI (v := vint t.days) (S.get M.c19 (by simpa using M.n19)) rfl rfl (same rfl rfl)
  | 8, _ =>
   refine op_step o17_1_8 ho ?_
   have u5 : f1.r 52 = ptr Hb.length 0 := (dep (j := 5) (tt := 52) (by kernel_rfl) ⟨o17_1_5 (J := J).1, o17_1_5 (J := J).2.1⟩)
   have u7 : f1.r 54 = vint t.days := (dep (j := 7) (tt := 54) (by kernel_rfl) ⟨o17_1_7 (J := J).1, o17_1_7 (J := J).2.1⟩)
   rw [u5, u7]
   obtain ⟨D, hD⟩ := Int.eq_ofNat_of_zero_le t0.1
   rw [hD]
   refine good30 hJ hx (by cases d 8 <;> decide) (D := D) (by omega) (by omega) fun xs v o h2 hxl _ S2 hx2 O hoo => ⟨⟨xs, D, o, O, hxl, by omega, fun j hj => by have := hoo j hj; omega⟩, ⟨hx2.mono (by show _ ≤ 199 + (bif (8 == 8 || d 8) then 20 else 0); rw [hd2]; decide), S.trans S2⟩, S2⟩
  | 9, _ =>
   refine op_step o17_1_9 ho ?_
   rw [out (tt := 1) (by kernel_rfl), M.r1]
   exact same rfl rfl
  | 10, _ =>
   refine op_step o17_1_10 ho ?_
   have u4 : f1.r 51 = hv := (dep (j := 4) (tt := 51) (by kernel_rfl) ⟨o17_1_4 (J := J).1, o17_1_4 (J := J).2.1⟩)
   obtain ⟨ys2, n2, o2, O2, q1, q2, q3⟩ : HdAt Hb.length (f1.r 55) h1 := (dep (j := 8) (tt := 55) (by kernel_rfl) ⟨o17_1_8 (J := J).1, o17_1_8 (J := J).2.1⟩)
   have u9 : f1.r 56 = hv := (dep (j := 9) (tt := 56) (by kernel_rfl) ⟨o17_1_9 (J := J).1, o17_1_9 (J := J).2.1⟩)
   have w := ownX_val O2
   have wh := M.vh
   rw [u4, u9]
   refine ⟨by decide, fillO (l := [hv]) (congrArg Array.toList wh.1) rfl (by simp [wh.2.1]) (Nat.le_of_ble_eq_true (by kernel_rfl)) (fillO (l := [f1.r 55]) (congrArg Array.toList w.1) rfl (by simp [w.2.1]) (Nat.le_of_ble_eq_true (by kernel_rfl)) (fillO (l := [hv]) (congrArg Array.toList wh.1) rfl (by simp [wh.2.1]) (Nat.le_of_ble_eq_true (by kernel_rfl)) (fillI (qNew fun h2 qa eq S2 c2 l2 => ?_))))⟩
   rw [w3v] at c2
   exact made rfl (fun b => ⟨_, ⟨ys2, n2, o2, ownX_keep O2 S2 (fun _ _ => by simp), q1, q2, q3⟩, b⟩) eq S2 c2
  | 11, _ =>
   refine op_step o17_1_11 ho ?_
   rw [out (tt := 10) (by kernel_rfl), M.r10]
   exact load_part (c := s.cells) (S.get M.c10 (by simpa using M.n10)) (by simp [SkyR.cells]) rfl rfl (same rfl rfl)
  | 12, _ =>
   refine op_step o17_1_12 ho ?_
   rw [out (tt := 19) (by kernel_rfl), M.r19]
   exact load_part (c := t.cells) (S.get M.c19 (by simpa using M.n19)) (by simp [SkyR.cells]) rfl rfl (same rfl rfl)
  | 13, _ =>
   refine op_step o17_1_13 ho ?_
   rw [out (tt := 19) (by kernel_rfl), M.r19]
   exact load_part (c := t.cells) (S.get M.c19 (by simpa using M.n19)) (by simp [SkyR.cells]) rfl rfl (same rfl rfl)
  | 14, _ =>
   refine op_step o17_1_14 ho ?_
   have u11 : f1.r 58 = .agg ⟨s.cells⟩ := (dep (j := 11) (tt := 58) (by kernel_rfl) ⟨o17_1_11 (J := J).1, o17_1_11 (J := J).2.1⟩)
   have u12 : f1.r 59 = .agg ⟨t.cells⟩ := (dep (j := 12) (tt := 59) (by kernel_rfl) ⟨o17_1_12 (J := J).1, o17_1_12 (J := J).2.1⟩)
   have u13 : f1.r 60 = .agg ⟨t.cells⟩ := (dep (j := 13) (tt := 60) (by kernel_rfl) ⟨o17_1_13 (J := J).1, o17_1_13 (J := J).2.1⟩)
   rw [u11, u12, u13]
   refine ⟨by decide, fillO (l := s.cells) rfl rfl rfl (Nat.le_of_ble_eq_true (by kernel_rfl)) (fillO (l := t.cells) rfl rfl rfl (Nat.le_of_ble_eq_true (by kernel_rfl)) (fillO (l := t.cells) rfl rfl rfl (Nat.le_of_ble_eq_true (by kernel_rfl)) (fillI (qNew fun h2 qa eq S2 c2 l2 => ?_))))⟩
   rw [w3s] at c2
   exact made rfl (fun b => ⟨0, b⟩) eq S2 c2
  | 15, _ =>
   refine op_step o17_1_15 ho ?_
   exact same rfl (dep (j := 3) (tt := 50) (by kernel_rfl) ⟨o17_1_3 (J := J).1, o17_1_3 (J := J).2.1⟩)
  | 16, _ =>
   refine op_step o17_1_16 ho ?_
   exact same rfl (dep (j := 10) (tt := 57) (by kernel_rfl) ⟨o17_1_10 (J := J).1, o17_1_10 (J := J).2.1⟩)
  | 17, _ =>
   refine op_step o17_1_17 ho ?_
   exact same rfl (dep (j := 14) (tt := 61) (by kernel_rfl) ⟨o17_1_14 (J := J).1, o17_1_14 (J := J).2.1⟩)
 ·intro d f1 h1 hB ds hout hin
  obtain ⟨hx, S⟩ := hB
  have at_ : ∀ {j pj tt}, (ops17_1[j]? = some pj ∧ pj.dst = some tt) → VK.ok Hb.length ((ka17 p q s t hv Hb.length p19) j) (f1.r tt) h1 := fun e => hin _ _ _ e.1 e.2
  have out : ∀ {tt}, noDst ops17_1 tt = true → f1.r tt = f.r tt := fun hn => hout _ (noDst_spec hn)
  refine hS f1 h1 (M.step S (hx.mono ?_) (ds.trans M.ds) (out (tt := 1) (by kernel_rfl)) (out (tt := 3) (by kernel_rfl)) (out (tt := 4) (by kernel_rfl)) (out (tt := 5) (by kernel_rfl)) (out (tt := 6) (by kernel_rfl)) (out (tt := 8) (by kernel_rfl)) (out (tt := 10) (by kernel_rfl)) (out (tt := 17) (by kernel_rfl)) (out (tt := 18) (by kernel_rfl)) (out (tt := 19) (by kernel_rfl))) out S (at_ (j := 15) (tt := 20) ⟨o17_1_15 (J := J).1, o17_1_15 (J := J).2.1⟩) (at_ (j := 16) (tt := 21) ⟨o17_1_16 (J := J).1, o17_1_16 (J := J).2.1⟩) (at_ (j := 17) (tt := 22) ⟨o17_1_17 (J := J).1, o17_1_17 (J := J).2.1⟩)
  cases d 8 <;> decide
set_option maxHeartbeats 4000000 in
theorem region17b (hJ : Closed prog main J) {Hb h H : List AObj} {ns ys : List Int} {f : RG} {p q : Pas} {s t : SkyR} {hv : Value} {fr want many days : Int} {p8 p10 p18 p19 : Nat} {Q : QT} (M : M17 219 Hb h H ns f p q s t ys hv fr want many days p8 p10 p18 p19)
  (hS : ∀ f' H', M17 223 Hb h H' ns f' p q s t ys hv fr want many days p8 p10 p18 p19 → (∀ {tt}, noDst ops17_2 tt = true → f'.r tt = f.r tt) → SameX [Hb.length] H H' → VK.ok Hb.length (.box fun y => [fr, y, fr].map vint) (f'.r 23) H' → VK.ok Hb.length (.box fun y => [want, y, want].map vint) (f'.r 24) H' → VK.ok Hb.length (.box fun y => [many, y, many].map vint) (f'.r 25) H' → VK.ok Hb.length (.box fun y => [days, y, days].map vint) (f'.r 26) H' → Q .normal f' H') :
  Sem J 221 n0 17 (subC [1, 1, 1, 1, 1, 0] (codeOf f17)) f H Q := by
 rw [r17_2]
 have z := z17_2
 refine Sem_vals hJ mixed (by kernel_rfl) (by kernel_rfl) (fun j v H' => VK.ok Hb.length ((kb17 q t fr want many days Hb.length p18 p19) j) v H') (fun d H' => HX Hb H' ns (219 + (bif d 5 then 1 else 0) + (bif d 12 then 1 else 0) + (bif d 17 then 1 else 0) + (bif d 24 then 1 else 0)) ∧ SameX [Hb.length] H H') (SameX [Hb.length]) (fun j v h h' S a => VK.same a S) ⟨M.hx, SameX.refl⟩ ?_ ?_
 ·intro d i o f1 h1 ho hd2 hB hout hdep
  obtain ⟨hx, S⟩ := hB
  have hlt := hxLt hx
  have t0 := M.t0
  have out : ∀ {tt}, noDst ops17_2 tt = true → f1.r tt = f.r tt := fun hn => hout _ (noDst_spec hn)
  have hi : i < 31 := by
   have := (Array.getElem?_eq_some_iff.1 ho).1
   omega
  have dep : ∀ {j pj tt}, needs ops17_2 i j = true → (ops17_2[j]? = some pj ∧ pj.dst = some tt) → VK.ok Hb.length ((kb17 q t fr want many days Hb.length p18 p19) j) (f1.r tt) h1 := fun hn e => needs_spec (A := fun j tt => VK.ok Hb.length ((kb17 q t fr want many days Hb.length p18 p19) j) (f1.r tt) h1) hn ho e.1 e.2 hdep
  have same : ∀ {v}, (5 == i) = false → (12 == i) = false → (17 == i) = false → (24 == i) = false → VK.ok Hb.length ((kb17 q t fr want many days Hb.length p18 p19) i) v h1 → VK.ok Hb.length ((kb17 q t fr want many days Hb.length p18 p19) i) v h1 ∧ (HX Hb h1 ns (219 + (bif (5 == i || d 5) then 1 else 0) + (bif (12 == i || d 12) then 1 else 0) + (bif (17 == i || d 17) then 1 else 0) + (bif (24 == i || d 24) then 1 else 0)) ∧ SameX [Hb.length] H h1) ∧ SameX [Hb.length] h1 h1 := fun {v} e5 e12 e17 e24 qq => by
   rw [e5, e12, e17, e24, Bool.false_or, Bool.false_or, Bool.false_or, Bool.false_or]
   exact ⟨qq, ⟨hx, S⟩, SameX.refl⟩
  have made : ∀ {c} {h2 : List AObj} {qa : Nat}, (5 == i) = false → (12 == i) = false → (17 == i) = false → (24 == i) = false → (B3s Hb.length h2 (.slice (some ⟨qa, 0, none⟩) 3 3) c → VK.ok Hb.length ((kb17 q t fr want many days Hb.length p18 p19) i) (.slice (some ⟨qa, 0, none⟩) 3 3) h2) → qa = h1.length → SameX [] h1 h2 → h2[qa]? = some (.cells c true 0) → VK.ok Hb.length ((kb17 q t fr want many days Hb.length p18 p19) i) (.slice (some ⟨qa, 0, none⟩) 3 3) h2 ∧ (HX Hb h2 ns (219 + (bif (5 == i || d 5) then 1 else 0) + (bif (12 == i || d 12) then 1 else 0) + (bif (17 == i || d 17) then 1 else 0) + (bif (24 == i || d 24) then 1 else 0)) ∧ SameX [Hb.length] H h2) ∧ SameX [Hb.length] h1 h2 := fun {c h2 qa} e5 e12 e17 e24 hk eq S2 c2 => by
   rw [e5, e12, e17, e24, Bool.false_or, Bool.false_or, Bool.false_or, Bool.false_or]
   exact ⟨hk ⟨qa, rfl, by omega, c2⟩, ⟨hx.same S2 (by simp), S.trans S2.weak0⟩, S2.weak0⟩
  match i, hi with
  | 0, _ =>
   refine op_step o17_2_0 ho ?_
   rw [out (tt := 3) (by kernel_rfl), M.r3]
   exact same rfl rfl rfl rfl rfl
  | 1, _ =>
   refine op_step o17_2_1 ho ?_
   rw [out (tt := 17) (by kernel_rfl), M.r17]
   exact same rfl rfl rfl rfl rfl
  | 2, _ =>
   refine op_step o17_2_2 ho ?_
   rw [out (tt := 19) (by kernel_rfl), M.r19]
   exact offI (same rfl rfl rfl rfl rfl)
  | 3, _ =>
   refine op_step o17_2_3 ho ?_
   have u2 : f1.r 64 = ptr p19 0 := (dep (j := 2) (tt := 64) (by kernel_rfl) ⟨o17_2_2 (J := J).1, o17_2_2 (J := J).2.1⟩)
   rw [u2]
   exact ldI (v := vint t.days) (S.get M.c19 (by simpa using M.n19)) rfl rfl (same rfl rfl rfl rfl rfl)
  | 4, _ =>
   refine op_step o17_2_4 ho ?_
   have u3 : f1.r 65 = vint t.days := (dep (j := 3) (tt := 65) (by kernel_rfl) ⟨o17_2_3 (J := J).1, o17_2_3 (J := J).2.1⟩)
   rw [u3]
   exact subI (by omega) (same rfl rfl rfl rfl rfl)
  | 5, _ =>
   refine op_step o17_2_5 ho ?_
   have u1 : f1.r 63 = ptr Hb.length 0 := (dep (j := 1) (tt := 63) (by kernel_rfl) ⟨o17_2_1 (J := J).1, o17_2_1 (J := J).2.1⟩)
   have u4 : f1.r 66 = vint (t.days - 1) := (dep (j := 4) (tt := 66) (by kernel_rfl) ⟨o17_2_4 (J := J).1, o17_2_4 (J := J).2.1⟩)
   rw [u1, u4]
   exact upX hJ hx (by cases d 5 <;> cases d 12 <;> cases d 17 <;> cases d 24 <;> decide) (by omega) fun y h2 y1 y2 S2 l2 hx2 => ⟨⟨y, rfl⟩, ⟨hx2.mono (by show _ ≤ 219 + (bif (5 == 5 || d 5) then 1 else 0) + (bif ((12 : Nat) == 5 || d 12) then 1 else 0) + (bif ((17 : Nat) == 5 || d 17) then 1 else 0) + (bif ((24 : Nat) == 5 || d 24) then 1 else 0); rw [hd2]; cases d 12 <;> cases d 17 <;> cases d 24 <;> decide), S.trans S2⟩, S2⟩
  | 6, _ =>
   refine op_step o17_2_6 ho ?_
   rw [out (tt := 3) (by kernel_rfl), M.r3]
   exact same rfl rfl rfl rfl rfl
  | 7, _ =>
   refine op_step o17_2_7 ho ?_
   have u0 : f1.r 62 = vint fr := (dep (j := 0) (tt := 62) (by kernel_rfl) ⟨o17_2_0 (J := J).1, o17_2_0 (J := J).2.1⟩)
   obtain ⟨y, u5⟩ : ∃ y : Int, f1.r 67 = vint y := (dep (j := 5) (tt := 67) (by kernel_rfl) ⟨o17_2_5 (J := J).1, o17_2_5 (J := J).2.1⟩)
   have u6 : f1.r 68 = vint fr := (dep (j := 6) (tt := 68) (by kernel_rfl) ⟨o17_2_6 (J := J).1, o17_2_6 (J := J).2.1⟩)
   rw [u0, u5, u6]
   refine ⟨by decide, fillO (l := [vint fr]) rfl rfl rfl (Nat.le_of_ble_eq_true (by kernel_rfl)) (fillO (l := [vint y]) rfl rfl rfl (Nat.le_of_ble_eq_true (by kernel_rfl)) (fillO (l := [vint fr]) rfl rfl rfl (Nat.le_of_ble_eq_true (by kernel_rfl)) (fillI (qNew fun h2 qa eq S2 c2 l2 => ?_))))⟩
   rw [w3v] at c2
   exact made rfl rfl rfl rfl (fun b => ⟨y, b⟩) eq S2 c2
  | 8, _ =>
   refine op_step o17_2_8 ho ?_
   rw [out (tt := 4) (by kernel_rfl), M.r4]
   exact same rfl rfl rfl rfl rfl
  | 9, _ =>
   refine op_step o17_2_9 ho ?_
   rw [out (tt := 17) (by kernel_rfl), M.r17]
   exact same rfl rfl rfl rfl rfl
  | 10, _ =>
   refine op_step o17_2_10 ho ?_
   rw [out (tt := 18) (by kernel_rfl), M.r18]
   exact offI (same rfl rfl rfl rfl rfl)
  | 11, _ =>
   refine op_step o17_2_11 ho ?_
   have u10 : f1.r 72 = ptr p18 1 := (dep (j := 10) (tt := 72) (by kernel_rfl) ⟨o17_2_10 (J := J).1, o17_2_10 (J := J).2.1⟩)
   rw [u10]
   exact ldI (v := vint q.bears) (S.get M.c18 (by simpa using M.n18)) rfl rfl (same rfl rfl rfl rfl rfl)
  | 12, _ =>
   refine op_step o17_2_12 ho ?_
   have u9 : f1.r 71 = ptr Hb.length 0 := (dep (j := 9) (tt := 71) (by kernel_rfl) ⟨o17_2_9 (J := J).1, o17_2_9 (J := J).2.1⟩)
   have u11 : f1.r 73 = vint q.bears := (dep (j := 11) (tt := 73) (by kernel_rfl) ⟨o17_2_11 (J := J).1, o17_2_11 (J := J).2.1⟩)
   rw [u9, u11]
   have q0 := M.q0
   exact upX hJ hx (by cases d 5 <;> cases d 12 <;> cases d 17 <;> cases d 24 <;> decide) (by omega) fun y h2 y1 y2 S2 l2 hx2 => ⟨⟨y, rfl⟩, ⟨hx2.mono (by show _ ≤ 219 + (bif ((5 : Nat) == 12 || d 5) then 1 else 0) + (bif (12 == 12 || d 12) then 1 else 0) + (bif ((17 : Nat) == 12 || d 17) then 1 else 0) + (bif ((24 : Nat) == 12 || d 24) then 1 else 0); rw [hd2]; cases d 5 <;> cases d 17 <;> cases d 24 <;> decide), S.trans S2⟩, S2⟩
  | 13, _ =>
   refine op_step o17_2_13 ho ?_
   rw [out (tt := 4) (by kernel_rfl), M.r4]
   exact same rfl rfl rfl rfl rfl
  | 14, _ =>
   refine op_step o17_2_14 ho ?_
   have u8 : f1.r 70 = vint want := (dep (j := 8) (tt := 70) (by kernel_rfl) ⟨o17_2_8 (J := J).1, o17_2_8 (J := J).2.1⟩)
   obtain ⟨y, u12⟩ : ∃ y : Int, f1.r 74 = vint y := (dep (j := 12) (tt := 74) (by kernel_rfl) ⟨o17_2_12 (J := J).1, o17_2_12 (J := J).2.1⟩)
   have u13 : f1.r 75 = vint want := (dep (j := 13) (tt := 75) (by kernel_rfl) ⟨o17_2_13 (J := J).1, o17_2_13 (J := J).2.1⟩)
   rw [u8, u12, u13]
   refine ⟨by decide, fillO (l := [vint want]) rfl rfl rfl (Nat.le_of_ble_eq_true (by kernel_rfl)) (fillO (l := [vint y]) rfl rfl rfl (Nat.le_of_ble_eq_true (by kernel_rfl)) (fillO (l := [vint want]) rfl rfl rfl (Nat.le_of_ble_eq_true (by kernel_rfl)) (fillI (qNew fun h2 qa eq S2 c2 l2 => ?_))))⟩
   rw [w3v] at c2
   exact made rfl rfl rfl rfl (fun b => ⟨y, b⟩) eq S2 c2
  | 15, _ =>
   refine op_step o17_2_15 ho ?_
   rw [out (tt := 5) (by kernel_rfl), M.r5]
   exact same rfl rfl rfl rfl rfl
  | 16, _ =>
   refine op_step o17_2_16 ho ?_
   rw [out (tt := 17) (by kernel_rfl), M.r17]
   exact same rfl rfl rfl rfl rfl
  | 17, _ =>
   refine op_step o17_2_17 ho ?_
   have u16 : f1.r 78 = ptr Hb.length 0 := (dep (j := 16) (tt := 78) (by kernel_rfl) ⟨o17_2_16 (J := J).1, o17_2_16 (J := J).2.1⟩)
   rw [u16]
   exact upX hJ hx (by cases d 5 <;> cases d 12 <;> cases d 17 <;> cases d 24 <;> decide) (by omega) fun y h2 y1 y2 S2 l2 hx2 => ⟨⟨y, rfl⟩, ⟨hx2.mono (by show _ ≤ 219 + (bif ((5 : Nat) == 17 || d 5) then 1 else 0) + (bif ((12 : Nat) == 17 || d 12) then 1 else 0) + (bif (17 == 17 || d 17) then 1 else 0) + (bif ((24 : Nat) == 17 || d 24) then 1 else 0); rw [hd2]; cases d 5 <;> cases d 12 <;> cases d 24 <;> decide), S.trans S2⟩, S2⟩
  | 18, _ =>
   refine op_step o17_2_18 ho ?_
   rw [out (tt := 5) (by kernel_rfl), M.r5]
   exact same rfl rfl rfl rfl rfl
  | 19, _ =>
   refine op_step o17_2_19 ho ?_
   have u15 : f1.r 77 = vint many := (dep (j := 15) (tt := 77) (by kernel_rfl) ⟨o17_2_15 (J := J).1, o17_2_15 (J := J).2.1⟩)
   obtain ⟨y, u17⟩ : ∃ y : Int, f1.r 79 = vint y := (dep (j := 17) (tt := 79) (by kernel_rfl) ⟨o17_2_17 (J := J).1, o17_2_17 (J := J).2.1⟩)
   have u18 : f1.r 80 = vint many := (dep (j := 18) (tt := 80) (by kernel_rfl) ⟨o17_2_18 (J := J).1, o17_2_18 (J := J).2.1⟩)
   rw [u15, u17, u18]
   refine ⟨by decide, fillO (l := [vint many]) rfl rfl rfl (Nat.le_of_ble_eq_true (by kernel_rfl)) (fillO (l := [vint y]) rfl rfl rfl (Nat.le_of_ble_eq_true (by kernel_rfl)) (fillO (l := [vint many]) rfl rfl rfl (Nat.le_of_ble_eq_true (by kernel_rfl)) (fillI (qNew fun h2 qa eq S2 c2 l2 => ?_))))⟩
   rw [w3v] at c2
   exact made rfl rfl rfl rfl (fun b => ⟨y, b⟩) eq S2 c2
  | 20, _ =>
   refine op_step o17_2_20 ho ?_
   rw [out (tt := 6) (by kernel_rfl), M.r6]
   exact same rfl rfl rfl rfl rfl
  | 21, _ =>
   refine op_step o17_2_21 ho ?_
   rw [out (tt := 17) (by kernel_rfl), M.r17]
   exact same rfl rfl rfl rfl rfl
  | 22, _ =>
   refine op_step o17_2_22 ho ?_
   rw [out (tt := 19) (by kernel_rfl), M.r19]
   exact offI (same rfl rfl rfl rfl rfl)
  | 23, _ =>
   refine op_step o17_2_23 ho ?_
   have u22 : f1.r 84 = ptr p19 0 := (dep (j := 22) (tt := 84) (by kernel_rfl) ⟨o17_2_22 (J := J).1, o17_2_22 (J := J).2.1⟩)
   rw [u22]
   exact ldI (v := vint t.days) (S.get M.c19 (by simpa using M.n19)) rfl rfl (same rfl rfl rfl rfl rfl)
  | 24, _ =>
   refine op_step o17_2_24 ho ?_
   have u21 : f1.r 83 = ptr Hb.length 0 := (dep (j := 21) (tt := 83) (by kernel_rfl) ⟨o17_2_21 (J := J).1, o17_2_21 (J := J).2.1⟩)
   have u23 : f1.r 85 = vint t.days := (dep (j := 23) (tt := 85) (by kernel_rfl) ⟨o17_2_23 (J := J).1, o17_2_23 (J := J).2.1⟩)
   rw [u21, u23]
   exact amX hJ hx (by cases d 5 <;> cases d 12 <;> cases d 17 <;> cases d 24 <;> decide) (by omega) (by omega) fun y h2 y1 y2 S2 l2 hx2 => ⟨⟨y, rfl⟩, ⟨hx2.mono (by show _ ≤ 219 + (bif ((5 : Nat) == 24 || d 5) then 1 else 0) + (bif ((12 : Nat) == 24 || d 12) then 1 else 0) + (bif ((17 : Nat) == 24 || d 17) then 1 else 0) + (bif (24 == 24 || d 24) then 1 else 0); rw [hd2]; cases d 5 <;> cases d 12 <;> cases d 17 <;> decide), S.trans S2⟩, S2⟩
  | 25, _ =>
   refine op_step o17_2_25 ho ?_
   rw [out (tt := 6) (by kernel_rfl), M.r6]
   exact same rfl rfl rfl rfl rfl
  | 26, _ =>
   refine op_step o17_2_26 ho ?_
   have u20 : f1.r 82 = vint days := (dep (j := 20) (tt := 82) (by kernel_rfl) ⟨o17_2_20 (J := J).1, o17_2_20 (J := J).2.1⟩)
   obtain ⟨y, u24⟩ : ∃ y : Int, f1.r 86 = vint y := (dep (j := 24) (tt := 86) (by kernel_rfl) ⟨o17_2_24 (J := J).1, o17_2_24 (J := J).2.1⟩)
   have u25 : f1.r 87 = vint days := (dep (j := 25) (tt := 87) (by kernel_rfl) ⟨o17_2_25 (J := J).1, o17_2_25 (J := J).2.1⟩)
   rw [u20, u24, u25]
   refine ⟨by decide, fillO (l := [vint days]) rfl rfl rfl (Nat.le_of_ble_eq_true (by kernel_rfl)) (fillO (l := [vint y]) rfl rfl rfl (Nat.le_of_ble_eq_true (by kernel_rfl)) (fillO (l := [vint days]) rfl rfl rfl (Nat.le_of_ble_eq_true (by kernel_rfl)) (fillI (qNew fun h2 qa eq S2 c2 l2 => ?_))))⟩
   rw [w3v] at c2
   exact made rfl rfl rfl rfl (fun b => ⟨y, b⟩) eq S2 c2
  | 27, _ =>
   refine op_step o17_2_27 ho ?_
   exact same rfl rfl rfl rfl (dep (j := 7) (tt := 69) (by kernel_rfl) ⟨o17_2_7 (J := J).1, o17_2_7 (J := J).2.1⟩)
  | 28, _ =>
   refine op_step o17_2_28 ho ?_
   exact same rfl rfl rfl rfl (dep (j := 14) (tt := 76) (by kernel_rfl) ⟨o17_2_14 (J := J).1, o17_2_14 (J := J).2.1⟩)
  | 29, _ =>
   refine op_step o17_2_29 ho ?_
   exact same rfl rfl rfl rfl (dep (j := 19) (tt := 81) (by kernel_rfl) ⟨o17_2_19 (J := J).1, o17_2_19 (J := J).2.1⟩)
  | 30, _ =>
   refine op_step o17_2_30 ho ?_
   exact same rfl rfl rfl rfl (dep (j := 26) (tt := 88) (by kernel_rfl) ⟨o17_2_26 (J := J).1, o17_2_26 (J := J).2.1⟩)
 ·intro d f1 h1 hB ds hout hin
  obtain ⟨hx, S⟩ := hB
  have at_ : ∀ {j pj tt}, (ops17_2[j]? = some pj ∧ pj.dst = some tt) → VK.ok Hb.length ((kb17 q t fr want many days Hb.length p18 p19) j) (f1.r tt) h1 := fun e => hin _ _ _ e.1 e.2
  have out : ∀ {tt}, noDst ops17_2 tt = true → f1.r tt = f.r tt := fun hn => hout _ (noDst_spec hn)
  refine hS f1 h1 (M.step S (hx.mono ?_) (ds.trans M.ds) (out (tt := 1) (by kernel_rfl)) (out (tt := 3) (by kernel_rfl)) (out (tt := 4) (by kernel_rfl)) (out (tt := 5) (by kernel_rfl)) (out (tt := 6) (by kernel_rfl)) (out (tt := 8) (by kernel_rfl)) (out (tt := 10) (by kernel_rfl)) (out (tt := 17) (by kernel_rfl)) (out (tt := 18) (by kernel_rfl)) (out (tt := 19) (by kernel_rfl))) out S (at_ (j := 27) (tt := 23) ⟨o17_2_27 (J := J).1, o17_2_27 (J := J).2.1⟩) (at_ (j := 28) (tt := 24) ⟨o17_2_28 (J := J).1, o17_2_28 (J := J).2.1⟩) (at_ (j := 29) (tt := 25) ⟨o17_2_29 (J := J).1, o17_2_29 (J := J).2.1⟩) (at_ (j := 30) (tt := 26) ⟨o17_2_30 (J := J).1, o17_2_30 (J := J).2.1⟩)
  cases d 5 <;> cases d 12 <;> cases d 17 <;> cases d 24 <;> decide
end
end Go.Proofs.Ythnccaajpdnndaa
namespace Go.Proofs.Ythnccaajpdnndaa
open Go.Conc Go.Proofs.Try
set_option maxRecDepth 100000
set_option maxHeartbeats 4000000
set_option linter.unusedVariables false
section
variable {main : Bool} {J : JT} {n0 : Nat} {h : List AObj} {K : Value → List AObj → Prop}
theorem at64 : prog.funcs[64]? = some f64 := by kernel_rfl
theorem body64 : f64.body = some (codeOf f64) := by kernel_rfl
def pl64 : Plans := []
def ct64 : Cuts := .go
theorem pok64 : plansOk prog pl64 (codeOf f64) = true := by kernel_rfl
theorem e64 {a0 a1 a2 a3 a4 : Value} : W prog J 49 h.length 64 (codeOf f64) (RG.mk (regs [a0, a1, a2, a3, a4]) []) h (RetQ prog [.tmp 10, .tmp 11] h.length K) =
(aBox a0 h fun v1 h2 =>
 aBox a2 h2 fun v3 h4 =>
 aLoad true 6 v1 h4 fun v5 =>
 aLoad true 3 v3 h4 fun v6 =>
 Good prog J 48 [v5, a1, v6] h4 fun v7 h8 =>
 aExt v7 0 fun v9 =>
 aExt v7 1 fun v10 =>
 aBin prog .neq 37 v10 (vint 0) fun v11 =>
 cnd v11
(retL h.length K [] [(vint 0), v10] h8)
(aOff v3 0 fun v12 =>
 aLoad false 1 v12 h8 fun v13 =>
 aBin prog .sub 3 v13 (vint 1) fun v14 =>
 Good prog J 82 [a3, (vint 0), v14] h8 fun v15 h16 =>
 aUn .not v15 fun v17 =>
 cnd v17
(retL h.length K [] [(vint 0), (vint 3)] h16)
(Good prog J 82 [a4, (vint 0), (vint 99)] h16 fun v18 h19 =>
 aUn .not v18 fun v20 =>
 cnd v20
(retL h.length K [] [(vint 0), (vint 1)] h19)
(Sem J 49 h.length 64 (subC [1, 1, 1, 1, 1, 0, 1, 0] (codeOf f64)) (RG.p (RG.p (RG.p (RG.p (RG.p (RG.p (RG.p (RG.p (RG.p (RG.p (RG.p (RG.p (RG.p (RG.p (RG.p (RG.p (RG.p (RG.p (RG.p (RG.p (RG.p (RG.p (RG.p (RG.p (RG.p (RG.p (RG.mk (regs [a0, a1, a2, a3, a4]) []) 5 v1) 7 v3) 10 (vint 0)) 11 (vint 0)) 16 v5) 17 a1) 18 v6) 19 v7) 15 v7) 20 v9) 21 v10) 12 v9) 13 v10) 22 v10) 23 v11) 25 a3) 26 v12) 27 v13) 28 v14) 29 v15) 30 v17) 31 a4) 32 v18) 33 v20) 34 a3) 14 a3) h19 (contX pl64 prog J 49 h.length 64 ct64 [1, 1, 1, 1, 1, 0, 1, 0] (codeOf f64) [] (RetQ prog [.tmp 10, .tmp 11] h.length K)))))) := top_eq pok64 ct64 (by kernel_rfl)
theorem g64 (hJ : Closed prog main J) {a0 a1 a2 a3 a4 : Value} (hs : heapOk h → W prog J 49 h.length 64 (codeOf f64) (RG.mk (regs [a0, a1, a2, a3, a4]) []) h (RetQ prog [.tmp 10, .tmp 11] h.length K)) : Good prog J 64 [a0, a1, a2, a3, a4] h K :=
 good_of_W hJ mixed at64 body64 (by kernel_rfl) (Nat.le_of_ble_eq_true rfl) hs
theorem s64_1 {f : RG} {nx0 : RG → List AObj → Prop} : W prog J 49 n0 64 (subC [1, 1, 1, 1, 1, 0, 1, 0, 0] (codeOf f64)) f h (thenK nx0 (contX pl64 prog J 49 n0 64 ct64 [1, 1, 1, 1, 1, 0, 1, 0] (codeOf f64) [] (RetQ prog [.tmp 10, .tmp 11] n0 K))) =
(aLenS (f.r 12) fun v1 =>
 aBin prog .lss 3 (f.r 14) v1 fun v2 =>
 cnd v2
(aIdx 2 (f.r 12) (f.r 14) fun v3 =>
 aOff v3 0 fun v4 =>
 aLoad false 1 v4 h fun v5 =>
 aBin prog .geq 3 v5 (f.r 4) fun v6 =>
 cnd v6
(retL n0 K f.ds [(f.r 14), (vint 0)] h)
(aBin prog .add 3 (f.r 14) (vint 1) fun v7 =>
 nx0 (RG.p (RG.p (RG.p (RG.p (RG.p (RG.p (RG.p (RG.p (RG.p (RG.p (RG.p (RG.p (RG.p (RG.p f 35 (f.r 14)) 36 (f.r 12)) 37 v1) 38 v2) 41 (f.r 12)) 42 (f.r 14)) 43 v3) 44 v4) 45 v5) 46 (f.r 4)) 47 v6) 39 (f.r 14)) 40 v7) 14 v7) h))
(retL n0 K f.ds [(vint 0), (vint 11)] h)) := sub_eq pok64 ct64 (by kernel_rfl)
theorem l64_1 (hJ : Closed prog main J) {S : Type} (μ : S → Nat) (I : S → RG → List AObj → Prop) (hI : ∀ s f h, I s f h → heapOk h → n0 ≤ h.length → W prog J 49 n0 64 (subC [1, 1, 1, 1, 1, 0, 1, 0, 0] (codeOf f64)) f h (thenK (Nx n0 μ I s) (contX pl64 prog J 49 n0 64 ct64 [1, 1, 1, 1, 1, 0, 1, 0] (codeOf f64) [] (RetQ prog [.tmp 10, .tmp 11] n0 K))))
 {s : S} {f : RG} (hi : Gets n0 I s f h) : Sem J 49 n0 64 (subC [1, 1, 1, 1, 1, 0, 1, 0] (codeOf f64)) f h (contX pl64 prog J 49 n0 64 ct64 [1, 1, 1, 1, 1, 0, 1, 0] (codeOf f64) [] (RetQ prog [.tmp 10, .tmp 11] n0 K)) :=
 loop_rule hJ mixed (b := subC [1, 1, 1, 1, 1, 0, 1, 0, 0] (codeOf f64)) (by kernel_rfl) μ I hI hi
theorem at66 : prog.funcs[66]? = some f66 := by kernel_rfl
theorem body66 : f66.body = some (codeOf f66) := by kernel_rfl
def pl66 : Plans := []
def ct66 : Cuts := .bin (.go) (.bin (.go) (.bin (.go) (.bin (.bin (.go) (.cut (.go))) (.go))))
theorem pok66 : plansOk prog pl66 (codeOf f66) = true := by kernel_rfl
theorem e66 {a0 a1 a2 a3 a4 : Value} : W prog J 57 h.length 66 (codeOf f66) (RG.mk (regs [a0, a1, a2, a3, a4]) []) h (RetQ prog [.tmp 10, .tmp 11] h.length K) =
(aBox a0 h fun v1 h2 =>
 aBox a1 h2 fun v3 h4 =>
 aLoad true 6 v1 h4 fun v5 =>
 Good prog J 37 [v5] h4 fun v6 h7 =>
 aBin prog .neq 37 v6 (vint 0) fun v8 =>
 cnd v8
(retL h.length K [] [(vint 0), v6] h7)
(aLoad true 3 v3 h7 fun v9 =>
 Good prog J 81 [v9] h7 fun v10 h11 =>
 aBin prog .neq 37 v10 (vint 0) fun v12 =>
 cnd v12
(retL h.length K [] [(vint 0), v10] h11)
(Good prog J 82 [a2, (vint 0), (vint 40)] h11 fun v13 h14 =>
 aUn .not v13 fun v15 =>
 cnd v15
(Hold (W prog J 57 h.length 66 (subC [1, 1, 1, 0, 1] (codeOf f66)) (RG.p (RG.p (RG.p (RG.p (RG.p (RG.p (RG.p (RG.p (RG.p (RG.p (RG.p (RG.p (RG.p (RG.p (RG.p (RG.p (RG.p (RG.p (RG.p (RG.p (RG.p (RG.p (RG.p (RG.p (RG.p (RG.mk (regs [a0, a1, a2, a3, a4]) []) 5 v1) 6 v3) 10 (vint 0)) 11 (vint 0)) 15 v5) 16 v6) 12 v6) 17 v6) 18 v8) 20 v9) 21 v10) 13 v10) 22 v10) 23 v12) 25 a2) 26 v13) 27 v15) 28 v15) 28 (Value.bool true)) 29 undef) 30 undef) 31 undef) 32 undef) 33 undef) 34 (Value.bool true)) h14 (contX pl66 prog J 57 h.length 66 ct66 [1, 1, 1, 0, 1] (codeOf f66) [] (RetQ prog [.tmp 10, .tmp 11] h.length K))))
(aOff v3 0 fun v16 =>
 aLoad false 1 v16 h14 fun v17 =>
 Good prog J 82 [a3, (vint 1), v17] h14 fun v18 h19 =>
 aUn .not v18 fun v20 =>
 Hold (W prog J 57 h.length 66 (subC [1, 1, 1, 0, 1] (codeOf f66)) (RG.p (RG.p (RG.p (RG.p (RG.p (RG.p (RG.p (RG.p (RG.p (RG.p (RG.p (RG.p (RG.p (RG.p (RG.p (RG.p (RG.p (RG.p (RG.p (RG.p (RG.p (RG.p (RG.p (RG.p (RG.p (RG.mk (regs [a0, a1, a2, a3, a4]) []) 5 v1) 6 v3) 10 (vint 0)) 11 (vint 0)) 15 v5) 16 v6) 12 v6) 17 v6) 18 v8) 20 v9) 21 v10) 13 v10) 22 v10) 23 v12) 25 a2) 26 v13) 27 v15) 28 v15) 28 (Value.bool false)) 29 a3) 30 v16) 31 v17) 32 v18) 33 v20) 34 v20) h19 (contX pl66 prog J 57 h.length 66 ct66 [1, 1, 1, 0, 1] (codeOf f66) [] (RetQ prog [.tmp 10, .tmp 11] h.length K))))))) := top_eq pok66 ct66 (by kernel_rfl)
theorem g66 (hJ : Closed prog main J) {a0 a1 a2 a3 a4 : Value} (hs : heapOk h → W prog J 57 h.length 66 (codeOf f66) (RG.mk (regs [a0, a1, a2, a3, a4]) []) h (RetQ prog [.tmp 10, .tmp 11] h.length K)) : Good prog J 66 [a0, a1, a2, a3, a4] h K :=
 good_of_W hJ mixed at66 body66 (by kernel_rfl) (Nat.le_of_ble_eq_true rfl) hs
theorem s66_1 {f : RG} : W prog J 57 n0 66 (subC [1, 1, 1, 0, 1] (codeOf f66)) f h (contX pl66 prog J 57 n0 66 ct66 [1, 1, 1, 0, 1] (codeOf f66) [] (RetQ prog [.tmp 10, .tmp 11] n0 K)) =
(cnd (f.r 34)
(retL n0 K f.ds [(vint 0), (vint 1)] h)
(aOff (f.r 6) 0 fun v1 =>
 aLoad false 1 v1 h fun v2 =>
 aBin prog .sub 3 v2 (vint 1) fun v3 =>
 Good prog J 82 [(f.r 4), (vint 0), v3] h fun v4 h5 =>
 aUn .not v4 fun v6 =>
 cnd v6
(retL n0 K f.ds [(vint 0), (vint 3)] h5)
(Sem J 57 n0 66 (subC [1, 1, 1, 1, 1, 0, 1, 0] (codeOf f66)) (RG.p (RG.p (RG.p (RG.p (RG.p (RG.p (RG.p (RG.p f 35 (f.r 4)) 36 v1) 37 v2) 38 v3) 39 v4) 40 v6) 41 (f.r 4)) 14 (f.r 4)) h5 (contX pl66 prog J 57 n0 66 ct66 [1, 1, 1, 1, 1, 0, 1, 0] (codeOf f66) [] (RetQ prog [.tmp 10, .tmp 11] n0 K))))) := sub_eq pok66 ct66 (by kernel_rfl)
theorem s66_2 {f : RG} {nx0 : RG → List AObj → Prop} : W prog J 57 n0 66 (subC [1, 1, 1, 1, 1, 0, 1, 0, 0] (codeOf f66)) f h (thenK nx0 (contX pl66 prog J 57 n0 66 ct66 [1, 1, 1, 1, 1, 0, 1, 0] (codeOf f66) [] (RetQ prog [.tmp 10, .tmp 11] n0 K))) =
(aBin prog .add 3 (f.r 14) (f.r 3) fun v1 =>
 aOff (f.r 6) 0 fun v2 =>
 aLoad false 1 v2 h fun v3 =>
 aBin prog .leq 3 v1 v3 fun v4 =>
 cnd v4
(aLoad true 6 (f.r 5) h fun v5 =>
 aLoad true 3 (f.r 6) h fun v6 =>
 Good prog J 95 [v5, v6, (f.r 2), (f.r 14), (f.r 3)] h fun v7 h8 =>
 cnd v7
(retL n0 K f.ds [(f.r 14), (vint 0)] h8)
(aBin prog .add 3 (f.r 14) (vint 1) fun v9 =>
 nx0 (RG.p (RG.p (RG.p (RG.p (RG.p (RG.p (RG.p (RG.p (RG.p (RG.p (RG.p (RG.p (RG.p (RG.p (RG.p f 42 (f.r 14)) 43 (f.r 3)) 44 v1) 45 v2) 46 v3) 47 v4) 50 v5) 51 v6) 52 (f.r 2)) 53 (f.r 14)) 54 (f.r 3)) 55 v7) 48 (f.r 14)) 49 v9) 14 v9) h8))
(retL n0 K f.ds [(vint 0), (vint 11)] h)) := sub_eq pok66 ct66 (by kernel_rfl)
theorem l66_2 (hJ : Closed prog main J) {S : Type} (μ : S → Nat) (I : S → RG → List AObj → Prop) (hI : ∀ s f h, I s f h → heapOk h → n0 ≤ h.length → W prog J 57 n0 66 (subC [1, 1, 1, 1, 1, 0, 1, 0, 0] (codeOf f66)) f h (thenK (Nx n0 μ I s) (contX pl66 prog J 57 n0 66 ct66 [1, 1, 1, 1, 1, 0, 1, 0] (codeOf f66) [] (RetQ prog [.tmp 10, .tmp 11] n0 K))))
 {s : S} {f : RG} (hi : Gets n0 I s f h) : Sem J 57 n0 66 (subC [1, 1, 1, 1, 1, 0, 1, 0] (codeOf f66)) f h (contX pl66 prog J 57 n0 66 ct66 [1, 1, 1, 1, 1, 0, 1, 0] (codeOf f66) [] (RetQ prog [.tmp 10, .tmp 11] n0 K)) :=
 loop_rule hJ mixed (b := subC [1, 1, 1, 1, 1, 0, 1, 0, 0] (codeOf f66)) (by kernel_rfl) μ I hI hi
end
section
variable {main : Bool} {J : JT} {n0 : Nat} {h : List AObj} {K : Value → List AObj → Prop}
theorem at63 : prog.funcs[63]? = some f63 := by kernel_rfl
theorem body63 : f63.body = some (codeOf f63) := by kernel_rfl
def pl63 : Plans := []
def ct63 : Cuts := .bin (.go) (.bin (.go) (.bin (.go) (.bin (.go) (.bin (.bin (.go) (.un (.un (.bin (.go) (.bin (.go) (.bin (.un (.bin (.go) (.bin (.go) (.cut (.go))))) (.go))))))) (.go)))))
theorem pok63 : plansOk prog pl63 (codeOf f63) = true := by kernel_rfl
theorem e63 {a0 a1 a2 a3 a4 : Value} : W prog J 52 h.length 63 (codeOf f63) (RG.mk (regs [a0, a1, a2, a3, a4]) []) h (RetQ prog [.tmp 10, .tmp 11] h.length K) =
(aBox a0 h fun v1 h2 =>
 aBox a2 h2 fun v3 h4 =>
 aLoad true 6 v1 h4 fun v5 =>
 aLoad true 3 v3 h4 fun v6 =>
 Good prog J 92 [v5, a1, v6] h4 fun v7 h8 =>
 aBin prog .neq 37 v7 (vint 0) fun v9 =>
 cnd v9
(retL h.length K [] [(vint 0), v7] h8)
(aOff v3 0 fun v10 =>
 aLoad false 1 v10 h8 fun v11 =>
 aBin prog .sub 3 v11 (vint 1) fun v12 =>
 Good prog J 73 [a3, (vint 0), v12] h8 fun v13 h14 =>
 aUn .not v13 fun v15 =>
 cnd v15
(retL h.length K [] [(vint 0), (vint 3)] h14)
(Good prog J 73 [a4, (vint 0), (vint 99)] h14 fun v16 h17 =>
 aUn .not v16 fun v18 =>
 cnd v18
(retL h.length K [] [(vint 0), (vint 1)] h17)
(aLoad true 6 v1 h17 fun v19 =>
 aLoad true 3 v3 h17 fun v20 =>
 Good prog J 93 [v19, a1, v20] h17 fun v21 h22 =>
 aLenS v21 fun v23 =>
 Sem J 52 h.length 63 (subC [1, 1, 1, 1, 0, 1, 0] (codeOf f63)) (RG.p (RG.p (RG.p (RG.p (RG.p (RG.p (RG.p (RG.p (RG.p (RG.p (RG.p (RG.p (RG.p (RG.p (RG.p (RG.p (RG.p (RG.p (RG.p (RG.p (RG.p (RG.p (RG.p (RG.p (RG.p (RG.p (RG.mk (regs [a0, a1, a2, a3, a4]) []) 5 v1) 7 v3) 10 (vint 0)) 11 (vint 0)) 15 v5) 16 a1) 17 v6) 18 v7) 12 v7) 19 v7) 20 v9) 22 a3) 23 v10) 24 v11) 25 v12) 26 v13) 27 v15) 28 a4) 29 v16) 30 v18) 31 v19) 32 a1) 33 v20) 34 v21) 35 v23) 36 (vint 0)) h22 (contX pl63 prog J 52 h.length 63 ct63 [1, 1, 1, 1, 0, 1, 0] (codeOf f63) [] (RetQ prog [.tmp 10, .tmp 11] h.length K)))))) := top_eq pok63 ct63 (by kernel_rfl)
theorem g63 (hJ : Closed prog main J) {a0 a1 a2 a3 a4 : Value} (hs : heapOk h → W prog J 52 h.length 63 (codeOf f63) (RG.mk (regs [a0, a1, a2, a3, a4]) []) h (RetQ prog [.tmp 10, .tmp 11] h.length K)) : Good prog J 63 [a0, a1, a2, a3, a4] h K :=
 good_of_W hJ mixed at63 body63 (by kernel_rfl) (Nat.le_of_ble_eq_true rfl) hs
theorem s63_1 {f : RG} {nx0 : RG → List AObj → Prop} : W prog J 52 n0 63 (subC [1, 1, 1, 1, 0, 1, 0, 0] (codeOf f63)) f h (thenK nx0 (contX pl63 prog J 52 n0 63 ct63 [1, 1, 1, 1, 0, 1, 0] (codeOf f63) [] (RetQ prog [.tmp 10, .tmp 11] n0 K))) =
(aBin prog .lss 3 (f.r 36) (f.r 35) fun v1 =>
 cnd v1
(aIdx 3 (f.r 34) (f.r 36) fun v2 =>
 aLoad true 3 v2 h fun v3 =>
 aAlloc [(vint 0), (vint 0), (Value.bool false)] h fun v4 h5 =>
 aStore 3 v4 v3 h5 fun h6 =>
 aBin prog .geq 3 (f.r 36) (f.r 3) fun v7 =>
 cnd v7
(aOff v4 0 fun v8 =>
 aLoad false 1 v8 h6 fun v9 =>
 aBin prog .geq 3 v9 (f.r 4) fun v10 =>
 Hold (W prog J 52 n0 63 (subC [1, 1, 1, 1, 0, 1, 0, 0, 1, 1, 0, 0, 1, 1] (codeOf f63)) (RG.p (RG.p (RG.p (RG.p (RG.p (RG.p (RG.p (RG.p (RG.p (RG.p (RG.p (RG.p (RG.p (RG.p (RG.p (RG.p f 37 v1) 38 (f.r 36)) 39 v2) 40 v3) 14 v4) 13 (f.r 36)) 41 (f.r 36)) 42 (f.r 3)) 43 v7) 44 v7) 44 (Value.bool true)) 45 v8) 46 v9) 47 (f.r 4)) 48 v10) 49 v10) h6 (contX pl63 prog J 52 n0 63 ct63 [1, 1, 1, 1, 0, 1, 0, 0, 1, 1, 0, 0, 1, 1] (codeOf f63) [nx0] (RetQ prog [.tmp 10, .tmp 11] n0 K))))
(Hold (W prog J 52 n0 63 (subC [1, 1, 1, 1, 0, 1, 0, 0, 1, 1, 0, 0, 1, 1] (codeOf f63)) (RG.p (RG.p (RG.p (RG.p (RG.p (RG.p (RG.p (RG.p (RG.p (RG.p (RG.p (RG.p (RG.p (RG.p (RG.p (RG.p f 37 v1) 38 (f.r 36)) 39 v2) 40 v3) 14 v4) 13 (f.r 36)) 41 (f.r 36)) 42 (f.r 3)) 43 v7) 44 v7) 44 (Value.bool false)) 45 undef) 46 undef) 47 undef) 48 undef) 49 (Value.bool false)) h6 (contX pl63 prog J 52 n0 63 ct63 [1, 1, 1, 1, 0, 1, 0, 0, 1, 1, 0, 0, 1, 1] (codeOf f63) [nx0] (RetQ prog [.tmp 10, .tmp 11] n0 K)))))
(retL n0 K f.ds [(vint 0), (vint 11)] h)) := sub_eq pok63 ct63 (by kernel_rfl)
theorem l63_1 (hJ : Closed prog main J) {S : Type} (μ : S → Nat) (I : S → RG → List AObj → Prop) (hI : ∀ s f h, I s f h → heapOk h → n0 ≤ h.length → W prog J 52 n0 63 (subC [1, 1, 1, 1, 0, 1, 0, 0] (codeOf f63)) f h (thenK (Nx n0 μ I s) (contX pl63 prog J 52 n0 63 ct63 [1, 1, 1, 1, 0, 1, 0] (codeOf f63) [] (RetQ prog [.tmp 10, .tmp 11] n0 K))))
 {s : S} {f : RG} (hi : Gets n0 I s f h) : Sem J 52 n0 63 (subC [1, 1, 1, 1, 0, 1, 0] (codeOf f63)) f h (contX pl63 prog J 52 n0 63 ct63 [1, 1, 1, 1, 0, 1, 0] (codeOf f63) [] (RetQ prog [.tmp 10, .tmp 11] n0 K)) :=
 loop_rule hJ mixed (b := subC [1, 1, 1, 1, 0, 1, 0, 0] (codeOf f63)) (by kernel_rfl) μ I hI hi
theorem s63_2 {f : RG} {nx0 : RG → List AObj → Prop} : W prog J 52 n0 63 (subC [1, 1, 1, 1, 0, 1, 0, 0, 1, 1, 0, 0, 1, 1] (codeOf f63)) f h (contX pl63 prog J 52 n0 63 ct63 [1, 1, 1, 1, 0, 1, 0, 0, 1, 1, 0, 0, 1, 1] (codeOf f63) [nx0] (RetQ prog [.tmp 10, .tmp 11] n0 K)) =
(cnd (f.r 49)
(retL n0 K f.ds [(f.r 13), (vint 0)] h)
(aBin prog .add 3 (f.r 36) (vint 1) fun v1 =>
 nx0 (RG.p (RG.p f 51 v1) 36 v1) h)) := sub_eq pok63 ct63 (by kernel_rfl)
end
section
variable {main : Bool} {J : JT} {n0 : Nat} {h : List AObj} {K : Value → List AObj → Prop}
theorem at65 : prog.funcs[65]? = some f65 := by kernel_rfl
theorem body65 : f65.body = some (codeOf f65) := by kernel_rfl
def pl65 : Plans := [(1, false, .take 0 (.take 2 (.last 1 true (.last 3 true (.last 4 true (.last 5 true (.take 6 (.fin))))))))]
def ct65 : Cuts := .bin (.go) (.bin (.go) (.bin (.bin (.go) (.cut (.go))) (.go)))
theorem pok65 : plansOk prog pl65 (codeOf f65) = true := by kernel_rfl
theorem e65 {a0 a1 a2 a3 a4 : Value} : W prog J 55 h.length 65 (codeOf f65) (RG.mk (regs [a0, a1, a2, a3, a4]) []) h (RetQ prog [.tmp 10, .tmp 11] h.length K) =
(aBox a0 h fun v1 h2 =>
 aBox a1 h2 fun v3 h4 =>
(∃ B, aLoad true 6 v1 h4 fun v5 =>
 RdOk (some B) (ptrBlk v1) ∧ (aLoad true 3 v3 h4 fun v6 =>
 RdOk (some B) (ptrBlk v3) ∧ (Good prog J 36 [v5] h4 fun v7 h8 =>
 SameB (some B) h4 h8 ∧ (Good prog J 72 [v6] h8 fun v9 h10 =>
 SameB (some B) h4 h10 ∧ ((((2 * 1 : Nat) ≤ 16777216 ∧ (2 : Nat) ≤ 16777216 ∧ List.length [(vint 0)] = 1) ∧ aFill (zrep [(vint 0)] 2) [(0, 1, v7), (1, 1, v9)] fun c11 =>
 aNewS 2 c11 h10 fun v12 h13 =>
 SameB (some B) h4 h13 ∧ (Good prog J 88 [v12] h13 fun v14 h15 =>
 SameB (some B) h4 h15 ∧ (aBin prog .neq 37 v14 (vint 0) fun v16 =>
 cnd v16
(retL h.length K [] [(vint 0), v14] h15)
(Good prog J 73 [a2, (vint 0), (vint 40)] h15 fun v17 h18 =>
 aUn .not v17 fun v19 =>
 cnd v19
(Hold (W prog J 55 h.length 65 (subC [1, 1, 0, 1] (codeOf f65)) (RG.p (RG.p (RG.p (RG.p (RG.p (RG.p (RG.p (RG.p (RG.p (RG.p (RG.p (RG.p (RG.p (RG.p (RG.p (RG.p (RG.p (RG.p (RG.p (RG.p (RG.p (RG.p (RG.p (RG.p (RG.mk (regs [a0, a1, a2, a3, a4]) []) 5 v1) 6 v3) 10 (vint 0)) 11 (vint 0)) 14 v5) 16 v6) 15 v7) 17 v9) 18 v12) 19 v14) 12 v14) 20 v14) 21 v16) 23 a2) 24 v17) 25 v19) 26 v19) 26 (Value.bool true)) 27 undef) 28 undef) 29 undef) 30 undef) 31 undef) 32 (Value.bool true)) h18 (contX pl65 prog J 55 h.length 65 ct65 [1, 1, 0, 1] (codeOf f65) [] (RetQ prog [.tmp 10, .tmp 11] h.length K))))
(aOff v3 0 fun v20 =>
 aLoad false 1 v20 h18 fun v21 =>
 Good prog J 73 [a3, (vint 1), v21] h18 fun v22 h23 =>
 aUn .not v22 fun v24 =>
 Hold (W prog J 55 h.length 65 (subC [1, 1, 0, 1] (codeOf f65)) (RG.p (RG.p (RG.p (RG.p (RG.p (RG.p (RG.p (RG.p (RG.p (RG.p (RG.p (RG.p (RG.p (RG.p (RG.p (RG.p (RG.p (RG.p (RG.p (RG.p (RG.p (RG.p (RG.p (RG.p (RG.mk (regs [a0, a1, a2, a3, a4]) []) 5 v1) 6 v3) 10 (vint 0)) 11 (vint 0)) 14 v5) 16 v6) 15 v7) 17 v9) 18 v12) 19 v14) 12 v14) 20 v14) 21 v16) 23 a2) 24 v17) 25 v19) 26 v19) 26 (Value.bool false)) 27 a3) 28 v20) 29 v21) 30 v22) 31 v24) 32 v24) h23 (contX pl65 prog J 55 h.length 65 ct65 [1, 1, 0, 1] (codeOf f65) [] (RetQ prog [.tmp 10, .tmp 11] h.length K)))))))))))))) := top_eq pok65 ct65 (by kernel_rfl)
theorem g65 (hJ : Closed prog main J) {a0 a1 a2 a3 a4 : Value} (hs : heapOk h → W prog J 55 h.length 65 (codeOf f65) (RG.mk (regs [a0, a1, a2, a3, a4]) []) h (RetQ prog [.tmp 10, .tmp 11] h.length K)) : Good prog J 65 [a0, a1, a2, a3, a4] h K :=
 good_of_W hJ mixed at65 body65 (by kernel_rfl) (Nat.le_of_ble_eq_true rfl) hs
theorem s65_1 {f : RG} : W prog J 55 n0 65 (subC [1, 1, 0, 1] (codeOf f65)) f h (contX pl65 prog J 55 n0 65 ct65 [1, 1, 0, 1] (codeOf f65) [] (RetQ prog [.tmp 10, .tmp 11] n0 K)) =
(cnd (f.r 32)
(retL n0 K f.ds [(vint 0), (vint 1)] h)
(aOff (f.r 6) 0 fun v1 =>
 aLoad false 1 v1 h fun v2 =>
 aBin prog .sub 3 v2 (vint 1) fun v3 =>
 Good prog J 73 [(f.r 4), (vint 0), v3] h fun v4 h5 =>
 aUn .not v4 fun v6 =>
 cnd v6
(retL n0 K f.ds [(vint 0), (vint 3)] h5)
(Sem J 55 n0 65 (subC [1, 1, 1, 1, 0, 1, 0] (codeOf f65)) (RG.p (RG.p (RG.p (RG.p (RG.p (RG.p (RG.p (RG.p f 33 (f.r 4)) 34 v1) 35 v2) 36 v3) 37 v4) 38 v6) 39 (f.r 4)) 13 (f.r 4)) h5 (contX pl65 prog J 55 n0 65 ct65 [1, 1, 1, 1, 0, 1, 0] (codeOf f65) [] (RetQ prog [.tmp 10, .tmp 11] n0 K))))) := sub_eq pok65 ct65 (by kernel_rfl)
theorem s65_2 {f : RG} {nx0 : RG → List AObj → Prop} : W prog J 55 n0 65 (subC [1, 1, 1, 1, 0, 1, 0, 0] (codeOf f65)) f h (thenK nx0 (contX pl65 prog J 55 n0 65 ct65 [1, 1, 1, 1, 0, 1, 0] (codeOf f65) [] (RetQ prog [.tmp 10, .tmp 11] n0 K))) =
(aBin prog .add 3 (f.r 13) (f.r 3) fun v1 =>
 aOff (f.r 6) 0 fun v2 =>
 aLoad false 1 v2 h fun v3 =>
 aBin prog .leq 3 v1 v3 fun v4 =>
 cnd v4
(aLoad true 6 (f.r 5) h fun v5 =>
 aLoad true 3 (f.r 6) h fun v6 =>
 Good prog J 89 [v5, v6, (f.r 2), (f.r 13), (f.r 3)] h fun v7 h8 =>
 cnd v7
(retL n0 K f.ds [(f.r 13), (vint 0)] h8)
(aBin prog .add 3 (f.r 13) (vint 1) fun v9 =>
 nx0 (RG.p (RG.p (RG.p (RG.p (RG.p (RG.p (RG.p (RG.p (RG.p (RG.p (RG.p (RG.p (RG.p (RG.p (RG.p f 40 (f.r 13)) 41 (f.r 3)) 42 v1) 43 v2) 44 v3) 45 v4) 48 v5) 49 v6) 50 (f.r 2)) 51 (f.r 13)) 52 (f.r 3)) 53 v7) 46 (f.r 13)) 47 v9) 13 v9) h8))
(retL n0 K f.ds [(vint 0), (vint 11)] h)) := sub_eq pok65 ct65 (by kernel_rfl)
theorem l65_2 (hJ : Closed prog main J) {S : Type} (μ : S → Nat) (I : S → RG → List AObj → Prop) (hI : ∀ s f h, I s f h → heapOk h → n0 ≤ h.length → W prog J 55 n0 65 (subC [1, 1, 1, 1, 0, 1, 0, 0] (codeOf f65)) f h (thenK (Nx n0 μ I s) (contX pl65 prog J 55 n0 65 ct65 [1, 1, 1, 1, 0, 1, 0] (codeOf f65) [] (RetQ prog [.tmp 10, .tmp 11] n0 K))))
 {s : S} {f : RG} (hi : Gets n0 I s f h) : Sem J 55 n0 65 (subC [1, 1, 1, 1, 0, 1, 0] (codeOf f65)) f h (contX pl65 prog J 55 n0 65 ct65 [1, 1, 1, 1, 0, 1, 0] (codeOf f65) [] (RetQ prog [.tmp 10, .tmp 11] n0 K)) :=
 loop_rule hJ mixed (b := subC [1, 1, 1, 1, 0, 1, 0, 0] (codeOf f65)) (by kernel_rfl) μ I hI hi
end
end Go.Proofs.Ythnccaajpdnndaa
namespace Go.Proofs.Ythnccaajpdnndaa
open Go.Conc Go.Proofs.Try
set_option maxRecDepth 100000
def rdyF (q : Nat → Bool) : Nat → Nat → Int × Int
 | 0, _ => (0, 11)
 | m + 1, d => if q d = true then ((d : Int), 0) else rdyF q m (d + 1)
def rdyV (p : Pas) (s : SkyR) (n dy fr : Int) : Int × Int :=
 if fst2 (pasE p) (skyE s) ≠ 0 then (0, fst2 (pasE p) (skyE s)) else if ¬ ((0 ≤ n ∧ n ≤ 40) ∧ (1 ≤ dy ∧ dy ≤ s.days)) then (0, 1) else if ¬ (0 ≤ fr ∧ fr ≤ s.days - 1) then (0, 3) else
  rdyF (fun d => stayB p s n (d : Nat) dy) (s.days + 1 - (fr + dy)).toNat fr.toNat
section
variable {main : Bool} {J : JT} {h H : List AObj} {K : Value → List AObj → Prop} {KV : Value → Prop} {HL : List AObj → Prop} {n0 : Nat}
theorem good65 (hJ : Closed prog main J) {p : Pas} {s : SkyR} {n dy fr : Int} (hK : ∀ H', SameX [] H H' → K (.tuple ⟨[vint (rdyV p s n dy fr).1, vint (rdyV p s n dy fr).2]⟩) H') : Good prog J 65 [.agg ⟨p.cells⟩, .agg ⟨s.cells⟩, vint n, vint dy, vint fr] H K := by
 refine g65 hJ fun ok => ?_
 rw [e65]
 refine qBox (l := p.cells) rfl fun H1 p4 e1 S1 c4 l1 => qBox (l := s.cells) rfl fun H2 p5 e2 S2 c5 l2 => ?_
 have c42 := S2.get c4 (by simp)
 have T2 := S1.trans S2
 have b4 := lt_of_get c42
 have b5 := lt_of_get c5
 refine ⟨[p4, p5], load_part (c := p.cells) c42 (by simp [Pas.cells]) rfl rfl ⟨by simp [RdOk, ptrBlk], load_part (c := s.cells) c5 (by simp [SkyR.cells]) rfl rfl ⟨by simp [RdOk, ptrBlk], ?_⟩⟩⟩
 have sb : ∀ {H'}, SameX [] H2 H' → SameB (some [p4, p5]) H2 H' := fun S => sbTwo S b4 b5 (by simp) (by simp)
 refine good36 hJ ⟨sb SameX.refl, good72 hJ ⟨sb SameX.refl, by decide, fillP2 ⟨rfl, rfl⟩ ⟨rfl, rfl⟩ (qNew fun H3 p3 e3 S3 c3 l3 => ⟨sb S3, ?_⟩)⟩⟩
 refine good88 hJ (ownX_sli (ownX_new (s := 1) (n := 2) c3 rfl rfl)) ⟨sb S3, ?_⟩
 have T3 := T2.trans S3
 have c43 := S3.get c42 (by simp)
 have c53 := S3.get c5 (by simp)
 have fin : ∀ {d e : Int} {H' : List AObj}, rdyV p s n dy fr = (d, e) → SameX [] H H' → retL H.length K [] [vint d, vint e] H' := fun {d e H'} he S => by
  have := hK H' S
  rw [he] at this
  exact retL_same (nu2 (by simp [unk]) (by simp [unk])) this
 refine neqI (cndI (fun h1 => fin (by unfold rdyV; rw [if_pos h1]) T3) fun h1 => ?_)
 obtain ⟨f, g⟩ := fst2_zero (p := p) (s := s) (by omega)
 obtain ⟨g1, g2, g3⟩ := id g
 have tail : ∀ {F : RG} {z : Bool}, F.ds = [] → F.r 2 = vint n → F.r 3 = vint dy → F.r 4 = vint fr → F.r 5 = ptr p4 0 → F.r 6 = ptr p5 0 → F.r 32 = .bool z → (z = true ↔ ¬ ((0 ≤ n ∧ n ≤ 40) ∧ (1 ≤ dy ∧ dy ≤ s.days))) →
   W prog J 55 H.length 65 (subC [1, 1, 0, 1] (codeOf f65)) F H3 (contX pl65 prog J 55 H.length 65 ct65 [1, 1, 0, 1] (codeOf f65) [] (RetQ prog [.tmp 10, .tmp 11] H.length K)) := by
  intro F z ds r2 r3 r4 r5 r6 r32 hz
  rw [s65_1, r4, r6, r32, ds]
  refine cndB (fun hb => fin (by unfold rdyV; rw [if_neg h1, if_pos (hz.1 hb)]) T3) fun hb => ?_
  have h2 : ¬ ¬ ((0 ≤ n ∧ n ≤ 40) ∧ (1 ≤ dy ∧ dy ≤ s.days)) := fun h => by
   rw [hz.2 h] at hb
   cases hb
  refine offI (ldI (v := vint s.days) c53 rfl rfl (subI (by omega) (good73 hJ (notI (cndN (fun h3 => fin (by unfold rdyV; rw [if_neg h1, if_neg h2, if_pos h3]) T3) fun h3 => ?_)))))
  obtain ⟨q1, q2⟩ := Classical.not_not.1 h2
  obtain ⟨frn, rfl⟩ := Int.eq_ofNat_of_zero_le h3.1
  obtain ⟨dyn, rfl⟩ := Int.eq_ofNat_of_zero_le (by omega : 0 ≤ dy)
  have hv : rdyV p s n (dyn : Nat) (frn : Nat) = rdyF (fun d => stayB p s n (d : Nat) (dyn : Nat)) (s.days + 1 - ((frn : Int) + dyn)).toNat frn := by
   unfold rdyV
   rw [if_neg h1, if_neg h2, if_neg (not_not_intro h3), Int.toNat_natCast]
  refine l65_2 hJ (fun d : Nat => (s.days + 1 - ((d : Int) + dyn)).toNat) (fun d F H' => d ≤ 8 ∧ SameX [] H H' ∧ H'[p4]? = some (.cells p.cells true 0) ∧ H'[p5]? = some (.cells s.cells true 0) ∧ rdyV p s n (dyn : Nat) (frn : Nat) = rdyF (fun d => stayB p s n (d : Nat) (dyn : Nat)) (s.days + 1 - ((d : Int) + dyn)).toNat d ∧ F.ds = [] ∧ F.r 2 = vint n ∧ F.r 3 = vint (dyn : Nat) ∧ F.r 5 = ptr p4 0 ∧ F.r 6 = ptr p5 0 ∧ F.r 13 = vint (d : Nat)) ?_ (s := frn)
   (.inl ⟨by omega, T3, c43, c53, hv, ds, r2, r3, r5, r6, rfl⟩)
  rintro d F H' ⟨hd, S, d4, d5, hq, ds, r2, r3, r5, r6, r13⟩ okc hnc
  rw [s65_2, r2, r3, r5, r6, r13, ds]
  refine addI (by omega) (offI (ldI (v := vint s.days) d5 rfl rfl (leqI (cndI (fun hle => ?_) fun hgt => ?_))))
  ·refine load_part (c := p.cells) d4 (by simp [Pas.cells]) rfl rfl (load_part (c := s.cells) d5 (by simp [SkyR.cells]) rfl rfl ?_)
   obtain ⟨m, hm⟩ : ∃ m, (s.days + 1 - ((d : Int) + dyn)).toNat = m + 1 := ⟨(s.days - ((d : Int) + dyn)).toNat, by omega⟩
   rw [hm] at hq
   refine good89 hJ f g q1 (by omega) fun H4 S4 => cndB (fun hb => fin ?_ (S.trans S4)) fun hb => ?_
   ·rw [hq]
    unfold rdyF
    rw [if_pos hb]
   ·refine addI (by omega) ⟨d + 1, by dsimp only; omega, .inl ⟨by omega, S.trans S4, S4.get d4 (by simp), S4.get d5 (by simp), ?_, ds, r2, r3, r5, r6, by show vint _ = vint _; congr 1⟩⟩
    have e : (s.days + 1 - (((d + 1 : Nat) : Int) + dyn)).toNat = m := by omega
    rw [hq, e]
    conv => lhs; unfold rdyF
    rw [if_neg (by rw [hb]; decide)]
  ·refine fin ?_ S
   have e : (s.days + 1 - ((d : Int) + dyn)).toNat = 0 := by omega
   rw [hq, e]
   rfl
 refine good73 hJ (notI (cndN (fun h2 => hold.2 (tail (z := true) rfl rfl rfl rfl rfl rfl rfl ⟨fun _ h => h2 h.1, fun _ => rfl⟩)) fun h2 => ?_))
 refine offI (ldI (v := vint s.days) c53 rfl rfl (good73 hJ (notI (hold.2 (tail (z := !decide (1 ≤ dy ∧ dy ≤ s.days)) rfl rfl rfl rfl rfl rfl rfl ?_)))))
 simp only [Bool.not_eq_true', decide_eq_false_iff_not]
 exact ⟨fun h3 h4 => h3 h4.2, fun h3 h4 => h3 ⟨h2, h4⟩⟩
end
end Go.Proofs.Ythnccaajpdnndaa
namespace Go.Proofs.Ythnccaajpdnndaa
open Go.Conc Go.Proofs.Try
set_option maxRecDepth 100000
set_option maxHeartbeats 4000000
set_option linter.unusedVariables false
section
variable {main : Bool} {J : JT} {n0 : Nat} {h : List AObj} {K : Value → List AObj → Prop}
def pl7 : Plans := [(10, false, .take 0 (.take 1 (.take 2 (.take 3 (.take 4 (.take 5 (.take 6 (.last 7 true (.take 8 (.take 9 (.take 10 (.take 11 (.take 12 (.take 13 (.take 14 (.take 15 (.last 16 true (.take 17 (.fin))))))))))))))))))),
 (11, true, .take 0 (.take 1 (.take 2 (.take 3 (.take 4 (.take 5 (.take 6 (.take 7 (.take 8 (.take 9 (.take 10 (.take 11 (.take 12 (.take 13 (.take 14 (.fin))))))))))))))))]
def ct7 : Cuts := .bin (.go) (.bin (.go) (.bin (.go) (.bin (.go) (.bin (.go) (.bin (.go) (.bin (.bin (.go) (.un (.un (.bin (.go) (.bin (.un (.bin (.bin (.go) (.cut (.go))) (.bin (.bin (.go) (.cut (.go))) (.go)))) (.go)))))) (.go)))))))
theorem pok7 : plansOk prog pl7 (codeOf f7) = true := by kernel_rfl
theorem e7 {a0 : Value} : W prog J 74 h.length 7 (codeOf f7) (RG.mk (regs [a0]) []) h (RetQ prog [.tmp 2] h.length K) =
(Good prog J 22 [a0] h fun v1 h2 =>
 Good prog J 25 [v1, (vint 8)] h2 fun v3 h4 =>
 aAlloc [(vint 0), (vint 0), (vint 0)] h4 fun v5 h6 =>
 aStore 3 v5 v3 h6 fun h7 =>
 aLoad true 3 v5 h7 fun v8 =>
 Good prog J 34 [v8] h7 fun v9 h10 =>
 aExt v9 0 fun v11 =>
 aExt v9 1 fun v12 =>
 aBin prog .neq 37 v12 (vint 0) fun v13 =>
 cnd v13
(retL h.length K [] [(Value.bool false)] h10)
(aOff v5 0 fun v14 =>
 aLoad false 1 v14 h10 fun v15 =>
 Good prog J 39 [v15] h10 fun v16 h17 =>
 Sem J 74 h.length 7 (subC [1, 1, 1, 1, 1, 1, 0, 1, 0] (codeOf f7)) (RG.p (RG.p (RG.p (RG.p (RG.p (RG.p (RG.p (RG.p (RG.p (RG.p (RG.p (RG.p (RG.p (RG.p (RG.p (RG.p (RG.p (RG.p (RG.p (RG.p (RG.mk (regs [a0]) []) 2 (Value.bool false)) 9 a0) 10 v1) 11 v3) 3 v5) 13 v8) 14 v9) 12 v9) 15 v11) 16 v12) 4 v11) 5 v12) 17 v12) 18 v13) 19 v14) 20 v15) 21 v16) 6 v16) 7 (vint 0)) 8 (vint 0)) h17 (contX pl7 prog J 74 h.length 7 ct7 [1, 1, 1, 1, 1, 1, 0, 1, 0] (codeOf f7) [] (RetQ prog [.tmp 2] h.length K)))) := top_eq pok7 ct7 (by kernel_rfl)
end
end Go.Proofs.Ythnccaajpdnndaa
namespace Go.Proofs.Ythnccaajpdnndaa
open Go.Conc Go.Proofs.Try
set_option maxRecDepth 100000
theorem growB_pos {s : SkyR} : ∀ {n : Nat} {w : List UInt8} {x : Spl}, 0 < (growB s n w x).length
 | 0, w, x => Nat.zero_lt_one
 | n + 1, w, x => by
  unfold growB
  rw [List.length_append]
  have h1 := growB_pos (s := s) (n := n) (w := w ++ [100]) (x := nextX x 100)
  have h2 := growB_pos (s := s) (n := n) (w := w ++ [119]) (x := nextX x 119)
  by_cases e : nextOk s x 100 = true
  ·rw [if_pos e]
   omega
  ·have : nextOk s x 119 = true := by
    unfold nextOk at *
    by_cases h : x.1 ≠ 100
    ·rw [if_pos h] at e
     exact absurd rfl e
    ·have h := Classical.not_not.1 h
     rw [if_pos (by rw [h]; decide)]
   rw [if_pos this]
   omega
def SpanOf {α : Type} (g : α → Int) (l : List α) (x : Span) : Prop := (l = [] ∧ x.2.2 = false) ∨ (l ≠ [] ∧ x.2.2 = true ∧ (∀ w ∈ l, x.1 ≤ g w ∧ g w ≤ x.2.1) ∧ (∃ w ∈ l, g w = x.1) ∧ ∃ w ∈ l, g w = x.2.1)
theorem SpanOf.more {α : Type} {g : α → Int} {l : List α} {x : Span} (h : SpanOf g l x) (w : α) : SpanOf g (l ++ [w]) (widenR x (g w)) := by
 right
 refine ⟨by simp, ?_⟩
 rcases h with ⟨rfl, h⟩ | ⟨hne, ht, ha, ⟨u, hu, eu⟩, ⟨v, hv, ev⟩⟩
 ·unfold widenR
  rw [if_neg (by rw [h]; decide)]
  exact ⟨rfl, fun u hu => by
   have : u = w := by simpa using hu
   rw [this]
   exact ⟨Int.le_refl _, Int.le_refl _⟩, ⟨w, by simp, rfl⟩, ⟨w, by simp, rfl⟩⟩
 ·unfold widenR
  rw [if_pos ht]
  refine ⟨rfl, fun z hz => ?_, ?_, ?_⟩
  ·rcases List.mem_append.1 hz with hz | hz
   ·have := ha z hz
    exact ⟨by dsimp only; omega, by dsimp only; omega⟩
   ·rw [List.mem_singleton.1 hz]
    exact ⟨by dsimp only; omega, by dsimp only; omega⟩
  ·by_cases c : x.1 ≤ g w
   ·exact ⟨u, List.mem_append_left _ hu, by dsimp only; omega⟩
   ·exact ⟨w, by simp, by dsimp only; omega⟩
  ·by_cases c : g w ≤ x.2.1
   ·exact ⟨v, List.mem_append_left _ hv, by dsimp only; omega⟩
   ·exact ⟨w, by simp, by dsimp only; omega⟩
theorem dayS_get {p : Pas} {hs : List Int} {w : List UInt8} {L : List Span} {k : Nat} (hk : k < L.length) : ∀ j, (dayS p hs w j L).getD k (0, 0, false) = if k < j then widenR (L.getD k (0, 0, false)) (stdR p hs w (k + 1)).1 else L.getD k (0, 0, false)
 | 0 => by
  rw [if_neg (Nat.not_lt_zero _)]
  rfl
 | j + 1 => by
  have ih := dayS_get (p := p) (hs := hs) (w := w) hk j
  rw [dayS, List.getD_eq_getElem?_getD, List.getElem?_set]
  by_cases e : j = k
  ·subst e
   rw [if_pos rfl, if_pos (by rw [dayS_len]; exact hk), if_pos (by omega), Option.getD_some, ih, if_neg (by omega)]
  ·rw [if_neg e, ← List.getD_eq_getElem?_getD, ih]
   by_cases c : k < j
   ·rw [if_pos c, if_pos (by omega)]
   ·rw [if_neg c, if_neg (by omega)]
theorem spans_fold {p : Pas} {hs : List Int} {n : Nat} : ∀ {l l0 : List (List UInt8)} {L : List Span}, (∀ w ∈ l, w.length = n) → L.length = n → (∀ k, k < n → SpanOf (fun w => (stdR p hs w (k + 1)).1) l0 (L.getD k (0, 0, false))) →
  ∀ k, k < n → SpanOf (fun w => (stdR p hs w (k + 1)).1) (l0 ++ l) ((l.foldl (fun L w => dayS p hs w w.length L) L).getD k (0, 0, false))
 | [], l0, L, _, _, h, k, hk => by
  rw [List.append_nil]
  exact h k hk
 | w :: l, l0, L, hl, hL, h, k, hk => by
  have hw := hl w (List.mem_cons_self ..)
  have e : l0 ++ w :: l = (l0 ++ [w]) ++ l := by simp
  rw [e]
  refine spans_fold (l := l) (l0 := l0 ++ [w]) (L := dayS p hs w w.length L) (fun u hu => hl u (List.mem_cons_of_mem _ hu)) (by rw [dayS_len, hL]) (fun j hj => ?_) k hk
  rw [dayS_get (by omega), if_pos (by omega)]
  exact (h j hj).more w
theorem spans_len {p : Pas} {hs : List Int} {s : SkyR} : (spansR p hs s).length = s.days.toNat := by
 unfold spansR
 rw [spansK_len, List.length_replicate]
def agnQ (p : Pas) (hs : List Int) (s : SkyR) (fr want : Int) (k : Nat) : Bool := decide ((k : Int) ≥ fr) && decide (((spansR p hs s).getD k (0, 0, false)).1 ≥ want)
def agnV (p : Pas) (hs : List Int) (s : SkyR) (fr want : Int) : Int × Int :=
 if ckdE p hs s ≠ 0 then (0, ckdE p hs s) else if ¬ (0 ≤ fr ∧ fr ≤ s.days - 1) then (0, 3) else if ¬ (0 ≤ want ∧ want ≤ 99) then (0, 1) else rdyF (agnQ p hs s fr want) s.days.toNat 0
section
variable {main : Bool} {J : JT} {h H : List AObj} {K : Value → List AObj → Prop}
theorem good63 (hJ : Closed prog main J) {p : Pas} {s : SkyR} {hs : List Int} {hv : Value} {fr want : Int} (sh : Sli H hv 1 hs.length (hs.map vint)) (hl : hs.length < 1000000) (hK : ∀ H', SameX [] H H' → K (.tuple ⟨[vint (agnV p hs s fr want).1, vint (agnV p hs s fr want).2]⟩) H') : Good prog J 63 [.agg ⟨p.cells⟩, hv, .agg ⟨s.cells⟩, vint fr, vint want] H K := by
 refine g63 hJ fun ok => ?_
 rw [e63]
 refine qBox (l := p.cells) rfl fun H1 p3 e1 S1 c3 l1 => qBox (l := s.cells) rfl fun H2 p5 e2 S2 c5 l2 => ?_
 have c32 := S2.get c3 (by simp)
 have T2 := S1.trans S2
 have fin : ∀ {d e : Int} {H' : List AObj}, agnV p hs s fr want = (d, e) → SameX [] H H' → retL H.length K [] [vint d, vint e] H' := fun {d e H'} he S => by
  have := hK H' S
  rw [he] at this
  exact retL_same (nu2 (by simp [unk]) (by simp [unk])) this
 refine load_part (c := p.cells) c32 (by simp [Pas.cells]) rfl rfl (load_part (c := s.cells) c5 (by simp [SkyR.cells]) rfl rfl ?_)
 refine good92 hJ (T2.sli sh (by simp)) hl fun H3 S3 => neqI (cndI (fun h1 => fin (by unfold agnV; rw [if_pos h1]) (T2.trans S3)) fun h1 => ?_)
 have h0 : ckdE p hs s = 0 := by omega
 obtain ⟨f, g, hh, hlen⟩ := ckdE_zero h0
 obtain ⟨g1, g2, g3⟩ := id g
 have T3 := T2.trans S3
 refine offI (ldI (v := vint s.days) (S3.get c5 (by simp)) rfl rfl (subI (by omega) (good73 hJ (notI (cndN (fun h2 => fin (by unfold agnV; rw [if_neg h1, if_pos h2]) T3) fun h2 => ?_)))))
 refine good73 hJ (notI (cndN (fun h3 => fin (by unfold agnV; rw [if_neg h1, if_neg (not_not_intro h2), if_pos h3]) T3) fun h3 => ?_))
 refine load_part (c := p.cells) (S3.get c32 (by simp)) (by simp [Pas.cells]) rfl rfl (load_part (c := s.cells) (S3.get c5 (by simp)) (by simp [SkyR.cells]) rfl rfl ?_)
 refine good93 hJ f g hh hlen (T3.sli sh (by simp)) fun H4 sv S4 hsv => lenI hsv ?_
 have T4 := T3.trans S4
 have hsl := spans_len (p := p) (hs := hs) (s := s)
 have hsE : SliE H4 sv 3 spanC (spansR p hs s) := by
  show Sli H4 sv 3 (spansR p hs s).length _
  rw [hsl]
  exact hsv
 have hv0 : agnV p hs s fr want = rdyF (agnQ p hs s fr want) (s.days.toNat - 0) 0 := by
  unfold agnV
  rw [if_neg h1, if_neg (not_not_intro h2), if_neg (not_not_intro h3)]
  rfl
 refine l63_1 hJ (fun k : Nat => s.days.toNat - k) (fun k F H' => k ≤ s.days.toNat ∧ SameX [] H4 H' ∧ agnV p hs s fr want = rdyF (agnQ p hs s fr want) (s.days.toNat - k) k ∧ F.ds = [] ∧ F.r 3 = vint fr ∧ F.r 4 = vint want ∧ F.r 34 = sv ∧ F.r 35 = vint (s.days.toNat : Nat) ∧ F.r 36 = vint (k : Nat)) ?_ (s := 0)
  (.inl ⟨by omega, SameX.refl, hv0, rfl, rfl, rfl, rfl, rfl, rfl⟩)
 rintro k F H' ⟨hk, S, hq, ds, r3, r4, r34, r35, r36⟩ okc hnc
 rw [s63_1, r3, r4, r34, r35, r36, ds]
 refine lssI (cndI (fun hlt => ?_) fun hge => ?_)
 rotate_left
 ·have e : s.days.toNat - k = 0 := by omega
  rw [e] at hq
  exact fin hq (T4.trans S)
 have hkl : k < (spansR p hs s).length := by omega
 obtain ⟨b, oo, cs, wr, sz, hidx, hb, hos, htk, hkn⟩ := sliE_elem (s := 3) (fun _ => rfl) (by decide) (S.sli hsE (by simp)) hkl
 obtain ⟨m, hm⟩ : ∃ m, s.days.toNat - k = m + 1 := ⟨s.days.toNat - k - 1, by omega⟩
 have hm' : s.days.toNat - (k + 1) = m := by omega
 rw [hm] at hq
 have hqk : agnQ p hs s fr want k = (decide ((k : Int) ≥ fr) && decide ((spansR p hs s)[k].1 ≥ want)) := by
  unfold agnQ
  rw [List.getD_eq_getElem?_getD, List.getElem?_eq_getElem hkl]
  rfl
 generalize (spansR p hs s)[k] = x at htk hqk
 refine hidx _ (load_part (c := spanC x) hb hos htk rfl (qAl fun H5 p5' e5 S5 c5' l5 => qStA (c := spanC x) c5' rfl rfl rfl fun H6 S6 c6 l6 => ?_))
 have TH : SameX [] H' H6 := S5.thru S6 (by simp; omega)
 have tail : ∀ {F2 : RG} {z : Bool}, z = agnQ p hs s fr want k → F2.ds = [] → F2.r 3 = vint fr → F2.r 4 = vint want → F2.r 34 = sv → F2.r 35 = vint (s.days.toNat : Nat) → F2.r 36 = vint (k : Nat) → F2.r 13 = vint (k : Nat) → F2.r 49 = .bool z →
   W prog J 52 H.length 63 (subC [1, 1, 1, 1, 0, 1, 0, 0, 1, 1, 0, 0, 1, 1] (codeOf f63)) F2 H6 (contX pl63 prog J 52 H.length 63 ct63 [1, 1, 1, 1, 0, 1, 0, 0, 1, 1, 0, 0, 1, 1] (codeOf f63) [Nx H.length (fun k : Nat => s.days.toNat - k) (fun k F H' => k ≤ s.days.toNat ∧ SameX [] H4 H' ∧ agnV p hs s fr want = rdyF (agnQ p hs s fr want) (s.days.toNat - k) k ∧ F.ds = [] ∧ F.r 3 = vint fr ∧ F.r 4 = vint want ∧ F.r 34 = sv ∧ F.r 35 = vint (s.days.toNat : Nat) ∧ F.r 36 = vint (k : Nat)) k] (RetQ prog [.tmp 10, .tmp 11] H.length K)) := by
  intro F2 z hz ds2 q3 q4 q34 q35 q36 q13 q49
  rw [s63_2, q36, q13, q49, ds2]
  refine cndB (fun h => fin ?_ ((T4.trans S).trans TH)) fun h => ?_
  ·rw [hq]
   unfold rdyF
   rw [if_pos (by rw [← hz, h])]
  ·refine addI (by omega) ⟨k + 1, by dsimp only; omega, .inl ⟨by omega, S.trans TH, ?_, ds2, q3, q4, q34, q35, by show vint _ = vint _; congr 1⟩⟩
   rw [hq, hm']
   conv => lhs; unfold rdyF
   rw [if_neg (by rw [← hz, h]; decide)]
 refine geqI (cndI (fun h1 => ?_) fun h1 => hold.2 (tail (z := false) (by rw [hqk, decide_eq_false h1, Bool.false_and]) ds r3 r4 r34 r35 r36 rfl rfl))
 exact offI (ldI (v := vint x.1) c6 rfl rfl (geqI (hold.2 (tail (z := decide (x.1 ≥ want)) (by rw [hqk, decide_eq_true h1, Bool.true_and]) ds r3 r4 r34 r35 r36 rfl rfl))))
end
end Go.Proofs.Ythnccaajpdnndaa
namespace Go.Proofs.Ythnccaajpdnndaa
open Go.Conc Go.Proofs.Try
set_option maxRecDepth 100000
set_option maxHeartbeats 4000000
set_option linter.unusedVariables false
section
variable {main : Bool} {J : JT} {n0 : Nat} {h : List AObj} {K : Value → List AObj → Prop}
theorem at132 : prog.funcs[132]? = some f132 := by kernel_rfl
theorem body132 : f132.body = some (codeOf f132) := by kernel_rfl
def pl132 : Plans := []
def ct132 : Cuts := .go
theorem pok132 : plansOk prog pl132 (codeOf f132) = true := by kernel_rfl
theorem e132 {a0 a1 : Value} : W prog J 26 h.length 132 (codeOf f132) (RG.mk (regs [a0, a1]) []) h (RetQ prog [.tmp 4] h.length K) =
(aLenS a0 fun v1 =>
 aBin prog .lss 3 v1 a1 fun v2 =>
 cnd v2
(retL h.length K [] [(vint 7)] h)
(aLenS a0 fun v3 =>
 aBin prog .gtr 3 v3 a1 fun v4 =>
 cnd v4
(retL h.length K [] [(vint 6)] h)
(Sem J 26 h.length 132 (subC [1, 1, 1, 0, 1, 0] (codeOf f132)) (RG.p (RG.p (RG.p (RG.p (RG.p (RG.p (RG.p (RG.p (RG.p (RG.p (RG.mk (regs [a0, a1]) []) 4 (vint 0)) 6 a0) 7 v1) 8 a1) 9 v2) 10 a0) 11 v3) 12 a1) 13 v4) 5 (vint 0)) h (contX pl132 prog J 26 h.length 132 ct132 [1, 1, 1, 0, 1, 0] (codeOf f132) [] (RetQ prog [.tmp 4] h.length K))))) := top_eq pok132 ct132 (by kernel_rfl)
theorem g132 (hJ : Closed prog main J) {a0 a1 : Value} (hs : heapOk h → W prog J 26 h.length 132 (codeOf f132) (RG.mk (regs [a0, a1]) []) h (RetQ prog [.tmp 4] h.length K)) : Good prog J 132 [a0, a1] h K :=
 good_of_W hJ mixed at132 body132 (by kernel_rfl) (Nat.le_of_ble_eq_true rfl) hs
theorem s132_1 {f : RG} {nx0 : RG → List AObj → Prop} : W prog J 26 n0 132 (subC [1, 1, 1, 0, 1, 0, 0] (codeOf f132)) f h (thenK nx0 (contX pl132 prog J 26 n0 132 ct132 [1, 1, 1, 0, 1, 0] (codeOf f132) [] (RetQ prog [.tmp 4] n0 K))) =
(aLenS (f.r 0) fun v1 =>
 aBin prog .lss 3 (f.r 5) v1 fun v2 =>
 cnd v2
(aIdx 1 (f.r 0) (f.r 5) fun v3 =>
 aLoad false 1 v3 h fun v4 =>
 Good prog J 82 [v4, (vint 0), (vint 40)] h fun v5 h6 =>
 aUn .not v5 fun v7 =>
 cnd v7
(retL n0 K f.ds [(vint 1)] h6)
(aBin prog .add 3 (f.r 5) (vint 1) fun v8 =>
 nx0 (RG.p (RG.p (RG.p (RG.p (RG.p (RG.p (RG.p (RG.p (RG.p (RG.p (RG.p (RG.p (RG.p f 14 (f.r 5)) 15 (f.r 0)) 16 v1) 17 v2) 20 (f.r 0)) 21 (f.r 5)) 22 v3) 23 v4) 24 v5) 25 v7) 18 (f.r 5)) 19 v8) 5 v8) h6))
(retL n0 K f.ds [(vint 0)] h)) := sub_eq pok132 ct132 (by kernel_rfl)
theorem l132_1 (hJ : Closed prog main J) {S : Type} (μ : S → Nat) (I : S → RG → List AObj → Prop) (hI : ∀ s f h, I s f h → heapOk h → n0 ≤ h.length → W prog J 26 n0 132 (subC [1, 1, 1, 0, 1, 0, 0] (codeOf f132)) f h (thenK (Nx n0 μ I s) (contX pl132 prog J 26 n0 132 ct132 [1, 1, 1, 0, 1, 0] (codeOf f132) [] (RetQ prog [.tmp 4] n0 K))))
 {s : S} {f : RG} (hi : Gets n0 I s f h) : Sem J 26 n0 132 (subC [1, 1, 1, 0, 1, 0] (codeOf f132)) f h (contX pl132 prog J 26 n0 132 ct132 [1, 1, 1, 0, 1, 0] (codeOf f132) [] (RetQ prog [.tmp 4] n0 K)) :=
 loop_rule hJ mixed (b := subC [1, 1, 1, 0, 1, 0, 0] (codeOf f132)) (by kernel_rfl) μ I hI hi
theorem at96 : prog.funcs[96]? = some f96 := by kernel_rfl
theorem body96 : f96.body = some (codeOf f96) := by kernel_rfl
def pl96 : Plans := []
def ct96 : Cuts := .go
theorem pok96 : plansOk prog pl96 (codeOf f96) = true := by kernel_rfl
theorem e96 {a0 a1 a2 : Value} : W prog J 23 h.length 96 (codeOf f96) (RG.mk (regs [a0, a1, a2]) []) h (RetQ prog [.tmp 6] h.length K) =
(aBox a0 h fun v1 h2 =>
 aBox a2 h2 fun v3 h4 =>
 aLoad true 6 v1 h4 fun v5 =>
 Good prog J 37 [v5] h4 fun v6 h7 =>
 aBin prog .neq 37 v6 (vint 0) fun v8 =>
 cnd v8
(retL h.length K [] [v6] h7)
(aLoad true 3 v3 h7 fun v9 =>
 Good prog J 81 [v9] h7 fun v10 h11 =>
 aBin prog .neq 37 v10 (vint 0) fun v12 =>
 cnd v12
(retL h.length K [] [v10] h11)
(aOff v3 0 fun v13 =>
 aLoad false 1 v13 h11 fun v14 =>
 Good prog J 132 [a1, v14] h11 fun v15 h16 =>
 retL h.length K [] [v15] h16))) := top_eq pok96 ct96 (by kernel_rfl)
theorem g96 (hJ : Closed prog main J) {a0 a1 a2 : Value} (hs : heapOk h → W prog J 23 h.length 96 (codeOf f96) (RG.mk (regs [a0, a1, a2]) []) h (RetQ prog [.tmp 6] h.length K)) : Good prog J 96 [a0, a1, a2] h K :=
 good_of_W hJ mixed at96 body96 (by kernel_rfl) (Nat.le_of_ble_eq_true rfl) hs
theorem at48 : prog.funcs[48]? = some f48 := by kernel_rfl
theorem body48 : f48.body = some (codeOf f48) := by kernel_rfl
def pl48 : Plans := [(9, true, .take 0 (.take 1 (.take 2 (.take 3 (.take 4 (.take 5 (.last 6 false (.take 7 (.take 8 (.take 9 (.take 10 (.take 11 (.take 12 (.take 13 (.fin))))))))))))))),
 (14, false, .take 0 (.take 1 (.take 2 (.take 3 (.take 4 (.take 5 (.take 6 (.take 7 (.take 8 (.take 9 (.last 10 true (.last 11 true (.take 12 (.fin)))))))))))))),
 (15, true, .take 0 (.take 1 (.take 2 (.take 3 (.take 4 (.take 5 (.take 6 (.take 7 (.take 8 (.take 9 (.take 10 (.take 11 (.take 12 (.take 13 (.take 14 (.take 15 (.take 16 (.take 17 (.take 18 (.take 19 (.take 20 (.take 21 (.take 22 (.take 23 (.last 24 false (.fin))))))))))))))))))))))))))]
def ct48 : Cuts := .bin (.go) (.bin (.go) (.bin (.go) (.bin (.go) (.bin (.bin (.go) (.un (.un (.bin (.go) (.bin (.un (.bin (.go) (.bin (.go) (.un (.un (.bin (.go) (.bin (.un (.bin (.go) (.cut (.go)))) (.go)))))))) (.go)))))) (.go)))))
theorem pok48 : plansOk prog pl48 (codeOf f48) = true := by kernel_rfl
theorem e48 {a0 a1 a2 : Value} : W prog J 87 h.length 48 (codeOf f48) (RG.mk (regs [a0, a1, a2]) []) h (RetQ prog [.tmp 6, .tmp 7] h.length K) =
(aBox a0 h fun v1 h2 =>
 aBox a2 h2 fun v3 h4 =>
 aLoad true 6 v1 h4 fun v5 =>
 aLoad true 3 v3 h4 fun v6 =>
 Good prog J 96 [v5, a1, v6] h4 fun v7 h8 =>
 aBin prog .neq 37 v7 (vint 0) fun v9 =>
 cnd v9
(retL h.length K [] [(Value.slice none 0 0), v7] h8)
(aLoad true 3 v3 h8 fun v10 =>
 Good prog J 91 [v10] h8 fun v11 h12 =>
 Sem J 87 h.length 48 (subC [1, 1, 1, 1, 0, 1, 0] (codeOf f48)) (RG.p (RG.p (RG.p (RG.p (RG.p (RG.p (RG.p (RG.p (RG.p (RG.p (RG.p (RG.p (RG.p (RG.p (RG.p (RG.p (RG.mk (regs [a0, a1, a2]) []) 3 v1) 5 v3) 6 (Value.slice none 0 0)) 7 (vint 0)) 16 v5) 17 a1) 18 v6) 19 v7) 8 v7) 20 v7) 21 v9) 9 (Value.slice none 0 0)) 23 v10) 24 v11) 10 v11) 11 (vint 0)) h12 (contX pl48 prog J 87 h.length 48 ct48 [1, 1, 1, 1, 0, 1, 0] (codeOf f48) [] (RetQ prog [.tmp 6, .tmp 7] h.length K)))) := top_eq pok48 ct48 (by kernel_rfl)
theorem g48 (hJ : Closed prog main J) {a0 a1 a2 : Value} (hs : heapOk h → W prog J 87 h.length 48 (codeOf f48) (RG.mk (regs [a0, a1, a2]) []) h (RetQ prog [.tmp 6, .tmp 7] h.length K)) : Good prog J 48 [a0, a1, a2] h K :=
 good_of_W hJ mixed at48 body48 (by kernel_rfl) (Nat.le_of_ble_eq_true rfl) hs
theorem s48_1 {f : RG} {nx0 : RG → List AObj → Prop} : W prog J 87 n0 48 (subC [1, 1, 1, 1, 0, 1, 0, 0] (codeOf f48)) f h (thenK nx0 (contX pl48 prog J 87 n0 48 ct48 [1, 1, 1, 1, 0, 1, 0] (codeOf f48) [] (RetQ prog [.tmp 6, .tmp 7] n0 K))) =
(aLenS (f.r 10) fun v1 =>
 aBin prog .lss 3 (f.r 11) v1 fun v2 =>
 cnd v2
(aLoad true 6 (f.r 3) h fun v3 =>
 aIdx 1 (f.r 10) (f.r 11) fun v4 =>
 aLoad false 1 v4 h fun v5 =>
 Good prog J 97 [v3, (f.r 1), v5] h fun v6 h7 =>
 aExt v6 0 fun v8 =>
 aExt v6 1 fun v9 =>
 aExt v6 2 fun v10 =>
 Sem J 87 n0 48 (subC [1, 1, 1, 1, 0, 1, 0, 0, 1, 0, 0, 1, 1, 0] (codeOf f48)) (RG.p (RG.p (RG.p (RG.p (RG.p (RG.p (RG.p (RG.p (RG.p (RG.p (RG.p (RG.p (RG.p (RG.p (RG.p (RG.p (RG.p (RG.p (RG.p f 25 (f.r 11)) 26 (f.r 10)) 27 v1) 28 v2) 32 v3) 33 (f.r 1)) 34 (f.r 10)) 35 (f.r 11)) 36 v4) 37 v5) 38 v6) 31 v6) 39 v8) 40 v9) 41 v10) 12 v8) 13 v9) 14 v10) 15 (vint 0)) h7 (contX pl48 prog J 87 n0 48 ct48 [1, 1, 1, 1, 0, 1, 0, 0, 1, 0, 0, 1, 1, 0] (codeOf f48) [nx0] (RetQ prog [.tmp 6, .tmp 7] n0 K)))
(retL n0 K f.ds [(f.r 9), (vint 0)] h)) := sub_eq pok48 ct48 (by kernel_rfl)
theorem l48_1 (hJ : Closed prog main J) {S : Type} (μ : S → Nat) (I : S → RG → List AObj → Prop) (hI : ∀ s f h, I s f h → heapOk h → n0 ≤ h.length → W prog J 87 n0 48 (subC [1, 1, 1, 1, 0, 1, 0, 0] (codeOf f48)) f h (thenK (Nx n0 μ I s) (contX pl48 prog J 87 n0 48 ct48 [1, 1, 1, 1, 0, 1, 0] (codeOf f48) [] (RetQ prog [.tmp 6, .tmp 7] n0 K))))
 {s : S} {f : RG} (hi : Gets n0 I s f h) : Sem J 87 n0 48 (subC [1, 1, 1, 1, 0, 1, 0] (codeOf f48)) f h (contX pl48 prog J 87 n0 48 ct48 [1, 1, 1, 1, 0, 1, 0] (codeOf f48) [] (RetQ prog [.tmp 6, .tmp 7] n0 K)) :=
 loop_rule hJ mixed (b := subC [1, 1, 1, 1, 0, 1, 0, 0] (codeOf f48)) (by kernel_rfl) μ I hI hi
theorem s48_2 {f : RG} {nx0 nx1 : RG → List AObj → Prop} : W prog J 87 n0 48 (subC [1, 1, 1, 1, 0, 1, 0, 0, 1, 0, 0, 1, 1, 0, 0] (codeOf f48)) f h (thenK nx1 (contX pl48 prog J 87 n0 48 ct48 [1, 1, 1, 1, 0, 1, 0, 0, 1, 0, 0, 1, 1, 0] (codeOf f48) [nx0] (RetQ prog [.tmp 6, .tmp 7] n0 K))) =
(aLenS (f.r 12) fun v1 =>
 aBin prog .lss 3 (f.r 15) v1 fun v2 =>
 cnd v2
(aBin prog .eql 3 (f.r 11) (vint 0) fun v3 =>
 cnd v3
((∃ B, aIdx 1 (f.r 12) (f.r 15) fun v4 =>
 aLoad false 1 v4 h fun v5 =>
 RdOk (some B) (ptrBlk v4) ∧ (aIdx 1 (f.r 12) (f.r 15) fun v6 =>
 aLoad false 1 v6 h fun v7 =>
 RdOk (some B) (ptrBlk v6) ∧ (aFill [(vint 0), (vint 0)] [(0, 1, v5), (1, 1, v7)] fun c8 =>
(((1 * 2 : Nat) ≤ 16777216 ∧ (1 : Nat) ≤ 16777216 ∧ List.length [(vint 0), (vint 0)] = 2) ∧ aFill (zrep [(vint 0), (vint 0)] 1) [(0, 2, (Value.agg ⟨c8⟩))] fun c9 =>
 aNewS 1 c9 h fun v10 h11 =>
 SameB (some B) h h11 ∧ (((List.length [(vint 0), (vint 0)] = 2 ∧ 0 < (2 : Nat) ∧ 0 < (16 : Nat) ∧ (16 : Nat) ≤ 1024) ∧ aApp 2 (f.r 9) v10 h11 fun v12 h13 =>
 SameB (some B) h h13 ∧ (Hold (W prog J 87 n0 48 (subC [1, 1, 1, 1, 0, 1, 0, 0, 1, 0, 0, 1, 1, 0, 0, 1, 0, 0, 1] (codeOf f48)) (RG.p (RG.p (RG.p (RG.p (RG.p (RG.p (RG.p (RG.p (RG.p (RG.p (RG.p (RG.p (RG.p (RG.p (RG.p (RG.p (RG.p (RG.p (RG.p f 42 (f.r 15)) 43 (f.r 12)) 44 v1) 45 v2) 48 (f.r 11)) 49 v3) 50 (f.r 9)) 51 (f.r 12)) 52 (f.r 15)) 53 v4) 54 v5) 55 (f.r 12)) 56 (f.r 15)) 57 v6) 58 v7) 59 (Value.agg ⟨c8⟩)) 60 v10) 61 v12) 9 v12) h13 (contX pl48 prog J 87 n0 48 ct48 [1, 1, 1, 1, 0, 1, 0, 0, 1, 0, 0, 1, 1, 0, 0, 1, 0, 0, 1] (codeOf f48) [nx0, nx1] (RetQ prog [.tmp 6, .tmp 7] n0 K)))))))))))
(Hold (W prog J 87 n0 48 (subC [1, 1, 1, 1, 0, 1, 0, 0, 1, 0, 0, 1, 1, 0, 0, 1, 0, 0, 1] (codeOf f48)) (RG.p (RG.p (RG.p (RG.p (RG.p (RG.p f 42 (f.r 15)) 43 (f.r 12)) 44 v1) 45 v2) 48 (f.r 11)) 49 v3) h (contX pl48 prog J 87 n0 48 ct48 [1, 1, 1, 1, 0, 1, 0, 0, 1, 0, 0, 1, 1, 0, 0, 1, 0, 0, 1] (codeOf f48) [nx0, nx1] (RetQ prog [.tmp 6, .tmp 7] n0 K)))))
(aBin prog .add 3 (f.r 11) (vint 1) fun v14 =>
 nx0 (RG.p (RG.p (RG.p (RG.p (RG.p (RG.p (RG.p f 42 (f.r 15)) 43 (f.r 12)) 44 v1) 45 v2) 29 (f.r 11)) 30 v14) 11 v14) h)) := sub_eq pok48 ct48 (by kernel_rfl)
theorem l48_2 (hJ : Closed prog main J) {nx0 : RG → List AObj → Prop} {S : Type} (μ : S → Nat) (I : S → RG → List AObj → Prop) (hI : ∀ s f h, I s f h → heapOk h → n0 ≤ h.length → W prog J 87 n0 48 (subC [1, 1, 1, 1, 0, 1, 0, 0, 1, 0, 0, 1, 1, 0, 0] (codeOf f48)) f h (thenK (Nx n0 μ I s) (contX pl48 prog J 87 n0 48 ct48 [1, 1, 1, 1, 0, 1, 0, 0, 1, 0, 0, 1, 1, 0] (codeOf f48) [nx0] (RetQ prog [.tmp 6, .tmp 7] n0 K))))
 {s : S} {f : RG} (hi : Gets n0 I s f h) : Sem J 87 n0 48 (subC [1, 1, 1, 1, 0, 1, 0, 0, 1, 0, 0, 1, 1, 0] (codeOf f48)) f h (contX pl48 prog J 87 n0 48 ct48 [1, 1, 1, 1, 0, 1, 0, 0, 1, 0, 0, 1, 1, 0] (codeOf f48) [nx0] (RetQ prog [.tmp 6, .tmp 7] n0 K)) :=
 loop_rule hJ mixed (b := subC [1, 1, 1, 1, 0, 1, 0, 0, 1, 0, 0, 1, 1, 0, 0] (codeOf f48)) (by kernel_rfl) μ I hI hi
theorem s48_3 {f : RG} {nx0 nx1 : RG → List AObj → Prop} : W prog J 87 n0 48 (subC [1, 1, 1, 1, 0, 1, 0, 0, 1, 0, 0, 1, 1, 0, 0, 1, 0, 0, 1] (codeOf f48)) f h (contX pl48 prog J 87 n0 48 ct48 [1, 1, 1, 1, 0, 1, 0, 0, 1, 0, 0, 1, 1, 0, 0, 1, 0, 0, 1] (codeOf f48) [nx0, nx1] (RetQ prog [.tmp 6, .tmp 7] n0 K)) =
(aIdx 2 (f.r 9) (f.r 15) fun v1 =>
 aOff v1 0 fun v2 =>
 aLoad false 1 v2 h fun v3 =>
 aIdx 1 (f.r 12) (f.r 15) fun v4 =>
 aLoad false 1 v4 h fun v5 =>
 aMin v3 [v5] fun v6 =>
 aIdx 2 (f.r 9) (f.r 15) fun v7 =>
 aOff v7 1 fun v8 =>
 aLoad false 1 v8 h fun v9 =>
 aIdx 1 (f.r 12) (f.r 15) fun v10 =>
 aLoad false 1 v10 h fun v11 =>
 aMax v9 [v11] fun v12 =>
 aFill [(vint 0), (vint 0)] [(0, 1, v6), (1, 1, v12)] fun c13 =>
 aIdx 2 (f.r 9) (f.r 15) fun v14 =>
 aStore 2 v14 (Value.agg ⟨c13⟩) h fun h15 =>
 aBin prog .add 3 (f.r 15) (vint 1) fun v16 =>
 nx1 (RG.p (RG.p (RG.p (RG.p (RG.p (RG.p (RG.p (RG.p (RG.p (RG.p (RG.p (RG.p (RG.p (RG.p (RG.p (RG.p (RG.p (RG.p (RG.p (RG.p (RG.p (RG.p (RG.p (RG.p (RG.p (RG.p (RG.p f 62 (f.r 9)) 63 (f.r 15)) 64 (f.r 9)) 65 (f.r 15)) 66 v1) 67 v2) 68 v3) 69 (f.r 12)) 70 (f.r 15)) 71 v4) 72 v5) 73 v6) 74 (f.r 9)) 75 (f.r 15)) 76 v7) 77 v8) 78 v9) 79 (f.r 12)) 80 (f.r 15)) 81 v10) 82 v11) 83 v12) 84 (Value.agg ⟨c13⟩)) 85 v14) 46 (f.r 15)) 47 v16) 15 v16) h15) := sub_eq pok48 ct48 (by kernel_rfl)
end
section
variable {main : Bool} {J : JT} {n0 : Nat} {h : List AObj} {K : Value → List AObj → Prop}
def pl20 : Plans := [(9, true, .take 0 (.take 1 (.take 2 (.take 3 (.take 4 (.fin)))))),
 (13, true, .take 0 (.take 1 (.take 2 (.take 3 (.take 4 (.take 5 (.last 6 false (.take 7 (.take 8 (.take 9 (.take 10 (.take 11 (.fin))))))))))))),
 (19, true, .take 0 (.take 1 (.take 2 (.take 3 (.take 4 (.take 5 (.take 6 (.take 7 (.take 8 (.fin))))))))))]
def ct20 : Cuts := .bin (.go) (.bin (.go) (.bin (.go) (.bin (.go) (.bin (.go) (.bin (.go) (.bin (.go) (.bin (.bin (.go) (.cut (.go))) (.go))))))))
theorem pok20 : plansOk prog pl20 (codeOf f20) = true := by kernel_rfl
theorem e20 {a0 : Value} : W prog J 145 h.length 20 (codeOf f20) (RG.mk (regs [a0]) []) h (RetQ prog [.tmp 2] h.length K) =
(Good prog J 22 [a0] h fun v1 h2 =>
 Good prog J 24 [v1] h2 fun v3 h4 =>
 Good prog J 25 [v1, (vint 7)] h4 fun v5 h6 =>
 aAlloc [(vint 0), (vint 0), (vint 0), (vint 0), (vint 0), (vint 0)] h6 fun v7 h8 =>
 aAlloc [(vint 0), (vint 0), (vint 0)] h8 fun v9 h10 =>
 aStore 6 v7 v3 h10 fun h11 =>
 aStore 3 v9 v5 h11 fun h12 =>
 aOff v9 0 fun v13 =>
 aLoad false 1 v13 h12 fun v14 =>
 Good prog J 30 [v1, v14, (vint 12)] h12 fun v15 h16 =>
 aLoad true 6 v7 h16 fun v17 =>
 aLoad true 3 v9 h16 fun v18 =>
 Good prog J 49 [v17, v15, v18] h16 fun v19 h20 =>
 aExt v19 0 fun v21 =>
 aExt v19 1 fun v22 =>
 aLoad true 6 v7 h20 fun v23 =>
 aLoad true 3 v9 h20 fun v24 =>
 Good prog J 51 [v23, v15, v24] h20 fun v25 h26 =>
 aExt v25 0 fun v27 =>
 aExt v25 1 fun v28 =>
 aExt v25 2 fun v29 =>
 aLoad true 3 v9 h26 fun v30 =>
 Good prog J 34 [v30] h26 fun v31 h32 =>
 aExt v31 0 fun v33 =>
 aExt v31 1 fun v34 =>
 aBin prog .neq 37 v22 (vint 0) fun v35 =>
 cnd v35
(Hold (W prog J 145 h.length 20 (subC [1, 1, 1, 1, 1, 1, 1, 0, 1] (codeOf f20)) (RG.p (RG.p (RG.p (RG.p (RG.p (RG.p (RG.p (RG.p (RG.p (RG.p (RG.p (RG.p (RG.p (RG.p (RG.p (RG.p (RG.p (RG.p (RG.p (RG.p (RG.p (RG.p (RG.p (RG.p (RG.p (RG.p (RG.p (RG.p (RG.p (RG.p (RG.p (RG.p (RG.p (RG.p (RG.p (RG.p (RG.p (RG.p (RG.p (RG.p (RG.p (RG.p (RG.p (RG.p (RG.p (RG.p (RG.p (RG.p (RG.p (RG.p (RG.p (RG.p (RG.p (RG.p (RG.p (RG.p (RG.p (RG.p (RG.mk (regs [a0]) []) 2 (Value.bool false)) 20 a0) 21 v1) 3 v1) 22 v1) 23 v3) 24 v1) 25 v5) 4 v7) 5 v9) 26 v1) 27 v13) 28 v14) 29 v15) 6 v15) 31 v17) 32 v15) 33 v18) 34 v19) 30 v19) 35 v21) 36 v22) 7 v21) 8 v22) 38 v23) 39 v15) 40 v24) 41 v25) 37 v25) 42 v27) 43 v28) 44 v29) 9 v27) 10 v28) 11 v29) 46 v30) 47 v31) 45 v31) 48 v33) 49 v34) 12 v33) 13 v34) 50 v22) 51 v35) 52 v35) 52 (Value.bool true)) 53 undef) 54 undef) 55 (Value.bool true)) 56 (Value.bool true)) 56 (Value.bool true)) 57 undef) 58 undef) 59 undef) 60 undef) 61 undef) 62 undef) 63 (Value.bool true)) h32 (contX pl20 prog J 145 h.length 20 ct20 [1, 1, 1, 1, 1, 1, 1, 0, 1] (codeOf f20) [] (RetQ prog [.tmp 2] h.length K))))
(aBin prog .neq 37 v34 (vint 0) fun v36 =>
 cnd v36
(Hold (W prog J 145 h.length 20 (subC [1, 1, 1, 1, 1, 1, 1, 0, 1] (codeOf f20)) (RG.p (RG.p (RG.p (RG.p (RG.p (RG.p (RG.p (RG.p (RG.p (RG.p (RG.p (RG.p (RG.p (RG.p (RG.p (RG.p (RG.p (RG.p (RG.p (RG.p (RG.p (RG.p (RG.p (RG.p (RG.p (RG.p (RG.p (RG.p (RG.p (RG.p (RG.p (RG.p (RG.p (RG.p (RG.p (RG.p (RG.p (RG.p (RG.p (RG.p (RG.p (RG.p (RG.p (RG.p (RG.p (RG.p (RG.p (RG.p (RG.p (RG.p (RG.p (RG.p (RG.p (RG.p (RG.p (RG.p (RG.p (RG.p (RG.mk (regs [a0]) []) 2 (Value.bool false)) 20 a0) 21 v1) 3 v1) 22 v1) 23 v3) 24 v1) 25 v5) 4 v7) 5 v9) 26 v1) 27 v13) 28 v14) 29 v15) 6 v15) 31 v17) 32 v15) 33 v18) 34 v19) 30 v19) 35 v21) 36 v22) 7 v21) 8 v22) 38 v23) 39 v15) 40 v24) 41 v25) 37 v25) 42 v27) 43 v28) 44 v29) 9 v27) 10 v28) 11 v29) 46 v30) 47 v31) 45 v31) 48 v33) 49 v34) 12 v33) 13 v34) 50 v22) 51 v35) 52 v35) 52 (Value.bool false)) 53 v34) 54 v36) 55 v36) 56 v36) 56 (Value.bool true)) 57 undef) 58 undef) 59 undef) 60 undef) 61 undef) 62 undef) 63 (Value.bool true)) h32 (contX pl20 prog J 145 h.length 20 ct20 [1, 1, 1, 1, 1, 1, 1, 0, 1] (codeOf f20) [] (RetQ prog [.tmp 2] h.length K))))
(aBin prog .neq 37 v29 (vint 0) fun v37 =>
 cnd v37
(aBin prog .neq 37 v29 (vint 11) fun v38 =>
 Hold (W prog J 145 h.length 20 (subC [1, 1, 1, 1, 1, 1, 1, 0, 1] (codeOf f20)) (RG.p (RG.p (RG.p (RG.p (RG.p (RG.p (RG.p (RG.p (RG.p (RG.p (RG.p (RG.p (RG.p (RG.p (RG.p (RG.p (RG.p (RG.p (RG.p (RG.p (RG.p (RG.p (RG.p (RG.p (RG.p (RG.p (RG.p (RG.p (RG.p (RG.p (RG.p (RG.p (RG.p (RG.p (RG.p (RG.p (RG.p (RG.p (RG.p (RG.p (RG.p (RG.p (RG.p (RG.p (RG.p (RG.p (RG.p (RG.p (RG.p (RG.p (RG.p (RG.p (RG.p (RG.p (RG.p (RG.p (RG.p (RG.p (RG.p (RG.mk (regs [a0]) []) 2 (Value.bool false)) 20 a0) 21 v1) 3 v1) 22 v1) 23 v3) 24 v1) 25 v5) 4 v7) 5 v9) 26 v1) 27 v13) 28 v14) 29 v15) 6 v15) 31 v17) 32 v15) 33 v18) 34 v19) 30 v19) 35 v21) 36 v22) 7 v21) 8 v22) 38 v23) 39 v15) 40 v24) 41 v25) 37 v25) 42 v27) 43 v28) 44 v29) 9 v27) 10 v28) 11 v29) 46 v30) 47 v31) 45 v31) 48 v33) 49 v34) 12 v33) 13 v34) 50 v22) 51 v35) 52 v35) 52 (Value.bool false)) 53 v34) 54 v36) 55 v36) 56 v36) 56 (Value.bool false)) 57 v29) 58 v37) 59 v37) 59 (Value.bool true)) 60 v29) 61 v38) 62 v38) 63 v38) h32 (contX pl20 prog J 145 h.length 20 ct20 [1, 1, 1, 1, 1, 1, 1, 0, 1] (codeOf f20) [] (RetQ prog [.tmp 2] h.length K))))
(Hold (W prog J 145 h.length 20 (subC [1, 1, 1, 1, 1, 1, 1, 0, 1] (codeOf f20)) (RG.p (RG.p (RG.p (RG.p (RG.p (RG.p (RG.p (RG.p (RG.p (RG.p (RG.p (RG.p (RG.p (RG.p (RG.p (RG.p (RG.p (RG.p (RG.p (RG.p (RG.p (RG.p (RG.p (RG.p (RG.p (RG.p (RG.p (RG.p (RG.p (RG.p (RG.p (RG.p (RG.p (RG.p (RG.p (RG.p (RG.p (RG.p (RG.p (RG.p (RG.p (RG.p (RG.p (RG.p (RG.p (RG.p (RG.p (RG.p (RG.p (RG.p (RG.p (RG.p (RG.p (RG.p (RG.p (RG.p (RG.p (RG.p (RG.p (RG.mk (regs [a0]) []) 2 (Value.bool false)) 20 a0) 21 v1) 3 v1) 22 v1) 23 v3) 24 v1) 25 v5) 4 v7) 5 v9) 26 v1) 27 v13) 28 v14) 29 v15) 6 v15) 31 v17) 32 v15) 33 v18) 34 v19) 30 v19) 35 v21) 36 v22) 7 v21) 8 v22) 38 v23) 39 v15) 40 v24) 41 v25) 37 v25) 42 v27) 43 v28) 44 v29) 9 v27) 10 v28) 11 v29) 46 v30) 47 v31) 45 v31) 48 v33) 49 v34) 12 v33) 13 v34) 50 v22) 51 v35) 52 v35) 52 (Value.bool false)) 53 v34) 54 v36) 55 v36) 56 v36) 56 (Value.bool false)) 57 v29) 58 v37) 59 v37) 59 (Value.bool false)) 60 undef) 61 undef) 62 (Value.bool false)) 63 (Value.bool false)) h32 (contX pl20 prog J 145 h.length 20 ct20 [1, 1, 1, 1, 1, 1, 1, 0, 1] (codeOf f20) [] (RetQ prog [.tmp 2] h.length K))))))) := top_eq pok20 ct20 (by kernel_rfl)
end
section
variable {main : Bool} {J : JT} {n0 : Nat} {h : List AObj} {K : Value → List AObj → Prop}
theorem at5 : prog.funcs[5]? = some f5 := by kernel_rfl
theorem body5 : f5.body = some (codeOf f5) := by kernel_rfl
def pl5 : Plans := [(3, false, .take 0 (.take 1 (.take 3 (.take 4 (.alt 2 true (.last 5 true (.last 6 false (.take 7 (.take 8 (.take 9 (.take 10 (.take 11 (.fin)))))))) (.last 5 true (.last 2 true (.last 6 false (.take 7 (.take 8 (.take 9 (.take 10 (.take 11 (.fin)))))))))))))),
 (10, true, .take 0 (.take 1 (.take 2 (.take 3 (.take 4 (.take 5 (.take 6 (.take 7 (.take 8 (.take 9 (.take 10 (.take 11 (.take 12 (.take 13 (.take 14 (.fin))))))))))))))))]
def ct5 : Cuts := .bin (.go) (.bin (.go) (.bin (.go) (.bin (.go) (.cut (.bin (.bin (.go) (.cut (.go))) (.bin (.go) (.bin (.bin (.go) (.un (.un (.bin (.go) (.bin (.un (.bin (.bin (.go) (.cut (.go))) (.go))) (.go)))))) (.go))))))))
theorem pok5 : plansOk prog pl5 (codeOf f5) = true := by kernel_rfl
theorem e5 {a0 : Value} : W prog J 61 h.length 5 (codeOf f5) (RG.mk (regs [a0]) []) h (RetQ prog [.tmp 2] h.length K) =
(Good prog J 22 [a0] h fun v1 h2 =>
 Good prog J 24 [v1] h2 fun v3 h4 =>
 Good prog J 23 [v1, (vint 1), (vint 8)] h4 fun v5 h6 =>
 aAlloc [(vint 0), (vint 0), (vint 0), (vint 0), (vint 0), (vint 0)] h6 fun v7 h8 =>
 aStore 6 v7 v3 h8 fun h9 =>
(∃ B, aLoad true 6 v7 h9 fun v10 =>
 RdOk (some B) (ptrBlk v7) ∧ ((((List.length [(vint 0)] = 1 ∧ (8 : Nat) ≤ 1024) ∧ aMkS [(vint 0)] v5 v5 h9 fun v11 h12 =>
 SameB (some B) h9 h12 ∧ (Good prog J 31 [v1, v5] h12 fun v13 h14 =>
 SameB (some B) h9 h14 ∧ (Good prog J 32 [v10, v11, v13] h14 fun v15 h16 =>
 aExt v15 0 fun v17 =>
 aExt v15 1 fun v18 =>
 Hold (W prog J 61 h.length 5 (subC [1, 1, 1, 1] (codeOf f5)) (RG.p (RG.p (RG.p (RG.p (RG.p (RG.p (RG.p (RG.p (RG.p (RG.p (RG.p (RG.p (RG.p (RG.p (RG.p (RG.p (RG.p (RG.p (RG.p (RG.p (RG.p (RG.p (RG.mk (regs [a0]) []) 2 (Value.bool false)) 10 a0) 11 v1) 3 v1) 12 v1) 13 v3) 14 v1) 15 v5) 4 v7) 5 v5) 17 v10) 18 v5) 20 v1) 21 v5) 19 v11) 22 v13) 23 v15) 16 v15) 24 v17) 25 v18) 6 v17) 7 v18) h16 (contX pl5 prog J 61 h.length 5 ct5 [1, 1, 1, 1] (codeOf f5) [] (RetQ prog [.tmp 2] h.length K))))))) ∧ (Good prog J 31 [v1, v5] h9 fun v19 h20 =>
 SameB (some B) h9 h20 ∧ (((List.length [(vint 0)] = 1 ∧ (8 : Nat) ≤ 1024) ∧ aMkS [(vint 0)] v5 v5 h20 fun v21 h22 =>
 SameB (some B) h9 h22 ∧ (Good prog J 32 [v10, v21, v19] h22 fun v23 h24 =>
 aExt v23 0 fun v25 =>
 aExt v23 1 fun v26 =>
 Hold (W prog J 61 h.length 5 (subC [1, 1, 1, 1] (codeOf f5)) (RG.p (RG.p (RG.p (RG.p (RG.p (RG.p (RG.p (RG.p (RG.p (RG.p (RG.p (RG.p (RG.p (RG.p (RG.p (RG.p (RG.p (RG.p (RG.p (RG.p (RG.p (RG.p (RG.mk (regs [a0]) []) 2 (Value.bool false)) 10 a0) 11 v1) 3 v1) 12 v1) 13 v3) 14 v1) 15 v5) 4 v7) 5 v5) 17 v10) 18 v5) 20 v1) 21 v5) 22 v19) 19 v21) 23 v23) 16 v23) 24 v25) 25 v26) 6 v25) 7 v26) h24 (contX pl5 prog J 61 h.length 5 ct5 [1, 1, 1, 1] (codeOf f5) [] (RetQ prog [.tmp 2] h.length K)))))))))) := top_eq pok5 ct5 (by kernel_rfl)
theorem g5 (hJ : Closed prog main J) {a0 : Value} (hs : heapOk h → W prog J 61 h.length 5 (codeOf f5) (RG.mk (regs [a0]) []) h (RetQ prog [.tmp 2] h.length K)) : Good prog J 5 [a0] h K :=
 good_of_W hJ mixed at5 body5 (by kernel_rfl) (Nat.le_of_ble_eq_true rfl) hs
end
end Go.Proofs.Ythnccaajpdnndaa
namespace Go.Proofs.Ythnccaajpdnndaa
open Go.Conc Go.Proofs.Try
set_option maxRecDepth 100000
theorem endsZ_get {p : Pas} {hs : List Int} {w : List UInt8} {k i : Nat} (h : i < k) : (endsZ p hs w k)[i]? = some (stdR p hs w (i + 1)).1 := by
 unfold endsZ
 rw [List.getElem?_map, List.getElem?_range h]
 rfl
end Go.Proofs.Ythnccaajpdnndaa
namespace Go.Proofs.Ythnccaajpdnndaa
open Go.Conc Go.Proofs.Try
set_option maxRecDepth 100000
set_option maxHeartbeats 4000000
set_option linter.unusedVariables false
section
variable {main : Bool} {J : JT} {n0 : Nat} {h : List AObj} {K : Value → List AObj → Prop}
def pl9 : Plans := [(20, true, .take 0 (.take 1 (.take 2 (.take 3 (.take 4 (.take 5 (.take 6 (.take 7 (.take 8 (.fin)))))))))),
 (22, false, .take 0 (.take 1 (.take 2 (.take 3 (.take 4 (.take 5 (.take 6 (.take 7 (.take 8 (.take 9 (.take 10 (.take 11 (.take 12 (.take 13 (.take 14 (.take 15 (.take 16 (.take 17 (.last 18 true (.take 19 (.take 20 (.fin))))))))))))))))))))))]
def ct9 : Cuts := .bin (.go) (.bin (.go) (.bin (.go) (.bin (.go) (.bin (.go) (.bin (.bin (.go) (.un (.un (.bin (.go) (.bin (.un (.bin (.go) (.cut (.go)))) (.go)))))) (.bin (.go) (.bin (.go) (.bin (.go) (.bin (.go) (.bin (.bin (.go) (.cut (.go))) (.go)))))))))))
theorem pok9 : plansOk prog pl9 (codeOf f9) = true := by kernel_rfl
theorem e9 {a0 : Value} : W prog J 136 h.length 9 (codeOf f9) (RG.mk (regs [a0]) []) h (RetQ prog [.tmp 2] h.length K) =
(Good prog J 22 [a0] h fun v1 h2 =>
 Good prog J 24 [v1] h2 fun v3 h4 =>
 Good prog J 23 [v1, (vint 1), (vint 8)] h4 fun v5 h6 =>
 aAlloc [(vint 0), (vint 0), (vint 0), (vint 0), (vint 0), (vint 0)] h6 fun v7 h8 =>
 aStore 6 v7 v3 h8 fun h9 =>
 Good prog J 30 [v1, v5, (vint 10)] h9 fun v10 h11 =>
 Good prog J 31 [v1, v5] h11 fun v12 h13 =>
 Sem J 136 h.length 9 (subC [1, 1, 1, 1, 1, 0, 1, 0] (codeOf f9)) (RG.p (RG.p (RG.p (RG.p (RG.p (RG.p (RG.p (RG.p (RG.p (RG.p (RG.p (RG.p (RG.p (RG.p (RG.p (RG.p (RG.p (RG.p (RG.p (RG.p (RG.mk (regs [a0]) []) 2 (Value.bool false)) 19 a0) 20 v1) 3 v1) 21 v1) 22 v3) 23 v1) 24 v5) 4 v7) 5 v5) 25 v1) 26 v5) 27 v10) 28 v1) 29 v5) 30 v12) 6 v10) 7 v12) 8 (Value.string { data := #[] })) 9 (vint 0)) h13 (contX pl9 prog J 136 h.length 9 ct9 [1, 1, 1, 1, 1, 0, 1, 0] (codeOf f9) [] (RetQ prog [.tmp 2] h.length K))) := top_eq pok9 ct9 (by kernel_rfl)
end
end Go.Proofs.Ythnccaajpdnndaa
namespace Go.Proofs.Ythnccaajpdnndaa
open Go.Conc Go.Proofs.Try
set_option maxRecDepth 100000
section
variable {main : Bool} {J : JT} {h H : List AObj} {K : Value → List AObj → Prop}
theorem good132 (hJ : Closed prog main J) {hs : List Int} {hv : Value} {d : Int} (sh : Sli H hv 1 hs.length (hs.map vint)) (hl : hs.length < 1000000) (hK : K (vint (hunE hs d)) H) : Good prog J 132 [hv, vint d] H K := by
 refine g132 hJ fun ok => ?_
 rw [e132]
 have e : hunE hs d = if (hs.length : Int) < d then 7 else if (hs.length : Int) > d then 6 else if ∀ n ∈ hs, 0 ≤ n ∧ n ≤ 40 then 0 else 1 := by
  unfold hunE cntE
  by_cases c : (hs.length : Int) < d
  ·rw [if_pos c, if_pos c, if_pos (by decide)]
  ·rw [if_neg c, if_neg c]
   by_cases c2 : (hs.length : Int) > d
   ·rw [if_pos c2, if_pos c2, if_pos (by decide)]
   ·rw [if_neg c2, if_neg c2, if_neg (by decide)]
 rw [e] at hK
 refine lenI sh (lssI (cndI (fun h1 => ?_) fun h1 => lenI sh (gtrI (cndI (fun h2 => ?_) fun h2 => ?_))))
 ·rw [if_pos h1] at hK
  exact retL_same (by simp [unk]) hK
 ·rw [if_neg h1, if_pos h2] at hK
  exact retL_same (by simp [unk]) hK
 rw [if_neg h1, if_neg h2] at hK
 refine l132_1 hJ (fun i : Nat => hs.length - i) (fun i F H' => i ≤ hs.length ∧ H' = H ∧ (∀ j, j < i → ∀ n, hs[j]? = some n → 0 ≤ n ∧ n ≤ 40) ∧ F.ds = [] ∧ F.r 0 = hv ∧ F.r 5 = vint (i : Nat)) ?_ (s := 0)
  (.inl ⟨Nat.zero_le _, rfl, fun j hj => absurd hj (Nat.not_lt_zero _), rfl, rfl, rfl⟩)
 rintro i F H' ⟨hi, rfl, hall, ds, r0, r5⟩ okc hnc
 rw [s132_1, r0, r5, ds]
 refine lenI sh (lssI (cndI (fun hlt => ?_) fun hge => ?_))
 ·have hx : hs[i]? = some hs[i] := List.getElem?_eq_getElem (by omega)
  have hm := List.getElem_mem (l := hs) (n := i) (by omega)
  generalize hs[i] = x at hx hm
  refine sliN sh hx fun q => good82 hJ (notI (cndN (fun h3 => ?_) fun h3 => ?_))
  ·rw [if_neg (fun c => h3 (c x hm))] at hK
   exact retL_same (by simp [unk]) hK
  ·refine addI (by omega) ⟨i + 1, by dsimp only; omega, .inl ⟨by omega, rfl, fun j hj n hn => ?_, ds, r0, by show vint _ = vint _; congr 1⟩⟩
   by_cases c : j = i
   ·rw [c, hx] at hn
    cases hn
    exact h3
   ·exact hall j (by omega) n hn
 ·have c : ∀ n ∈ hs, 0 ≤ n ∧ n ≤ 40 := fun n hn => by
   obtain ⟨j, hj, e⟩ := List.mem_iff_getElem.1 hn
   exact hall j (by omega) n (by rw [List.getElem?_eq_getElem hj, e])
  rw [if_pos c] at hK
  exact retL_same (by simp [unk]) hK
theorem good96 (hJ : Closed prog main J) {p : Pas} {s : SkyR} {hs : List Int} {hv : Value} (sh : Sli H hv 1 hs.length (hs.map vint)) (hl : hs.length < 1000000) (hK : ∀ H', SameX [] H H' → K (vint (ckdE p hs s)) H') : Good prog J 96 [.agg ⟨p.cells⟩, hv, .agg ⟨s.cells⟩] H K := by
 refine g96 hJ fun ok => ?_
 rw [e96]
 have e : ckdE p hs s = if pasE p ≠ 0 then pasE p else if skyE s ≠ 0 then skyE s else hunE hs s.days := by
  unfold ckdE fst2
  by_cases c : pasE p ≠ 0
  ·rw [if_pos c, if_pos c, if_pos c]
  ·rw [if_neg c, if_neg c]
 rw [e] at hK
 refine qBox (l := p.cells) rfl fun H1 p1 e1 S1 c1 l1 => qBox (l := s.cells) rfl fun H2 p2 e2 S2 c2 l2 => ?_
 have T := S1.trans S2
 refine load_part (c := p.cells) (S2.get c1 (by simp)) (by simp [Pas.cells]) rfl rfl (good37 hJ (neqI (cndI (fun h1 => ?_) fun h1 => ?_)))
 ·have := hK H2 T
  rw [if_pos h1] at this
  exact retL_same (by simp [unk]) this
 refine load_part (c := s.cells) c2 (by simp [SkyR.cells]) rfl rfl (good81 hJ (neqI (cndI (fun h2 => ?_) fun h2 => ?_)))
 ·have := hK H2 T
  rw [if_neg h1, if_pos h2] at this
  exact retL_same (by simp [unk]) this
 refine offI (ldI (v := vint s.days) c2 rfl rfl (good132 hJ (T.sli sh (by simp)) hl ?_))
 have := hK H2 T
 rw [if_neg h1, if_neg h2] at this
 exact retL_same (by simp [unk]) this
end
end Go.Proofs.Ythnccaajpdnndaa
namespace Go.Proofs.Ythnccaajpdnndaa
open Go.Conc Go.Proofs.Try
set_option maxRecDepth 100000
set_option maxHeartbeats 4000000
set_option linter.unusedVariables false
section
variable {main : Bool} {J : JT} {n0 : Nat} {h : List AObj} {K : Value → List AObj → Prop}
def pl8 : Plans := [(8, false, .take 0 (.take 1 (.take 3 (.take 4 (.alt 2 true (.take 6 (.last 5 true (.take 7 (.fin)))) (.last 5 true (.last 2 true (.take 6 (.take 7 (.fin)))))))))),
 (12, true, .take 0 (.take 1 (.take 2 (.take 3 (.take 4 (.take 5 (.last 6 false (.take 7 (.take 8 (.take 9 (.take 10 (.take 11 (.fin))))))))))))),
 (18, true, .take 0 (.take 1 (.take 2 (.take 3 (.take 4 (.take 5 (.take 6 (.take 7 (.take 8 (.take 9 (.take 10 (.take 11 (.take 12 (.take 13 (.take 14 (.take 15 (.take 16 (.take 17 (.take 18 (.take 19 (.take 20 (.take 21 (.fin))))))))))))))))))))))),
 (20, true, .take 0 (.take 1 (.take 2 (.take 3 (.take 4 (.take 5 (.take 6 (.take 7 (.take 8 (.take 9 (.take 10 (.take 11 (.take 12 (.take 13 (.take 14 (.take 15 (.take 16 (.take 17 (.take 18 (.take 19 (.take 20 (.take 21 (.take 22 (.take 23 (.take 24 (.take 25 (.take 26 (.take 27 (.take 28 (.take 29 (.take 30 (.take 31 (.take 32 (.take 33 (.take 34 (.take 35 (.take 36 (.last 37 false (.take 38 (.last 39 false (.fin)))))))))))))))))))))))))))))))))))))))))]
def ct8 : Cuts := .bin (.go) (.bin (.go) (.bin (.go) (.bin (.go) (.bin (.go) (.bin (.go) (.bin (.bin (.go) (.cut (.go))) (.bin (.go) (.cut (.bin (.bin (.go) (.un (.un (.bin (.go) (.bin (.un (.bin (.go) (.bin (.bin (.go) (.cut (.go))) (.bin (.go) (.un (.un (.bin (.go) (.bin (.un (.bin (.bin (.go) (.cut (.go))) (.go))) (.go))))))))) (.go)))))) (.bin (.bin (.go) (.un (.un (.bin (.go) (.bin (.un (.bin (.go) (.cut (.go)))) (.go)))))) (.go)))))))))))
theorem pok8 : plansOk prog pl8 (codeOf f8) = true := by kernel_rfl
theorem e8 {a0 : Value} : W prog J 169 h.length 8 (codeOf f8) (RG.mk (regs [a0]) []) h (RetQ prog [.tmp 2] h.length K) =
(Good prog J 22 [a0] h fun v1 h2 =>
 Good prog J 24 [v1] h2 fun v3 h4 =>
 Good prog J 25 [v1, (vint 7)] h4 fun v5 h6 =>
 aAlloc [(vint 0), (vint 0), (vint 0), (vint 0), (vint 0), (vint 0)] h6 fun v7 h8 =>
 aAlloc [(vint 0), (vint 0), (vint 0)] h8 fun v9 h10 =>
 aStore 6 v7 v3 h10 fun h11 =>
 aStore 3 v9 v5 h11 fun h12 =>
 aOff v9 0 fun v13 =>
 aLoad false 1 v13 h12 fun v14 =>
 Good prog J 30 [v1, v14, (vint 9)] h12 fun v15 h16 =>
 aLoad true 6 v7 h16 fun v17 =>
 aLoad true 3 v9 h16 fun v18 =>
 Good prog J 41 [v17, v15, v18] h16 fun v19 h20 =>
 aExt v19 0 fun v21 =>
 aExt v19 1 fun v22 =>
 aLoad true 3 v9 h20 fun v23 =>
 Good prog J 34 [v23] h20 fun v24 h25 =>
 aExt v24 0 fun v26 =>
 aExt v24 1 fun v27 =>
 aBin prog .neq 37 v22 (vint 0) fun v28 =>
 cnd v28
(Hold (W prog J 169 h.length 8 (subC [1, 1, 1, 1, 1, 1, 0, 1] (codeOf f8)) (RG.p (RG.p (RG.p (RG.p (RG.p (RG.p (RG.p (RG.p (RG.p (RG.p (RG.p (RG.p (RG.p (RG.p (RG.p (RG.p (RG.p (RG.p (RG.p (RG.p (RG.p (RG.p (RG.p (RG.p (RG.p (RG.p (RG.p (RG.p (RG.p (RG.p (RG.p (RG.p (RG.p (RG.p (RG.p (RG.p (RG.p (RG.p (RG.p (RG.p (RG.p (RG.p (RG.p (RG.p (RG.p (RG.p (RG.mk (regs [a0]) []) 2 (Value.bool false)) 18 a0) 19 v1) 3 v1) 20 v1) 21 v3) 22 v1) 23 v5) 4 v7) 5 v9) 24 v1) 25 v13) 26 v14) 27 v15) 6 v15) 29 v17) 30 v15) 31 v18) 32 v19) 28 v19) 33 v21) 34 v22) 7 v21) 8 v22) 36 v23) 37 v24) 35 v24) 38 v26) 39 v27) 9 v26) 10 v27) 40 v22) 41 v28) 42 v28) 42 (Value.bool true)) 43 undef) 44 undef) 45 (Value.bool true)) 46 (Value.bool true)) 46 (Value.bool true)) 47 undef) 48 undef) 49 undef) 50 undef) 51 undef) 52 (Value.bool true)) h25 (contX pl8 prog J 169 h.length 8 ct8 [1, 1, 1, 1, 1, 1, 0, 1] (codeOf f8) [] (RetQ prog [.tmp 2] h.length K))))
(aBin prog .neq 37 v27 (vint 0) fun v29 =>
 cnd v29
(Hold (W prog J 169 h.length 8 (subC [1, 1, 1, 1, 1, 1, 0, 1] (codeOf f8)) (RG.p (RG.p (RG.p (RG.p (RG.p (RG.p (RG.p (RG.p (RG.p (RG.p (RG.p (RG.p (RG.p (RG.p (RG.p (RG.p (RG.p (RG.p (RG.p (RG.p (RG.p (RG.p (RG.p (RG.p (RG.p (RG.p (RG.p (RG.p (RG.p (RG.p (RG.p (RG.p (RG.p (RG.p (RG.p (RG.p (RG.p (RG.p (RG.p (RG.p (RG.p (RG.p (RG.p (RG.p (RG.p (RG.p (RG.mk (regs [a0]) []) 2 (Value.bool false)) 18 a0) 19 v1) 3 v1) 20 v1) 21 v3) 22 v1) 23 v5) 4 v7) 5 v9) 24 v1) 25 v13) 26 v14) 27 v15) 6 v15) 29 v17) 30 v15) 31 v18) 32 v19) 28 v19) 33 v21) 34 v22) 7 v21) 8 v22) 36 v23) 37 v24) 35 v24) 38 v26) 39 v27) 9 v26) 10 v27) 40 v22) 41 v28) 42 v28) 42 (Value.bool false)) 43 v27) 44 v29) 45 v29) 46 v29) 46 (Value.bool true)) 47 undef) 48 undef) 49 undef) 50 undef) 51 undef) 52 (Value.bool true)) h25 (contX pl8 prog J 169 h.length 8 ct8 [1, 1, 1, 1, 1, 1, 0, 1] (codeOf f8) [] (RetQ prog [.tmp 2] h.length K))))
(aLenS v21 fun v30 =>
 aOff v9 0 fun v31 =>
 aLoad false 1 v31 h25 fun v32 =>
 aBin prog .neq 3 v30 v32 fun v33 =>
 Hold (W prog J 169 h.length 8 (subC [1, 1, 1, 1, 1, 1, 0, 1] (codeOf f8)) (RG.p (RG.p (RG.p (RG.p (RG.p (RG.p (RG.p (RG.p (RG.p (RG.p (RG.p (RG.p (RG.p (RG.p (RG.p (RG.p (RG.p (RG.p (RG.p (RG.p (RG.p (RG.p (RG.p (RG.p (RG.p (RG.p (RG.p (RG.p (RG.p (RG.p (RG.p (RG.p (RG.p (RG.p (RG.p (RG.p (RG.p (RG.p (RG.p (RG.p (RG.p (RG.p (RG.p (RG.p (RG.p (RG.p (RG.mk (regs [a0]) []) 2 (Value.bool false)) 18 a0) 19 v1) 3 v1) 20 v1) 21 v3) 22 v1) 23 v5) 4 v7) 5 v9) 24 v1) 25 v13) 26 v14) 27 v15) 6 v15) 29 v17) 30 v15) 31 v18) 32 v19) 28 v19) 33 v21) 34 v22) 7 v21) 8 v22) 36 v23) 37 v24) 35 v24) 38 v26) 39 v27) 9 v26) 10 v27) 40 v22) 41 v28) 42 v28) 42 (Value.bool false)) 43 v27) 44 v29) 45 v29) 46 v29) 46 (Value.bool false)) 47 v21) 48 v30) 49 v31) 50 v32) 51 v33) 52 v33) h25 (contX pl8 prog J 169 h.length 8 ct8 [1, 1, 1, 1, 1, 1, 0, 1] (codeOf f8) [] (RetQ prog [.tmp 2] h.length K)))))) := top_eq pok8 ct8 (by kernel_rfl)
end
end Go.Proofs.Ythnccaajpdnndaa
namespace Go.Proofs.Ythnccaajpdnndaa
open Go.Conc Go.Proofs.Try
set_option maxRecDepth 100000
section
variable {H : List AObj}
theorem rngAt {vl : Value} {L : List Span} (sl : SliE H vl 2 rngC L) {k : Nat} (hk : k < L.length) {K2 : Value → Value → Value → Prop} : ((∀ q r, K2 q r (vint (L.getD k (0, 0, false)).1)) → aIdx 2 vl (vint (k : Nat)) fun q => aOff q 0 fun q2 => aLoad false 1 q2 H (K2 q q2)) ∧ ((∀ q r, K2 q r (vint (L.getD k (0, 0, false)).2.1)) → aIdx 2 vl (vint (k : Nat)) fun q => aOff q 1 fun q2 => aLoad false 1 q2 H (K2 q q2)) := by
 obtain ⟨b, oo, cs, wr, sz, hidx, hb, hos, htk, hkn⟩ := sliE_elem (s := 2) (fun _ => rfl) (by decide) sl hk
 have e : L.getD k (0, 0, false) = L[k] := by
  rw [List.getD_eq_getElem?_getD, List.getElem?_eq_getElem hk]
  rfl
 rw [e]
 generalize L[k] = x at htk
 refine ⟨fun h => hidx _ (offI (ldI (v := vint x.1) hb (part_get htk rfl) rfl (h _ _))), fun h => hidx _ (offI (ldI (v := vint x.2.1) hb (part_get htk rfl) rfl (h _ _)))⟩
end
theorem takeSet {α : Type} {y : α} : ∀ (l : List α) (k : Nat), k < l.length → (l.set k y).take (k + 1) = l.take k ++ [y]
 | [], k, h => absurd h (Nat.not_lt_zero _)
 | x :: l, 0, _ => rfl
 | x :: l, k + 1, h => by
  show x :: (l.set k y).take (k + 1) = x :: (l.take k ++ [y])
  rw [takeSet l k (by simpa using h)]
theorem setSame {α : Type} {l : List α} {k : Nat} {x : α} (h : l[k]? = some x) : l.set k x = l := by
 apply List.ext_getElem?
 intro i
 rw [List.getElem?_set]
 by_cases e : k = i
 ·subst e
  rw [if_pos rfl, if_pos (List.getElem?_eq_some_iff.1 h).1, h]
 ·rw [if_neg e]
theorem wrAt_rng (y : Span) : ∀ (L : List Span) (j : Nat), j < L.length → wrAt (L.flatMap rngC) (j * 2) (rngC y) = (L.set j y).flatMap rngC
 | [], j, h => absurd h (Nat.not_lt_zero _)
 | x :: L, 0, _ => rfl
 | x :: L, j + 1, h => by
  have e : (j + 1) * 2 = (rngC x).length + j * 2 := by
   show (j + 1) * 2 = 2 + j * 2
   omega
  rw [List.flatMap_cons, e, wrAt_right, wrAt_rng y L j (by simpa using h), List.set_cons_succ, List.flatMap_cons]
theorem rngs_len (L : List Span) : (L.flatMap rngC).length = L.length * 2 := by
 induction L with
 | nil => rfl
 | cons x L ih => rw [List.flatMap_cons, List.length_append, ih, List.length_cons]; show 2 + _ = _; omega
theorem kn_rng (L : List Span) : kn (L.flatMap rngC) = true := by
 unfold kn
 rw [List.all_eq_true]
 intro v hv
 obtain ⟨x, _, hx⟩ := List.mem_flatMap.1 hv
 simp only [rngC, List.mem_cons, List.not_mem_nil, or_false] at hx
 rcases hx with rfl | rfl <;> rfl
section
variable {main : Bool} {J : JT} {h H : List AObj} {K : Value → List AObj → Prop} {HL : List AObj → Prop}
theorem setRng {HL : Value → List AObj → Prop} {L : List Span} {v : Value} {o : Option Nat} {k : Nat} {y : Span} (O : OwnX H 2 (L.flatMap rngC) L.length v o) (hk : k < L.length)
  (hK : ∀ q H', SameX o.toList H H' → OwnX H' 2 ((L.set k y).flatMap rngC) (L.set k y).length v o → HL q H') : aIdx 2 v (vint (k : Nat)) fun q => aStore 2 q (.agg ⟨rngC y⟩) H (HL q) := by
 obtain ⟨h1, h2, ⟨h0, _⟩ | ⟨b, c, sz, rfl, rfl, hb, hc⟩⟩ := O
 ·omega
 ·refine idxI ⟨by omega, by omega⟩ ?_
  rw [Int.toNat_natCast, Nat.zero_add]
  have hl := rngs_len L
  unfold aStore
  simp only [ptr, hb]
  refine ⟨rfl, rfl, by omega, ?_⟩
  rw [show (Value.agg ⟨rngC y⟩).cells.toList = rngC y from rfl, wrAt_rng _ _ _ hk]
  refine hK _ _ (SameX.refl.set (.inl (by simp))) ?_
  rw [List.length_set]
  exact ⟨by rw [rngs_len, List.length_set], kn_rng _, .inr ⟨b, c, sz, rfl, rfl, List.getElem?_set_self (lt_of_get hb), hc⟩⟩
set_option maxHeartbeats 1000000 in
theorem good48 (hJ : Closed prog main J) {p : Pas} {s : SkyR} {hs : List Int} {hv : Value} (sh : Sli H hv 1 hs.length (hs.map vint)) (hl : hs.length < 1000000)
  (hK0 : ckdE p hs s ≠ 0 → ∀ H', SameX [] H H' → K (.tuple ⟨[.slice none 0 0, vint (ckdE p hs s)]⟩) H')
  (hK1 : ckdE p hs s = 0 → ∀ H' v, SameX [] H H' → SliE H' v 2 rngC (spansR p hs s) → K (.tuple ⟨[v, vint 0]⟩) H') : Good prog J 48 [.agg ⟨p.cells⟩, hv, .agg ⟨s.cells⟩] H K := by
 refine g48 hJ fun ok => ?_
 rw [e48]
 refine qBox (l := p.cells) rfl fun H1 p1 e1 S1 c1 l1 => qBox (l := s.cells) rfl fun H2 p2 e2 S2 c2 l2 => ?_
 have T := S1.trans S2
 have c12 := S2.get c1 (by simp)
 refine load_part (c := p.cells) c12 (by simp [Pas.cells]) rfl rfl (load_part (c := s.cells) c2 (by simp [SkyR.cells]) rfl rfl ?_)
 refine good96 hJ (T.sli sh (by simp)) hl fun H3 S3 => neqI (cndI (fun h1 => retL_same (nu2 (by simp [unk]) (by simp [unk])) (hK0 h1 H3 (T.trans S3))) fun h1 => ?_)
 have h0 : ckdE p hs s = 0 := by omega
 obtain ⟨f, g, hh, hlen⟩ := ckdE_zero h0
 obtain ⟨g1, g2, g3⟩ := id g
 have T3 := T.trans S3
 refine load_part (c := s.cells) (S3.get c2 (by simp)) (by simp [SkyR.cells]) rfl rfl ?_
 refine good91 hJ g fun H4 va oa S4 A4 hoa => ?_
 have sa := ownX_sli A4
 have T4 := T3.trans S4
 have c14 := S4.get (S3.get c12 (by simp)) (by simp)
 have hfew := rainsB_few g
 have hpos : 0 < (rainsB s).length := growB_pos
 obtain ⟨n, hn⟩ := Int.eq_ofNat_of_zero_le (by omega : (0 : Int) ≤ s.days)
 have hdn : s.days.toNat = n := by omega
 let acc : Nat → List Span := fun k => ((rainsB s).take k).foldl (fun L w => dayS p hs w w.length L) (List.replicate n (0, 0, false))
 have al : ∀ i, (acc i).length = n := fun i => by
  dsimp only [acc]
  rw [spansK_len, List.length_replicate]
 have flag : ∀ i, 1 ≤ i → ∀ k, k < n → ((acc i).getD k (0, 0, false)).2.2 = true := fun i hi k hk => by
  have := spans_fold (p := p) (hs := hs) (n := n) (l := (rainsB s).take i) (l0 := []) (L := List.replicate n (0, 0, false)) (fun w hw => by rw [rainsB_len (List.mem_of_mem_take hw), hdn]) (List.length_replicate ..) (fun j hj => .inl ⟨rfl, by
   rw [List.getD_eq_getElem?_getD, List.getElem?_replicate, if_pos hj]
   rfl⟩) k hk
  rw [List.nil_append] at this
  rcases this with ⟨e, _⟩ | ⟨_, e, _⟩
  ·have := congrArg List.length e
   rw [List.length_take, List.length_nil] at this
   omega
  ·exact e
 have accN : acc (rainsB s).length = spansR p hs s := by
  dsimp only [acc]
  rw [List.take_length, ← hdn]
  rfl
 refine l48_1 hJ (fun i : Nat => (rainsB s).length - i) (fun i F H' => i ≤ (rainsB s).length ∧ SameX [] H4 H' ∧ (∃ v o, F.r 9 = v ∧ OwnX H' 2 ((if i = 0 then [] else acc i).flatMap rngC) (if i = 0 then [] else acc i).length v o ∧ ∀ j, o = some j → H4.length ≤ j) ∧ F.ds = [] ∧ F.r 1 = hv ∧ F.r 3 = ptr p1 0 ∧ F.r 10 = va ∧ F.r 11 = vint (i : Nat)) ?_ (s := 0)
  (.inl ⟨Nat.zero_le _, SameX.refl, ⟨_, none, rfl, ⟨rfl, rfl, .inl ⟨rfl, rfl, rfl⟩⟩, by simp⟩, rfl, rfl, rfl, rfl, rfl⟩)
 rintro i F H' ⟨hi, S, ⟨v, o, r9, O, ho⟩, ds, r1, r3, r10, r11⟩ okc hnc
 rw [s48_1, r1, r3, r9, r10, r11, ds]
 refine lenI (S.sli sa (by simp)) (lssI (cndI (fun hl => ?_) fun hge => ?_))
 rotate_left
 ·have : i = (rainsB s).length := by omega
  subst this
  rw [if_neg (by omega), accN] at O
  exact retL_same (nu2 (ownU O) (by simp [unk])) (hK1 h0 H' v (T4.trans S) (ownX_sli O))
 have hl : i < (rainsB s).length := by omega
 have hu : (rainsB s)[i]? = some (rainsB s)[i] := List.getElem?_eq_getElem hl
 have hum := List.getElem_mem hl
 generalize (rainsB s)[i] = u at hu hum
 have hul : u.length = n := by rw [rainsB_len hum, hdn]
 have ea : acc (i + 1) = dayS p hs u n (acc i) := by
  dsimp only [acc]
  rw [List.take_add_one, hu, List.foldl_append]
  show dayS p hs u u.length _ = _
  rw [hul]
 refine load_part (c := p.cells) (S.get c14 (by simp)) (by simp [Pas.cells]) rfl rfl ?_
 refine strGet rfl (S.sli sa (by simp)) hu fun pa => ?_
 refine good97 hJ f hh (S.sli (T4.sli sh (by simp)) (by simp)) (by omega) (by omega) fun H5 ev bv nv S5 O5 => ext30 (ext31 (ext32 ?_))
 obtain ⟨oe, ob', oc', Oe, _, _, hoe, _, _⟩ := O5
 have hS5 := S5.1
 have hSl := S.1
 have hol := ownX_lt O
 have ends_get : ∀ k, k < n → (endsR p hs u u.length)[k]? = some (stdR p hs u (k + 1)).1 := fun k hk => endsZ_get (p := p) (hs := hs) (w := u) (k := u.length) (by omega)
 have el : (endsR p hs u u.length).length = n := by
  have := endsZ_len (p := p) (heads := hs) (w := u) (k := u.length)
  rw [← hul]
  exact this
 let inn : Nat → List Span := fun k => if i = 0 then (dayS p hs u k (acc i)).take k else dayS p hs u k (acc i)
 refine l48_2 hJ (fun k : Nat => n - k) (fun k F H2 => k ≤ n ∧ SameX [] H4 H2 ∧ (∃ v o, F.r 9 = v ∧ OwnX H2 2 ((inn k).flatMap rngC) (inn k).length v o ∧ (∀ j, o = some j → H4.length ≤ j) ∧ ∀ j, oe = some j → o ≠ some j) ∧ OwnX H2 1 ((endsR p hs u u.length).map vint) (endsR p hs u u.length).length ev oe ∧ F.ds = [] ∧ F.r 1 = hv ∧ F.r 3 = ptr p1 0 ∧ F.r 10 = va ∧ F.r 11 = vint (i : Nat) ∧ F.r 12 = ev ∧ F.r 15 = vint (k : Nat)) ?_ (s := 0)
  (.inl ⟨Nat.zero_le _, S.trans S5, ⟨v, o, r9, ?_, ho, fun j hj e => by have := (hoe j hj).1; have := hol j e; omega⟩, Oe, ds, r1, r3, r10, r11, rfl, rfl⟩)
 rotate_left
 ·have e0 : inn 0 = if i = 0 then [] else acc i := by
   dsimp only [inn]
   by_cases c : i = 0
   ·rw [if_pos c, if_pos c]
    rfl
   ·rw [if_neg c, if_neg c]
    rfl
  rw [e0]
  exact ownX_keep O S5 (by simp)
 clear ds r1 r3 r9 r10 r11
 rintro k F H2 ⟨hk, S2', ⟨v2, o2, r9, O2, ho2, hoo⟩, Oe2, ds, r1, r3, r10, r11, r12, r15⟩ okc2 hnc2
 rw [s48_2, r9, r11, r12, r15]
 have se := ownX_sli Oe2
 refine lenI se (lssI (cndI (fun hlt => ?_) fun hge => ?_))
 rotate_left
 ·have : k = n := by omega
  subst this
  refine addI (by omega) ⟨i + 1, by dsimp only; omega, .inl ⟨by omega, S2', ⟨v2, o2, r9, ?_, ho2⟩, ds, r1, r3, r10, by show vint _ = vint _; congr 1⟩⟩
  have e0 : inn k = if i + 1 = 0 then [] else acc (i + 1) := by
   dsimp only [inn]
   rw [show (if i + 1 = 0 then ([] : List Span) else acc (i + 1)) = acc (i + 1) from if_neg (by omega), ea]
   by_cases c : i = 0
   ·rw [if_pos c]
    exact List.take_of_length_le (by rw [dayS_len, al]; exact Nat.le_refl _)
   ·rw [if_neg c]
  rw [← e0]
  exact O2
 have hkn : k < n := by omega
 have he := ends_get k hkn
 have dk : (dayS p hs u k (acc i)).getD k (0, 0, false) = (acc i).getD k (0, 0, false) := by
  rw [dayS_get (by rw [al]; exact hkn), if_neg (Nat.lt_irrefl _)]
 generalize hE : (stdR p hs u (k + 1)).1 = e at he
 have dS : dayS p hs u (k + 1) (acc i) = (dayS p hs u k (acc i)).set k (widenR ((acc i).getD k (0, 0, false)) e) := by
  rw [dayS, dk, hE]
 have join : ∀ {F2 : RG} {H6 : List AObj} {L : List Span} {v3 : Value} {o3 : Option Nat}, SameX [] H4 H6 → k < L.length → (L.getD k (0, 0, false)).2.2 = true → L.set k (widenR (L.getD k (0, 0, false)) e) = inn (k + 1) → OwnX H6 2 (L.flatMap rngC) L.length v3 o3 → (∀ j, o3 = some j → H4.length ≤ j) → (∀ j, oe = some j → o3 ≠ some j) → OwnX H6 1 ((endsR p hs u u.length).map vint) (endsR p hs u u.length).length ev oe → F2.ds = [] → F2.r 1 = hv → F2.r 3 = ptr p1 0 → F2.r 9 = v3 → F2.r 10 = va → F2.r 11 = vint (i : Nat) → F2.r 12 = ev → F2.r 15 = vint (k : Nat) →
   W prog J 87 H.length 48 (subC [1, 1, 1, 1, 0, 1, 0, 0, 1, 0, 0, 1, 1, 0, 0, 1, 0, 0, 1] (codeOf f48)) F2 H6 (contX pl48 prog J 87 H.length 48 ct48 [1, 1, 1, 1, 0, 1, 0, 0, 1, 0, 0, 1, 1, 0, 0, 1, 0, 0, 1] (codeOf f48) [Nx H.length (fun i : Nat => (rainsB s).length - i) (fun i F H' => i ≤ (rainsB s).length ∧ SameX [] H4 H' ∧ (∃ v o, F.r 9 = v ∧ OwnX H' 2 ((if i = 0 then [] else acc i).flatMap rngC) (if i = 0 then [] else acc i).length v o ∧ ∀ j, o = some j → H4.length ≤ j) ∧ F.ds = [] ∧ F.r 1 = hv ∧ F.r 3 = ptr p1 0 ∧ F.r 10 = va ∧ F.r 11 = vint (i : Nat)) i, Nx H.length (fun k : Nat => n - k) (fun k F H2 => k ≤ n ∧ SameX [] H4 H2 ∧ (∃ v o, F.r 9 = v ∧ OwnX H2 2 ((inn k).flatMap rngC) (inn k).length v o ∧ (∀ j, o = some j → H4.length ≤ j) ∧ ∀ j, oe = some j → o ≠ some j) ∧ OwnX H2 1 ((endsR p hs u u.length).map vint) (endsR p hs u u.length).length ev oe ∧ F.ds = [] ∧ F.r 1 = hv ∧ F.r 3 = ptr p1 0 ∧ F.r 10 = va ∧ F.r 11 = vint (i : Nat) ∧ F.r 12 = ev ∧ F.r 15 = vint (k : Nat)) k] (RetQ prog [.tmp 6, .tmp 7] H.length K)) := by
  intro F2 H6 L v3 o3 SH hkL hfl hset O3 ho3 hoo3 Oe3 ds2 q1 q3 q9 q10 q11 q12 q15
  rw [s48_3, q9, q12, q15]
  have se3 := ownX_sli Oe3
  have sL : SliE H6 v3 2 rngC L := ownX_sli O3
  refine (rngAt sL hkL).1 fun t1 t2 => sliN se3 he fun t3 => minI ((rngAt sL hkL).2 fun t4 t5 => sliN se3 he fun t6 => maxI ?_)
  refine fillO (l := [vint (min (L.getD k (0, 0, false)).1 e)]) rfl rfl rfl (by decide) (fillO (l := [vint (max (L.getD k (0, 0, false)).2.1 e)]) rfl rfl rfl (by rw [wrAt_length]; decide) (fillI ?_))
  have ew : rngC (widenR (L.getD k (0, 0, false)) e) = [vint (min (L.getD k (0, 0, false)).1 e), vint (max (L.getD k (0, 0, false)).2.1 e)] := by
   unfold widenR
   rw [if_pos hfl]
   rfl
  show aIdx 2 v3 (vint (k : Nat)) fun v14 => aStore 2 v14 (.agg ⟨[vint (min (L.getD k (0, 0, false)).1 e), vint (max (L.getD k (0, 0, false)).2.1 e)]⟩) H6 _
  rw [← ew]
  refine setRng O3 hkL fun q7 H7 S7 O7 => ?_
  rw [hset] at O7
  refine addI (by omega) ⟨k + 1, by dsimp only; omega, .inl ⟨by omega, SH.thru S7 (fun y hy => .inr (ho3 y (by simpa using hy))), ⟨v3, o3, q9, O7, ho3, hoo3⟩, ownX_keep Oe3 S7 (fun j hj hm => hoo3 j hj (by simpa using hm)), ds2, q1, q3, q10, q11, q12, by show vint _ = vint _; congr 1⟩⟩
 by_cases c0 : i = 0
 ·subst c0
  refine eqlI (cndI (fun _ => ?_) fun h => absurd rfl h)
  obtain ⟨h1, h2, ⟨hn0, _⟩ | ⟨be, ce, sze, rfl, rfl, hbe, hce⟩⟩ := id Oe2
  ·omega
  have le : ∀ {K2 : Value → Value → Prop}, (∀ p, K2 (ptr be p) (vint e)) → aIdx 1 (.slice (some ⟨be, 0, none⟩) (endsR p hs u u.length).length ce) (vint (k : Nat)) fun p => aLoad false 1 p H2 (K2 p) := fun {K2} hk2 => idxI ⟨by omega, by omega⟩ (ldI (v := vint e) hbe (by rw [Int.toNat_natCast, Nat.mul_one, Nat.zero_add, List.getElem?_map, he]; rfl) rfl (hk2 _))
  have bl := lt_of_get hbe
  refine ⟨[be], le fun t1 => ⟨by simp [RdOk, ptrBlk], le fun t2 => ⟨by simp [RdOk, ptrBlk], ?_⟩⟩⟩
  refine fillO (l := [vint e]) rfl rfl rfl (by decide) (fillO (l := [vint e]) rfl rfl rfl (by rw [wrAt_length]; decide) (fillI ⟨by decide, ?_⟩))
  refine fillO (l := rngC (e, e, true)) rfl rfl rfl (by decide) (fillI (qNew fun H7 p7 e7 S7 c7 l7 => ⟨sbOne S7 bl (by simp), by decide, ?_⟩))
  have c7 : H7[p7]? = some (.cells (rngC (e, e, true)) true 0) := c7
  have hin : inn k = (dayS p hs u k (acc 0)).take k := rfl
  have hil : (inn k).length = k := by
   rw [hin, List.length_take, dayS_len, al]
   omega
  have bo : be ∉ o2.toList := fun hm => hoo be rfl (by simpa using hm)
  refine ownX_more (ownX_keep O2 S7 (by simp)) (by decide) (by omega) (e := rngC (e, e, true)) ⟨_, _, rfl, ⟨rfl, rfl⟩, .inr ⟨p7, 0, rfl, .inr ⟨_, _, _, c7, rfl⟩⟩⟩ fun v' H8 p8 e8 O8 S8 => ⟨?_, hold.2 ?_⟩
  ·exact sbOne ((S7.weak0 (Y := o2.toList)).trans S8) bl bo
  have hS7 := S7.1
  have hS2 := S2'.1
  have O8' : OwnX H8 2 ((inn k ++ [(e, e, true)]).flatMap rngC) (inn k ++ [(e, e, true)]).length v' (some p8) := by
   rw [List.flatMap_append, List.length_append]
   exact O8
  have gk : (inn k ++ [(e, e, true)])[k]? = some (e, e, true) := by
   rw [List.getElem?_append_right (by omega), hil, Nat.sub_self]
   rfl
  have gd : (inn k ++ [(e, e, true)]).getD k (0, 0, false) = (e, e, true) := by
   rw [List.getD_eq_getElem?_getD, gk]
   rfl
  have we : widenR (e, e, true) e = (e, e, true) := by simp [widenR]
  refine join ((S2'.trans S7).thru S8 (fun y hy => .inr (ho2 y (by simpa using hy)))) (by rw [List.length_append, hil]; simp) (by rw [gd]) ?_ O8' (fun j hj => by cases hj; omega) (fun j hj => by cases hj; simp; omega) (ownX_keep (ownX_keep Oe2 S7 (by simp)) S8 (fun j hj => by cases hj; exact bo)) ds r1 r3 rfl r10 r11 r12 r15
  rw [gd, we, setSame gk]
  show inn k ++ _ = (dayS p hs u (k + 1) (acc 0)).take (k + 1)
  have za : (acc 0).getD k (0, 0, false) = (0, 0, false) := by
   show (List.replicate n ((0, 0, false) : Span)).getD k (0, 0, false) = _
   rw [List.getD_eq_getElem?_getD, List.getElem?_replicate, if_pos hkn]
   rfl
  rw [dS, za, takeSet _ _ (by rw [dayS_len, al]; exact hkn)]
  rfl
 ·have hin : inn k = dayS p hs u k (acc i) := if_neg c0
  have hin2 : inn (k + 1) = dayS p hs u (k + 1) (acc i) := if_neg c0
  refine eqlI (cndI (fun h => absurd h (by omega)) fun _ => hold.2 ?_)
  refine join S2' (by rw [hin, dayS_len, al]; exact hkn) (by rw [hin, dk]; exact flag i (by omega) k hkn) (by rw [hin, hin2, dS, dk]) O2 ho2 hoo Oe2 ds r1 r3 r9 r10 r11 r12 r15
end
theorem rdyF_skip {q : Nat → Bool} : ∀ (j m d : Nat), (∀ k, d ≤ k → k < d + j → q k = false) → rdyF q (m + j) d = rdyF q m (d + j)
 | 0, m, d, _ => rfl
 | j + 1, m, d, h => by
  rw [← Nat.add_assoc]
  conv => lhs; unfold rdyF
  rw [if_neg (by rw [h d (Nat.le_refl _) (by omega)]; decide), rdyF_skip j m (d + 1) fun k h1 h2 => h k (by omega) (by omega), show d + 1 + j = d + (j + 1) by omega]
section
variable {main : Bool} {J : JT} {h H : List AObj} {K : Value → List AObj → Prop}
theorem good64 (hJ : Closed prog main J) {p : Pas} {s : SkyR} {hs : List Int} {hv : Value} {fr want : Int} (sh : Sli H hv 1 hs.length (hs.map vint)) (hl : hs.length < 1000000) (hK : ∀ H', SameX [] H H' → K (.tuple ⟨[vint (agnV p hs s fr want).1, vint (agnV p hs s fr want).2]⟩) H') : Good prog J 64 [.agg ⟨p.cells⟩, hv, .agg ⟨s.cells⟩, vint fr, vint want] H K := by
 refine g64 hJ fun ok => ?_
 rw [e64]
 refine qBox (l := p.cells) rfl fun H1 p3 e1 S1 c3 l1 => qBox (l := s.cells) rfl fun H2 p5 e2 S2 c5 l2 => ?_
 have c32 := S2.get c3 (by simp)
 have T2 := S1.trans S2
 have fin : ∀ {d e : Int} {H' : List AObj}, agnV p hs s fr want = (d, e) → SameX [] H H' → retL H.length K [] [vint d, vint e] H' := fun {d e H'} he S => by
  have := hK H' S
  rw [he] at this
  exact retL_same (nu2 (by simp [unk]) (by simp [unk])) this
 refine load_part (c := p.cells) c32 (by simp [Pas.cells]) rfl rfl (load_part (c := s.cells) c5 (by simp [SkyR.cells]) rfl rfl ?_)
 refine good48 hJ (T2.sli sh (by simp)) hl (fun h0 H3 S3 => ext0 (ext1 (neqI (cndI (fun h1 => fin (by unfold agnV; rw [if_pos h1]) (T2.trans S3)) fun h1 => absurd (Classical.not_not.1 h1) h0)))) fun h0 H3 sv S3 hsE => ext0 (ext1 (neqI (cndI (fun h1 => absurd rfl h1) fun _ => ?_)))
 obtain ⟨f, g, hh, hlen⟩ := ckdE_zero h0
 obtain ⟨g1, g2, g3⟩ := id g
 have T3 := T2.trans S3
 have h1 : ¬ ckdE p hs s ≠ 0 := not_not_intro h0
 refine offI (ldI (v := vint s.days) (S3.get c5 (by simp)) rfl rfl (subI (by omega) (good82 hJ (notI (cndN (fun h2 => fin (by unfold agnV; rw [if_neg h1, if_pos h2]) T3) fun h2 => ?_)))))
 refine good82 hJ (notI (cndN (fun h3 => fin (by unfold agnV; rw [if_neg h1, if_neg (not_not_intro h2), if_pos h3]) T3) fun h3 => ?_))
 have hsl := spans_len (p := p) (hs := hs) (s := s)
 obtain ⟨frn, rfl⟩ := Int.eq_ofNat_of_zero_le h2.1
 have hv0 : agnV p hs s (frn : Nat) want = rdyF (agnQ p hs s (frn : Nat) want) (s.days.toNat - frn) frn := by
  unfold agnV
  rw [if_neg h1, if_neg (not_not_intro h2), if_neg (not_not_intro h3)]
  have := rdyF_skip (q := agnQ p hs s (frn : Nat) want) frn (s.days.toNat - frn) 0 fun k _ hk => by
   unfold agnQ
   rw [decide_eq_false (by omega), Bool.false_and]
  rw [Nat.zero_add, show s.days.toNat - frn + frn = s.days.toNat by omega] at this
  exact this
 refine l64_1 hJ (fun k : Nat => s.days.toNat - k) (fun k F H' => frn ≤ k ∧ k ≤ s.days.toNat ∧ SameX [] H3 H' ∧ agnV p hs s (frn : Nat) want = rdyF (agnQ p hs s (frn : Nat) want) (s.days.toNat - k) k ∧ F.ds = [] ∧ F.r 4 = vint want ∧ F.r 12 = sv ∧ F.r 14 = vint (k : Nat)) ?_ (s := frn)
  (.inl ⟨Nat.le_refl _, by omega, SameX.refl, hv0, rfl, rfl, rfl, rfl⟩)
 rintro k F H' ⟨hf, hk, S, hq, ds, r4, r12, r14⟩ okc hnc
 rw [s64_1, r4, r12, r14, ds]
 refine lenI (S.sli hsE (by simp)) (lssI (cndI (fun hlt => ?_) fun hge => ?_))
 rotate_left
 ·have e : s.days.toNat - k = 0 := by omega
  rw [e] at hq
  exact fin hq (T3.trans S)
 have hkl : k < (spansR p hs s).length := by omega
 obtain ⟨b, oo, cs, wr, sz, hidx, hb, hos, htk, hkn⟩ := sliE_elem (s := 2) (fun _ => rfl) (by decide) (S.sli hsE (by simp)) hkl
 obtain ⟨m, hm⟩ : ∃ m, s.days.toNat - k = m + 1 := ⟨s.days.toNat - k - 1, by omega⟩
 have hm' : s.days.toNat - (k + 1) = m := by omega
 rw [hm] at hq
 have hqk : agnQ p hs s (frn : Nat) want k = decide ((spansR p hs s)[k].1 ≥ want) := by
  unfold agnQ
  rw [List.getD_eq_getElem?_getD, List.getElem?_eq_getElem hkl, decide_eq_true (by omega : (k : Int) ≥ (frn : Nat)), Bool.true_and]
  rfl
 generalize (spansR p hs s)[k] = x at htk hqk
 have hcell : cs[oo]? = some (vint x.1) := by
  have : ((cs.drop oo).take 2)[0]? = some (vint x.1) := by rw [htk]; rfl
  rwa [List.getElem?_take_of_lt (by decide), List.getElem?_drop, Nat.add_zero] at this
 refine hidx _ (offI (ldI (v := vint x.1) hb hcell rfl (geqI (cndI (fun h4 => fin ?_ (T3.trans S)) fun h4 => ?_))))
 ·rw [hq]
  unfold rdyF
  rw [if_pos (by rw [hqk]; exact decide_eq_true h4)]
 ·refine addI (by omega) ⟨k + 1, by dsimp only; omega, .inl ⟨by omega, by omega, S, ?_, ds, r4, r12, by show vint _ = vint _; congr 1⟩⟩
  rw [hq, hm']
  conv => lhs; unfold rdyF
  rw [if_neg (by rw [hqk, decide_eq_false h4]; decide)]
theorem good66 (hJ : Closed prog main J) {p : Pas} {s : SkyR} {n dy fr : Int} (hK : ∀ H', SameX [] H H' → K (.tuple ⟨[vint (rdyV p s n dy fr).1, vint (rdyV p s n dy fr).2]⟩) H') : Good prog J 66 [.agg ⟨p.cells⟩, .agg ⟨s.cells⟩, vint n, vint dy, vint fr] H K := by
 refine g66 hJ fun ok => ?_
 rw [e66]
 have e : rdyV p s n dy fr = if pasE p ≠ 0 then (0, pasE p) else if skyE s ≠ 0 then (0, skyE s) else if ¬ ((0 ≤ n ∧ n ≤ 40) ∧ (1 ≤ dy ∧ dy ≤ s.days)) then (0, 1) else if ¬ (0 ≤ fr ∧ fr ≤ s.days - 1) then (0, 3) else
   rdyF (fun d => stayB p s n (d : Nat) dy) (s.days + 1 - (fr + dy)).toNat fr.toNat := by
  unfold rdyV fst2
  by_cases c : pasE p ≠ 0
  ·rw [if_pos c, if_pos c, if_pos c]
  ·rw [if_neg c, if_neg c]
 refine qBox (l := p.cells) rfl fun H1 p1 e1 S1 c1 l1 => qBox (l := s.cells) rfl fun H2 p2 e2 S2 c2 l2 => ?_
 have T := S1.trans S2
 have c12 := S2.get c1 (by simp)
 have fin : ∀ {d e : Int} {H' : List AObj}, rdyV p s n dy fr = (d, e) → SameX [] H2 H' → retL H.length K [] [vint d, vint e] H' := fun {d e H'} he S => by
  have := hK H' (T.trans S)
  rw [he] at this
  exact retL_same (nu2 (by simp [unk]) (by simp [unk])) this
 refine load_part (c := p.cells) c12 (by simp [Pas.cells]) rfl rfl (good37 hJ (neqI (cndI (fun h1 => fin (by rw [e, if_pos h1]) SameX.refl) fun h1 => ?_)))
 refine load_part (c := s.cells) c2 (by simp [SkyR.cells]) rfl rfl (good81 hJ (neqI (cndI (fun h2 => fin (by rw [e, if_neg h1, if_pos h2]) SameX.refl) fun h2 => ?_)))
 have f : pasOk p := by
  unfold pasE at h1
  split at h1
  ·assumption
  ·exact absurd (by decide) h1
 have g : skyOk s := by
  unfold skyE at h2
  split at h2
  ·assumption
  ·exact absurd (by decide) h2
 obtain ⟨g1, g2, g3⟩ := id g
 have tail : ∀ {F : RG} {z : Bool}, F.ds = [] → F.r 2 = vint n → F.r 3 = vint dy → F.r 4 = vint fr → F.r 5 = ptr p1 0 → F.r 6 = ptr p2 0 → F.r 34 = .bool z → (z = true ↔ ¬ ((0 ≤ n ∧ n ≤ 40) ∧ (1 ≤ dy ∧ dy ≤ s.days))) →
   W prog J 57 H.length 66 (subC [1, 1, 1, 0, 1] (codeOf f66)) F H2 (contX pl66 prog J 57 H.length 66 ct66 [1, 1, 1, 0, 1] (codeOf f66) [] (RetQ prog [.tmp 10, .tmp 11] H.length K)) := by
  intro F z ds r2 r3 r4 r5 r6 r34 hz
  rw [s66_1, r4, r6, r34, ds]
  refine cndB (fun hb => fin (by rw [e, if_neg h1, if_neg h2, if_pos (hz.1 hb)]) SameX.refl) fun hb => ?_
  have h3 : ¬ ¬ ((0 ≤ n ∧ n ≤ 40) ∧ (1 ≤ dy ∧ dy ≤ s.days)) := fun h => by
   rw [hz.2 h] at hb
   cases hb
  refine offI (ldI (v := vint s.days) c2 rfl rfl (subI (by omega) (good82 hJ (notI (cndN (fun h4 => fin (by rw [e, if_neg h1, if_neg h2, if_neg h3, if_pos h4]) SameX.refl) fun h4 => ?_)))))
  obtain ⟨q1, q2⟩ := Classical.not_not.1 h3
  obtain ⟨frn, rfl⟩ := Int.eq_ofNat_of_zero_le h4.1
  obtain ⟨dyn, rfl⟩ := Int.eq_ofNat_of_zero_le (by omega : 0 ≤ dy)
  have hv : rdyV p s n (dyn : Nat) (frn : Nat) = rdyF (fun d => stayB p s n (d : Nat) (dyn : Nat)) (s.days + 1 - ((frn : Int) + dyn)).toNat frn := by
   rw [e, if_neg h1, if_neg h2, if_neg h3, if_neg (not_not_intro h4), Int.toNat_natCast]
  refine l66_2 hJ (fun d : Nat => (s.days + 1 - ((d : Int) + dyn)).toNat) (fun d F H' => d ≤ 8 ∧ SameX [] H2 H' ∧ rdyV p s n (dyn : Nat) (frn : Nat) = rdyF (fun d => stayB p s n (d : Nat) (dyn : Nat)) (s.days + 1 - ((d : Int) + dyn)).toNat d ∧ F.ds = [] ∧ F.r 2 = vint n ∧ F.r 3 = vint (dyn : Nat) ∧ F.r 5 = ptr p1 0 ∧ F.r 6 = ptr p2 0 ∧ F.r 14 = vint (d : Nat)) ?_ (s := frn)
   (.inl ⟨by omega, SameX.refl, hv, ds, r2, r3, r5, r6, rfl⟩)
  rintro d F H' ⟨hd, S, hq, ds, r2, r3, r5, r6, r14⟩ okc hnc
  rw [s66_2, r2, r3, r5, r6, r14, ds]
  refine addI (by omega) (offI (ldI (v := vint s.days) (S.get c2 (by simp)) rfl rfl (leqI (cndI (fun hle => ?_) fun hgt => ?_))))
  ·refine load_part (c := p.cells) (S.get c12 (by simp)) (by simp [Pas.cells]) rfl rfl (load_part (c := s.cells) (S.get c2 (by simp)) (by simp [SkyR.cells]) rfl rfl ?_)
   obtain ⟨m, hm⟩ : ∃ m, (s.days + 1 - ((d : Int) + dyn)).toNat = m + 1 := ⟨(s.days - ((d : Int) + dyn)).toNat, by omega⟩
   rw [hm] at hq
   refine good95 hJ f g q1 (fr := d) (dy := dyn) (by omega) fun H4 S4 => cndB (fun hb => fin ?_ (S.trans S4)) fun hb => ?_
   ·rw [hq]
    unfold rdyF
    rw [if_pos hb]
   ·refine addI (by omega) ⟨d + 1, by dsimp only; omega, .inl ⟨by omega, S.trans S4, ?_, ds, r2, r3, r5, r6, by show vint _ = vint _; congr 1⟩⟩
    have e : (s.days + 1 - (((d + 1 : Nat) : Int) + dyn)).toNat = m := by omega
    rw [hq, e]
    conv => lhs; unfold rdyF
    rw [if_neg (by rw [hb]; decide)]
  ·refine fin ?_ S
   have e : (s.days + 1 - ((d : Int) + dyn)).toNat = 0 := by omega
   rw [hq, e]
   rfl
 refine good82 hJ (notI (cndN (fun h3 => hold.2 (tail (z := true) rfl rfl rfl rfl rfl rfl rfl ⟨fun _ h => h3 h.1, fun _ => rfl⟩)) fun h3 => ?_))
 refine offI (ldI (v := vint s.days) c2 rfl rfl (good82 hJ (notI (hold.2 (tail (z := !decide (1 ≤ dy ∧ dy ≤ s.days)) rfl rfl rfl rfl rfl rfl rfl ?_)))))
 simp only [Bool.not_eq_true', decide_eq_false_iff_not]
 exact ⟨fun h4 h5 => h4 h5.2, fun h4 h5 => h4 ⟨h3, h5⟩⟩
end
structure Mwt (F : RG) (p20 p21 p22 p23 p24 p25 p26 i : Nat) : Prop where
 ds : F.ds = []
 r20 : F.r 20 = .slice (some ⟨p20, 0, none⟩) 3 3
 r21 : F.r 21 = .slice (some ⟨p21, 0, none⟩) 3 3
 r22 : F.r 22 = .slice (some ⟨p22, 0, none⟩) 3 3
 r23 : F.r 23 = .slice (some ⟨p23, 0, none⟩) 3 3
 r24 : F.r 24 = .slice (some ⟨p24, 0, none⟩) 3 3
 r25 : F.r 25 = .slice (some ⟨p25, 0, none⟩) 3 3
 r26 : F.r 26 = .slice (some ⟨p26, 0, none⟩) 3 3
 r27 : F.r 27 = vint (i : Nat)
structure Lwt (H : List AObj) (p20 p21 p22 p23 p24 p25 p26 i : Nat) (x : Pas) (t : SkyR) (v : Value) (y : List Int) (fr want many days : Int) : Prop where
 x : ∀ {K2 : Value → Value → Prop}, (∀ q, K2 q (.agg ⟨x.cells⟩)) → aIdx 6 (.slice (some ⟨p20, 0, none⟩) 3 3) (vint (i : Nat)) fun q => aLoad true 6 q H (K2 q)
 w : ∀ {K2 : Value → Value → Prop}, (∀ q, K2 q v) → aIdx 1 (.slice (some ⟨p21, 0, none⟩) 3 3) (vint (i : Nat)) fun q => aLoad false 1 q H (K2 q)
 t : ∀ {K2 : Value → Value → Prop}, (∀ q, K2 q (.agg ⟨t.cells⟩)) → aIdx 3 (.slice (some ⟨p22, 0, none⟩) 3 3) (vint (i : Nat)) fun q => aLoad true 3 q H (K2 q)
 fr : ∀ {K2 : Value → Value → Prop}, (∀ q, K2 q (vint fr)) → aIdx 1 (.slice (some ⟨p23, 0, none⟩) 3 3) (vint (i : Nat)) fun q => aLoad false 1 q H (K2 q)
 wn : ∀ {K2 : Value → Value → Prop}, (∀ q, K2 q (vint want)) → aIdx 1 (.slice (some ⟨p24, 0, none⟩) 3 3) (vint (i : Nat)) fun q => aLoad false 1 q H (K2 q)
 mn : ∀ {K2 : Value → Value → Prop}, (∀ q, K2 q (vint many)) → aIdx 1 (.slice (some ⟨p25, 0, none⟩) 3 3) (vint (i : Nat)) fun q => aLoad false 1 q H (K2 q)
 dy : ∀ {K2 : Value → Value → Prop}, (∀ q, K2 q (vint days)) → aIdx 1 (.slice (some ⟨p26, 0, none⟩) 3 3) (vint (i : Nat)) fun q => aLoad false 1 q H (K2 q)
 sl : Sli H v 1 y.length (y.map vint)
 l : y.length < 1000
section
variable {main : Bool} {J : JT} {n0 : Nat} {h H : List AObj} {K : Value → List AObj → Prop}
variable {F : RG} {nx0 : RG → List AObj → Prop} {p20 p21 p22 p23 p24 p25 p26 i : Nat} {x : Pas} {t : SkyR} {v own : Value} {y : List Int} {fr want many days : Int}
theorem val3 {vs : List Value} {v : Value} {p i : Nat} {KI : Value → Value → Prop} (hb : H[p]? = some (.cells vs true 0)) (hi : i < 3) (hv : vs[i]? = some v) (hk1 : kn1 v = true) (hk : ∀ o, KI (ptr p o) v) :
  aIdx 1 (.slice (some ⟨p, 0, none⟩) 3 3) (vint (i : Nat)) fun v => aLoad false 1 v H (KI v) := by
 refine idxI ⟨by omega, by omega⟩ ?_
 rw [Int.toNat_natCast, Nat.zero_add, Nat.mul_one]
 exact ldI hb hv hk1 (hk _)
theorem wt6 (M : Mwt F p20 p21 p22 p23 p24 p25 p26 i) (hi : i < 1000) (r219 : F.r 219 = .bool false) (hn : ∀ F', Mwt F' p20 p21 p22 p23 p24 p25 p26 (i + 1) → nx0 F' H) :
  W prog J 221 n0 17 (subC [1, 1, 1, 1, 1, 1, 0, 1, 0, 0, 1, 0, 0, 1, 1, 1, 1, 1, 1] (codeOf f17)) F H (contX pl17t prog J 221 n0 17 ct17t [1, 1, 1, 1, 1, 1, 0, 1, 0, 0, 1, 0, 0, 1, 1, 1, 1, 1, 1] (codeOf f17) [nx0] (RetQ prog [.tmp 16] n0 K)) := by
 rw [s17t_6, M.r27, r219]
 exact cnd_false.2 (addI (by omega) (hn _ ⟨M.ds, M.r20, M.r21, M.r22, M.r23, M.r24, M.r25, M.r26, by show vint _ = vint _; congr 1⟩))
theorem wt5 (hJ : Closed prog main J) {a b c d : Int} (M : Mwt F p20 p21 p22 p23 p24 p25 p26 i) (A : Lwt H p20 p21 p22 p23 p24 p25 p26 i x t v y fr want many days) (hi : i < 1000) (so : Sli H own 1 y.length (y.map vint)) (r28 : F.r 28 = own) (r29 : F.r 29 = vint a) (r30 : F.r 30 = vint b) (r31 : F.r 31 = vint a) (r32 : F.r 32 = vint b) (r33 : F.r 33 = vint c) (r34 : F.r 34 = vint d) (r35 : F.r 35 = vint c) (r36 : F.r 36 = vint d) (hn : ∀ F', Mwt F' p20 p21 p22 p23 p24 p25 p26 (i + 1) → nx0 F' H) :
  W prog J 221 n0 17 (subC [1, 1, 1, 1, 1, 1, 0, 1, 0, 0, 1, 0, 0, 1, 1, 1, 1, 1] (codeOf f17)) F H (contX pl17t prog J 221 n0 17 ct17t [1, 1, 1, 1, 1, 1, 0, 1, 0, 0, 1, 0, 0, 1, 1, 1, 1, 1] (codeOf f17) [nx0] (RetQ prog [.tmp 16] n0 K)) := by
 rw [s17t_5, M.r21, M.r27, r28, r29, r30, r31, r32, r33, r34, r35, r36]
 have al := A.l
 refine neqI (cndI (fun h => absurd rfl h) fun _ => neqI (cndI (fun h => absurd rfl h) fun _ => neqI (cndI (fun h => absurd rfl h) fun _ => neqI (cndI (fun h => absurd rfl h) fun _ => A.w fun q => ?_))))
 refine good29 hJ so A.sl (by omega) (notI (hold.2 (wt6 ⟨M.ds, M.r20, M.r21, M.r22, M.r23, M.r24, M.r25, M.r26, M.r27⟩ hi ?_ hn)))
 show Value.bool (!decide (y = y)) = .bool false
 rw [decide_eq_true rfl]
 rfl
theorem wt4 (hJ : Closed prog main J) {a b : Int} (M : Mwt F p20 p21 p22 p23 p24 p25 p26 i) (A : ∀ H', SameX [] H H' → Lwt H' p20 p21 p22 p23 p24 p25 p26 i x t v y fr want many days) (hi : i < 1000) (so : Sli H own 1 y.length (y.map vint)) (r28 : F.r 28 = own) (r29 : F.r 29 = vint a) (r30 : F.r 30 = vint b) (r31 : F.r 31 = vint a) (r32 : F.r 32 = vint b) (r33 : F.r 33 = vint (rdyV x t many days fr).1) (r34 : F.r 34 = vint (rdyV x t many days fr).2) (hn : ∀ F' H', SameX [] H H' → Mwt F' p20 p21 p22 p23 p24 p25 p26 (i + 1) → nx0 F' H') :
  W prog J 221 n0 17 (subC [1, 1, 1, 1, 1, 1, 0, 1, 0, 0, 1, 0, 0, 1, 1, 1, 1] (codeOf f17)) F H (contX pl17t prog J 221 n0 17 ct17t [1, 1, 1, 1, 1, 1, 0, 1, 0, 0, 1, 0, 0, 1, 1, 1, 1] (codeOf f17) [nx0] (RetQ prog [.tmp 16] n0 K)) := by
 rw [s17t_4, M.r20, M.r22, M.r23, M.r25, M.r26, M.r27]
 have A0 := A H SameX.refl
 refine A0.x fun q1 => A0.t fun q2 => A0.mn fun q3 => A0.dy fun q4 => A0.fr fun q5 => good66 hJ fun H1 S1 => ext0 (ext1 (hold.2 ?_))
 exact wt5 hJ ⟨M.ds, M.r20, M.r21, M.r22, M.r23, M.r24, M.r25, M.r26, M.r27⟩ (A H1 S1) hi (S1.sli so (by simp)) r28 r29 r30 r31 r32 r33 r34 rfl rfl (hn := fun F' M' => hn F' H1 S1 M')
theorem wt3 (hJ : Closed prog main J) (M : Mwt F p20 p21 p22 p23 p24 p25 p26 i) (A : ∀ H', SameX [] H H' → Lwt H' p20 p21 p22 p23 p24 p25 p26 i x t v y fr want many days) (hi : i < 1000) (so : Sli H own 1 y.length (y.map vint)) (r28 : F.r 28 = own) (r29 : F.r 29 = vint (agnV x y t fr want).1) (r30 : F.r 30 = vint (agnV x y t fr want).2) (hn : ∀ F' H', SameX [] H H' → Mwt F' p20 p21 p22 p23 p24 p25 p26 (i + 1) → nx0 F' H') :
  W prog J 221 n0 17 (subC [1, 1, 1, 1, 1, 1, 0, 1, 0, 0, 1, 0, 0, 1, 1] (codeOf f17)) F H (contX pl17t prog J 221 n0 17 ct17t [1, 1, 1, 1, 1, 1, 0, 1, 0, 0, 1, 0, 0, 1, 1] (codeOf f17) [nx0] (RetQ prog [.tmp 16] n0 K)) := by
 rw [s17t_3, M.r20, M.r21, M.r22, M.r23, M.r24, M.r25, M.r26, M.r27]
 have A0 := A H SameX.refl
 have al := A0.l
 refine A0.x fun q1 => A0.w fun q2 => A0.t fun q3 => A0.fr fun q4 => A0.wn fun q5 => good64 hJ (hs := y) A0.sl (by omega) fun H1 S1 => ext0 (ext1 ?_)
 have A1 := A H1 S1
 refine A1.x fun q1 => A1.t fun q2 => A1.mn fun q3 => A1.dy fun q4 => A1.fr fun q5 => good65 hJ fun H2 S2 => ext0 (ext1 (hold.2 ?_))
 have S12 := S1.trans S2
 exact wt4 hJ ⟨M.ds, M.r20, M.r21, M.r22, M.r23, M.r24, M.r25, M.r26, M.r27⟩ (fun H6 S6 => A H6 (S12.trans S6)) hi (S12.sli so (by simp)) r28 r29 r30 rfl rfl rfl rfl fun F' H6 S6 M' => hn F' H6 (S12.trans S6) M'
end
section
variable {W0 : World} {Post : Value → World → Prop} {h H H0 : List AObj} {K : Value → List AObj → Prop} {n0 : Nat}
theorem loop17 {f : RG} {p20 p21 p22 p23 p24 p25 p26 : Nat} {p q : Pas} {s t : SkyR} {hv u : Value} {ys zs : List Int} {fr want many days y23 y24 y25 y26 : Int} (kh : kn1 hv = true) (ku : kn1 u = true) (sy : Sli H0 hv 1 ys.length (ys.map vint)) (sz : Sli H0 u 1 zs.length (zs.map vint)) (ly : ys.length < 1000) (lz : zs.length < 1000)
    (c20 : H0[p20]? = some (.cells ([p, q, q].flatMap Pas.cells) true 0)) (c21 : H0[p21]? = some (.cells [hv, u, hv] true 0)) (c22 : H0[p22]? = some (.cells ([s, t, t].flatMap SkyR.cells) true 0)) (c23 : H0[p23]? = some (.cells ([fr, y23, fr].map vint) true 0)) (c24 : H0[p24]? = some (.cells ([want, y24, want].map vint) true 0)) (c25 : H0[p25]? = some (.cells ([many, y25, many].map vint) true 0)) (c26 : H0[p26]? = some (.cells ([days, y26, days].map vint) true 0))
    (M0 : f.ds = []) (r20 : f.r 20 = .slice (some ⟨p20, 0, none⟩) 3 3) (r21 : f.r 21 = .slice (some ⟨p21, 0, none⟩) 3 3) (r22 : f.r 22 = .slice (some ⟨p22, 0, none⟩) 3 3) (r23 : f.r 23 = .slice (some ⟨p23, 0, none⟩) 3 3) (r24 : f.r 24 = .slice (some ⟨p24, 0, none⟩) 3 3) (r25 : f.r 25 = .slice (some ⟨p25, 0, none⟩) 3 3) (r26 : f.r 26 = .slice (some ⟨p26, 0, none⟩) 3 3) (hK : ∀ h', K (.bool true) h') :
    Sem (J2 prog W0 Post) 221 n0 17 (subC [1, 1, 1, 1, 1, 1] (codeOf f17)) f H0 (RetQ prog [.tmp 16] n0 K) := by
  have hJ := J2.closed prog W0 Post
  have las : ∀ (i : Nat), i < 3 → ∃ x t' v y a b c d, ∀ H2, SameX [] H0 H2 → Lwt H2 p20 p21 p22 p23 p24 p25 p26 i x t' v y a b c d := fun i hi => by
    have go : ∀ (v : Value) (y : List Int), ([hv, u, hv] : List Value)[i]? = some v → kn1 v = true → Sli H0 v 1 y.length (y.map vint) → y.length < 1000 → ∃ x t' v y a b c d, ∀ H2, SameX [] H0 H2 → Lwt H2 p20 p21 p22 p23 p24 p25 p26 i x t' v y a b c d := fun v y hv kv sv ly => ⟨[p, q, q][i]'hi, [s, t, t][i]'hi, v, y, [fr, y23, fr][i]'hi, [want, y24, want][i]'hi, [many, y25, many][i]'hi, [days, y26, days][i]'hi, fun H2 S =>
      ⟨fun hk => rec3 (enc := Pas.cells) (fun _ => rfl) (fun _ => rfl) (S.get c20 (by simp)) rfl hi fun _ => hk _, fun hk => val3 (S.get c21 (by simp)) hi hv kv fun _ => hk _, fun hk => rec3 (enc := SkyR.cells) (fun _ => rfl) (fun _ => rfl) (S.get c22 (by simp)) rfl hi fun _ => hk _,
       fun hk => int3 (S.get c23 (by simp)) rfl hi fun _ => hk _, fun hk => int3 (S.get c24 (by simp)) rfl hi fun _ => hk _, fun hk => int3 (S.get c25 (by simp)) rfl hi fun _ => hk _, fun hk => int3 (S.get c26 (by simp)) rfl hi fun _ => hk _, S.sli sv (by simp), ly⟩⟩
    match i, hi with
    | 0, _ => exact go hv ys rfl kh sy ly
    | 1, _ => exact go u zs rfl ku sz lz
    | 2, _ => exact go hv ys rfl kh sy ly
  refine W_sound hJ mixed _ ?_
  have e := s17t_1 (J := J2 prog W0 Post) (n0 := n0) (K := K) (f := f) (h := H0)
  refine e.mpr ?_
  refine l17t_2 hJ (fun i : Nat => 3 - i) (fun i F H => SameX [] H0 H ∧ i ≤ 3 ∧ Mwt F p20 p21 p22 p23 p24 p25 p26 i) ?_ (s := 0)
    (.inl ⟨SameX.refl, by omega, ⟨M0, r20, r21, r22, r23, r24, r25, r26, rfl⟩⟩)
  rintro i F H ⟨S, hi, M⟩ ok' hn'
  rw [s17t_2, M.r20, M.r21, M.r22, M.r23, M.r24, M.r27, M.ds, lenS]
  refine lssI (cndI (fun hlt => ?_) fun hge => good21 fun H3 _ => retL_same (by simp [unk]) (hK _))
  have hi3 : i < 3 := by omega
  obtain ⟨x, t', v, y, a, b, c, d, las⟩ := las i hi3
  have A2 := las H S
  have al := A2.l
  refine A2.w fun q1 => good47 hJ (xs := y) A2.sl (by omega) fun cc sz => ?_
  generalize hHn : H ++ [AObj.cells (y.map vint) true sz] = Hn
  have Sn : SameX [] H Hn := by rw [← hHn]; exact SameX.refl.app
  have hon : Hn[H.length]? = some (.cells (y.map vint) true sz) := by rw [← hHn]; simp
  have so : Sli Hn (.slice (some ⟨H.length, 0, none⟩) y.length cc) 1 y.length (y.map vint) := sli_new (wr := true) (sz := sz) hon (by simp) (kn_ints _)
  have Tn := S.trans Sn
  have An := las Hn Tn
  refine An.x fun q2 => An.t fun q3 => An.fr fun q4 => An.wn fun q5 => good63 hJ (hs := y) so (by omega) fun H3 S3 => ext0 (ext1 (hold.2 ?_))
  have T3 := Tn.trans S3
  exact wt3 hJ ⟨M.ds, M.r20, M.r21, M.r22, M.r23, M.r24, M.r25, M.r26, M.r27⟩ (fun H6 S6 => las H6 (T3.trans S6)) (by omega) (S3.sli so (by simp)) rfl rfl rfl fun F' H6 S6 M' => ⟨i + 1, by dsimp only; omega, .inl ⟨T3.trans S6, by omega, M'⟩⟩
theorem walk17 {p : Pas} {s : SkyR} {fr want many days : Int} {hv nv : Value} {ys ns : List Int} (sy : Sli h hv 1 ys.length (ys.map vint)) (hly : ys.length < 4611686018427387904) (sn : Sli h nv 1 ns.length (ns.map vint)) (hln : ns.length < 4611686018427387904) (hK : ∀ h', K (.bool true) h') :
  Sem (J2 prog W0 Post) 221 h.length 17 (codeOf f17) (RG.mk (regs [.agg ⟨p.cells⟩, hv, .agg ⟨s.cells⟩, vint fr, vint want, vint many, vint days, nv]) []) h (RetQ prog [.tmp 16] h.length K) := by
 have hJ := J2.closed prog W0 Post
 refine trunc_sound hJ mixed 4 (codeOf f17) (by kernel_rfl) (front17 sy hly sn hln hK fun Hb H f q t p8 p10 p18 p19 M => ?_)
 have e : subC (List.replicate 4 1) (codeOf f17) = .seq (subC [1, 1, 1, 1, 0] (codeOf f17)) (.seq (subC [1, 1, 1, 1, 1, 0] (codeOf f17)) (subC [1, 1, 1, 1, 1, 1] (codeOf f17))) := by kernel_rfl
 rw [e]
 refine Sem_seq hJ (region17a hJ M fun f1 H1 M1 o1 S1 b20 b21 b22 => ?_)
 refine Sem_seq hJ (region17b hJ M1 fun f2 H2 M2 o2 S2 b23 b24 b25 b26 => ?_)
 have b20 := VK.same b20 S2
 have b21 := VK.same b21 S2
 have b22 := VK.same b22 S2
 rw [← o2 (tt := 20) (by kernel_rfl)] at b20
 rw [← o2 (tt := 21) (by kernel_rfl)] at b21
 rw [← o2 (tt := 22) (by kernel_rfl)] at b22
 obtain ⟨_, q20, e20, _, c20⟩ := b20
 obtain ⟨u, ⟨zs, n, o, O, hz, hn, _⟩, q21, e21, _, c21⟩ := b21
 obtain ⟨_, q22, e22, _, c22⟩ := b22
 obtain ⟨y23, q23, e23, _, c23⟩ := b23
 obtain ⟨y24, q24, e24, _, c24⟩ := b24
 obtain ⟨y25, q25, e25, _, c25⟩ := b25
 obtain ⟨y26, q26, e26, _, c26⟩ := b26
 have := M2.ly
 exact loop17 M2.vh.2.2 (ownX_val O).2.2 (M2.hh.sli M2.sy (by simp)) (by rw [hz]; exact ownX_sli O) (by omega) (by omega) c20 c21 c22 c23 c24 c25 c26 M2.ds e20 e21 e22 e23 e24 e25 e26 hK
end
end Go.Proofs.Ythnccaajpdnndaa
namespace Go.Proofs.Ythnccaajpdnndaa
open Go.Conc Go.ChangeShapes Go.WideShapes Go.ChangeAt Go.RowKit Go.Proofs.Try
set_option maxRecDepth 100000
theorem trodAll_cons {H : Type} {enc : TypeId × Value → H} {P : Program} {w : World} {base : Nat} {spare : Nat → Bool} {held : Bool} {t : TypeId} {ts : List TypeId} {vs : List Value} {ds : List (DataW H)} {ps : List MemPlace}
  (h : DataW.TrodAll enc P w base spare held (t :: ts) vs ds ps) : ∃ v vs' d ds' p q, vs = v :: vs' ∧ ds = d :: ds' ∧ ps = p ++ q ∧ DataW.Trod enc P w base spare held t v d p ∧ DataW.TrodAll enc P w base spare held ts vs' ds' q := by
 match vs, ds, h with
 | v :: vs, d :: ds, ⟨p, q, h1, h2, h3⟩ => exact ⟨v, vs, d, ds, p, q, rfl, rfl, h3, h1, h2⟩
theorem trodAll_nil {H : Type} {enc : TypeId × Value → H} {P : Program} {w : World} {base : Nat} {spare : Nat → Bool} {held : Bool} {vs : List Value} {ds : List (DataW H)} {ps : List MemPlace}
  (h : DataW.TrodAll enc P w base spare held [] vs ds ps) : vs = [] ∧ ds = [] ∧ ps = [] := by
 match vs, ds, h with
 | [], [], h => exact ⟨rfl, rfl, h⟩
theorem trodAll_mkc {H : Type} {enc : TypeId × Value → H} {P : Program} {w : World} {base : Nat} {spare : Nat → Bool} {held : Bool} {t : TypeId} {ts : List TypeId} {v : Value} {vs : List Value} {d : DataW H} {ds : List (DataW H)} {p q : List MemPlace}
 (h1 : DataW.Trod enc P w base spare held t v d p) (h2 : DataW.TrodAll enc P w base spare held ts vs ds q) : DataW.TrodAll enc P w base spare held (t :: ts) (v :: vs) (d :: ds) (p ++ q) := ⟨p, q, h1, h2, rfl⟩
section
variable {H : Type} {enc : TypeId × Value → H}
theorem fine_int {m : Nat} {n : Int} : Fine m (vint n) := ⟨by simp [VOk], rfl, by simp [ren]⟩
theorem trod_vint {W : World} {n : Nat} {cs : List Value} {r : DataW H × List MemPlace} {t : TypeId} (u : prog.underlying t = some (.int .i64)) (h : DataW.trod enc prog W 0 (fun _ => true) true n t cs = some r) : ∃ z, cs = [vint z] := by
 obtain ⟨z, h1, _⟩ := DataW.trod_int u h
 exact ⟨z, h1⟩
end
section
variable {H : Type} {enc : TypeId × Value → H} {W : World} {n base : Nat} {cs : List Value} {r : DataW H × List MemPlace}
def structOf : Option TypeDesc → Option (List (TypeId × Nat))
 | some (.struct fs) => some (fs.toList.map fun f => (f.type, f.offset))
 | _ => none
theorem trod_fields {t : TypeId} {l : List (TypeId × Nat)} (hs : structOf (prog.underlying t) = some l) (h : DataW.trod enc prog W 0 (fun _ => true) true n t cs = some r) :
  cs.length = prog.cellsOf t ∧ ∃ n' : Nat, ∀ (i : Nat) (ty : TypeId) (off : Nat), l[i]? = some (ty, off) → ∃ r', DataW.trod enc prog W 0 (fun _ => true) true n' ty ((cs.drop off).take (prog.cellsOf ty)) = some r' := by
 unfold structOf at hs
 split at hs
 ·rename_i fs hu
  cases hs
  obtain ⟨xs, n', _, rfl, hl, hxl, hf⟩ := DataW.trod_struct hu h
  refine ⟨hl, n', fun i ty off hi => ?_⟩
  rw [List.getElem?_map, Option.map_eq_some_iff] at hi
  obtain ⟨f, hfi, he⟩ := hi
  cases he
  have hfi' : fs[i]? = some f := by simpa using hfi
  have hil : i < xs.length := by rw [hxl]; exact (Array.getElem?_eq_some_iff.1 hfi').1
  exact ⟨xs[i], by rw [hf i f hfi', List.getElem?_eq_getElem hil]⟩
 ·cases hs
theorem lok_of : ∀ {l : List Value} {m : Nat}, (∀ v ∈ l, VOk m v) → LOk m l
 | [], _, _ => by simp [LOk]
 | v :: l, m, h => by
  simp only [LOk]
  exact ⟨h v (by simp), lok_of fun u hu => h u (by simp [hu])⟩
theorem argOk_agg {l : List Value} (h : ∀ v ∈ l, ArgOk W v) : ArgOk W (.agg ⟨l⟩) := by
 refine ⟨?_, ?_⟩
 ·simp only [VOk, AOk]
  exact lok_of fun v hv => (h v hv).1
 ·simp only [ren, renA, renL_eq]
  congr 2
  rw [List.map_congr_left (g := id) fun v hv => (h v hv).2, List.map_id]
theorem argOk_fine {v : Value} (h : ∀ m, Fine m v) : ArgOk W v := ⟨(h _).1, (h 0).2.2⟩
theorem agg_of {t : TypeId} {l : List (TypeId × Nat)} {v : Value} (hs : structOf (prog.underlying t) = some l) (hval : Value.okWide prog W .any base t v) : ∃ cs, v = .agg cs ∧ Row.okWide prog W .any base t cs := by
 unfold structOf at hs
 split at hs
 ·rename_i fs hu
  simp only [Value.okWide, hu] at hval
  obtain ⟨cs, h1, _, h3⟩ := hval
  exact ⟨cs, h1, h3⟩
 ·cases hs
end
section
variable {H : Type} {enc : TypeId × Value → H} {W : World} {base : Nat}
theorem arg_recs {t : TypeId} {m : Nat} (hs : structOf (prog.underlying t) = some ((List.range m).map fun i => (3, i))) (hc : prog.cellsOf t = m) {v : Value} {d : DataW H} {ps : List MemPlace}
  (hval : Value.okWide prog W .any base t v) (hd : DataW.Trod enc prog W 0 (fun _ => true) true t v d ps) : ∃ zs : List Int, zs.length = m ∧ v = .agg ⟨zs.map vint⟩ ∧ ArgOk W v := by
 have u3 : prog.underlying 3 = some (.int .i64) := by kernel_rfl
 have c3 : prog.cellsOf 3 = 1 := by kernel_rfl
 obtain ⟨cs, rfl, _⟩ := agg_of hs hval
 obtain ⟨cs⟩ := cs
 obtain ⟨fuel, hf⟩ := hd
 obtain ⟨hl, n', hf⟩ := trod_fields (cs := cs) hs hf
 rw [hc] at hl
 have hz : ∀ i, i < m → ∃ z, cs[i]? = some (vint z) := fun i hi => by
  obtain ⟨r', g⟩ := hf i 3 i (by rw [List.getElem?_map, List.getElem?_range hi]; rfl)
  rw [c3] at g
  obtain ⟨z, hz⟩ := trod_vint u3 g
  refine ⟨z, ?_⟩
  have := congrArg (fun l => l[0]?) hz
  simpa [List.getElem?_take, List.getElem?_drop] using this
 have hall : ∀ v ∈ cs, ∃ z, v = vint z := fun v hv => by
  obtain ⟨i, hi, rfl⟩ := List.getElem_of_mem hv
  obtain ⟨z, e⟩ := hz i (by omega)
  rw [List.getElem?_eq_getElem hi] at e
  exact ⟨z, Option.some.inj e⟩
 have key : ∀ (l : List Value), (∀ v ∈ l, ∃ z, v = vint z) → ∃ zs : List Int, l = zs.map vint := by
  intro l
  induction l with
  | nil => exact fun _ => ⟨[], rfl⟩
  | cons v l ih =>
   intro h
   obtain ⟨z, rfl⟩ := h v (by simp)
   obtain ⟨zs, e⟩ := ih fun u hu => h u (by simp [hu])
   exact ⟨z :: zs, by rw [e]; rfl⟩
 obtain ⟨zs, rfl⟩ := key cs hall
 refine ⟨zs, by simpa using hl, rfl, argOk_agg fun v hv => ?_⟩
 obtain ⟨z, rfl⟩ := hall v hv
 exact argOk_fine fun m => fine_int
theorem arg_pas {v : Value} {d : DataW H} {ps : List MemPlace} (hval : Value.okWide prog W .any base 31 v) (hd : DataW.Trod enc prog W 0 (fun _ => true) true 31 v d ps) : ∃ w : Pas, v = .agg ⟨w.cells⟩ ∧ ArgOk W v := by
 obtain ⟨zs, hl, rfl, ok⟩ := arg_recs (m := 6) (by kernel_rfl) (by kernel_rfl) hval hd
 match zs, hl with
 | [a, b, c, d, e, f], _ => exact ⟨⟨a, b, c, d, e, f⟩, rfl, ok⟩
theorem arg_skyr {v : Value} {d : DataW H} {ps : List MemPlace} (hval : Value.okWide prog W .any base 24 v) (hd : DataW.Trod enc prog W 0 (fun _ => true) true 24 v d ps) : ∃ w : SkyR, v = .agg ⟨w.cells⟩ ∧ ArgOk W v := by
 obtain ⟨zs, hl, rfl, ok⟩ := arg_recs (m := 3) (by kernel_rfl) (by kernel_rfl) hval hd
 match zs, hl with
 | [a, b, c], _ => exact ⟨⟨a, b, c⟩, rfl, ok⟩
end
theorem law_run2S {g : FuncId} {fn : Func} {c : Code} (hf : prog.funcs[g]? = some fn) (hb : fn.body = some c) (hin : prog.inits.idxOf? g = none) (W₀ : World) (args : List Value) (ha : args.length ≤ fn.ntmps) (hok : ∀ v ∈ args, ArgOk W₀ v)
  (walk : ∀ Post, Sem (J2 prog W₀ Post) fn.ntmps (absH W₀).length g c ⟨regs args, []⟩ (absH W₀) (RetQ prog fn.results.toList (absH W₀).length fun v _ => v = .bool true)) :
  Ends prog (fun v w' => v = .bool true ∧ Below W₀.heap.size W₀ w') (solo (G (Frame.enter prog g ⟨args⟩ .normal) []) W₀) #[] := by
 refine run_of_J2 (W0 := W₀) (ft := startFt W₀) (top_of_sem2 hf hb hin ha rfl (fun i => ?_) (start_rel W₀) (walk _) ?_) (fun b hb => hb) (fun b hb => hb.elim) rfl
 ·show VRel (absH W₀).length idEnv (args.getD i unk) (args.getD i undef)
  simp only [List.getD_eq_getElem?_getD]
  cases hi : args[i]? with
  | none => exact .inl rfl
  | some v =>
   obtain ⟨h1, h2⟩ := hok v (List.mem_of_getElem? hi)
   exact .inr ⟨by rw [absH_len]; exact h1, h2.symm⟩
 ·intro v h' ρ' w' ft' cv hv H' _ _ hcv hB
  subst hv
  refine ⟨?_, below_of H' hB⟩
  rcases hcv with e | ⟨_, e⟩
  ·cases e
  ·rw [e]
   rfl
theorem lifted17 (os : Os) (started : os.Started) (H : Type) (enc : TypeId × Value → H) :
  ReturnsInLeavingWide {} checked os 17 .any (Rows.grassWaitsSpec.pre6 enc prog f17 Rows.grassWaitsRow.domain false) (Rows.grassWaitsSpec.post enc prog f17 false true false false) := by
 refine returnsInLeavingWide_of_change_sized (C := checked) own started at17
  (ChangeSpec.witness6 (enc := enc) (C := checked) false ⟨#[], #[.agg #[.int .i64 0, .int .i64 0, .int .i64 0, .int .i64 0, .int .i64 0, .int .i64 0], .slice none 0 0, .agg #[.int .i64 0, .int .i64 0, .int .i64 0], .int .i64 0, .int .i64 0, .int .i64 0, .int .i64 0, .slice none 0 0], []⟩ 8 (by kernel_rfl) (by kernel_rfl) (by kernel_rfl) (by kernel_rfl)) ?_
 intro W base args ds gs before hval0 hW _ hsz0 _
 have hsz : (DataW.weightsEach prog (f17.params.toList ++ Rows.grassWaitsSpec.plain.varTypes prog) (ds ++ gs)).all (· ≤ reachBytes) = true := hsz0
 clear hsz0
 have hval : ∀ (j : Nat) t v, f17.params[j]? = some t → args[j]? = some v → Value.okWide prog W .any base t v := hval0
 have hW' := hW
 obtain ⟨p, q, hA0, hV, rfl, _, _⟩ := hW
 have hA : DataW.TrodAll enc prog W 0 (fun _ => true) true f17.params.toList args.toList ds p := hA0
 have hps : f17.params = #[31, 25, 24, 3, 3, 3, 3, 25] := by kernel_rfl
 rw [hps] at hA hval hsz
 obtain ⟨args⟩ := args
 have r0 : DataW.TrodAll enc prog W 0 (fun _ => true) true [31, 25, 24, 3, 3, 3, 3, 25] args ds p := hA
 obtain ⟨v0, vs0, d0, ds0, p0, q0, hv0, hd0, hp0, h0, r1⟩ := trodAll_cons r0
 obtain ⟨v1, vs1, d1, ds1, p1, q1, hv1, hd1, hp1, h1, r2⟩ := trodAll_cons r1
 obtain ⟨v2, vs2, d2, ds2, p2, q2, hv2, hd2, hp2, h2, r3⟩ := trodAll_cons r2
 obtain ⟨v3, vs3, d3, ds3, p3, q3, hv3, hd3, hp3, h3, r4⟩ := trodAll_cons r3
 obtain ⟨v4, vs4, d4, ds4, p4, q4, hv4, hd4, hp4, h4, r5⟩ := trodAll_cons r4
 obtain ⟨v5, vs5, d5, ds5, p5, q5, hv5, hd5, hp5, h5, r6⟩ := trodAll_cons r5
 obtain ⟨v6, vs6, d6, ds6, p6, q6, hv6, hd6, hp6, h6, r7⟩ := trodAll_cons r6
 obtain ⟨v7, vs7, d7, ds7, p7, q7, hv7, hd7, hp7, h7, r8⟩ := trodAll_cons r7
 obtain ⟨hvn, hdn, hpn⟩ := trodAll_nil r8
 subst hvn hdn hpn
 subst hv7 hd7 hp7
 subst hv6 hd6 hp6
 subst hv5 hd5 hp5
 subst hv4 hd4 hp4
 subst hv3 hd3 hp3
 subst hv2 hd2 hp2
 subst hv1 hd1 hp1
 subst hv0 hd0 hp0
 obtain ⟨rfl, rfl⟩ := trodVars_none hV
 have u3 : prog.underlying 3 = some (.int .i64) := by kernel_rfl
 have u27 : prog.underlying 25 = some (.slice 3) := by kernel_rfl
 have u4 : prog.underlying 4 = some .bool := by kernel_rfl
 have c3 : prog.cellsOf 3 = 1 := by kernel_rfl
 have b3 : prog.bytesOf 3 = 8 := by kernel_rfl
 have hlt : ∀ x ∈ p0 ++ (p1 ++ (p2 ++ (p3 ++ (p4 ++ (p5 ++ (p6 ++ (p7 ++ []))))))), x.block < W.heap.size := fun x hx => by simpa using hW'.lt x (by simpa using hx)
 have hargs : ∀ (W' : World), Below W.heap.size W W' → DataW.TrodAll enc prog W' 0 (fun b => decide (b < W.heap.size)) true [31, 25, 24, 3, 3, 3, 3, 25] [v0, v1, v2, v3, v4, v5, v6, v7] [d0, d1, d2, d3, d4, d5, d6, d7] (p0 ++ (p1 ++ (p2 ++ (p3 ++ (p4 ++ (p5 ++ (p6 ++ (p7 ++ [])))))))) := fun W' hn =>
  trodAll_mkc (Below.trod laidOut (by kernel_rfl) (of_decide_eq_true (by kernel_rfl)) h0 hn fun x hx => hlt x (by simp [hx])) (trodAll_mkc (Below.trod laidOut (by kernel_rfl) (of_decide_eq_true (by kernel_rfl)) h1 hn fun x hx => hlt x (by simp [hx])) (trodAll_mkc (Below.trod laidOut (by kernel_rfl) (of_decide_eq_true (by kernel_rfl)) h2 hn fun x hx => hlt x (by simp [hx])) (trodAll_mkc (Below.trod laidOut (by kernel_rfl) (of_decide_eq_true (by kernel_rfl)) h3 hn fun x hx => hlt x (by simp [hx])) (trodAll_mkc (Below.trod laidOut (by kernel_rfl) (of_decide_eq_true (by kernel_rfl)) h4 hn fun x hx => hlt x (by simp [hx])) (trodAll_mkc (Below.trod laidOut (by kernel_rfl) (of_decide_eq_true (by kernel_rfl)) h5 hn fun x hx => hlt x (by simp [hx])) (trodAll_mkc (Below.trod laidOut (by kernel_rfl) (of_decide_eq_true (by kernel_rfl)) h6 hn fun x hx => hlt x (by simp [hx])) (trodAll_mkc (Below.trod laidOut (by kernel_rfl) (of_decide_eq_true (by kernel_rfl)) h7 hn fun x hx => hlt x (by simp [hx])) (rfl))))))))
 obtain ⟨w0, rfl, ok0⟩ := arg_pas (hval 0 31 v0 rfl rfl) h0
 obtain ⟨ns1, sn1, ok1, hbig1⟩ := arg_ints u27 u3 c3 (hval 1 25 v1 rfl rfl) h1
 have hln1 : ns1.length < 4611686018427387904 := by
  rcases hbig1 with rfl | ⟨es, sp, rfl, hle⟩
  ·simp
  ·have := sized_slice hsz (j := 1) (t := 25) (e := 3) rfl rfl u27
   rw [b3] at this
   simp only [reachBytes] at this
   omega
 obtain ⟨w2, rfl, ok2⟩ := arg_skyr (hval 2 24 v2 rfl rfl) h2
 obtain ⟨z3, rfl, _, _, _⟩ := open_int u3 (hval 3 3 v3 rfl rfl) h3
 obtain ⟨z4, rfl, _, _, _⟩ := open_int u3 (hval 4 3 v4 rfl rfl) h4
 obtain ⟨z5, rfl, _, _, _⟩ := open_int u3 (hval 5 3 v5 rfl rfl) h5
 obtain ⟨z6, rfl, _, _, _⟩ := open_int u3 (hval 6 3 v6 rfl rfl) h6
 obtain ⟨ns7, sn7, ok7, hbig7⟩ := arg_ints u27 u3 c3 (hval 7 25 v7 rfl rfl) h7
 have hln7 : ns7.length < 4611686018427387904 := by
  rcases hbig7 with rfl | ⟨es, sp, rfl, hle⟩
  ·simp
  ·have := sized_slice hsz (j := 7) (t := 25) (e := 3) rfl rfl u27
   rw [b3] at this
   simp only [reachBytes] at this
   omega
 obtain ⟨M, last, o, w', t', r1, r2, r3, r4⟩ := law_run2S (g := 17) (fn := f17) at17 body17 (by kernel_rfl) W [.agg ⟨Pas.cells w0⟩, v1, .agg ⟨SkyR.cells w2⟩, vint z3, vint z4, vint z5, vint z6, v7] (Nat.le_of_ble_eq_true (by kernel_rfl : Nat.ble 8 f17.ntmps = true))
  (by
   intro v hv
   simp only [List.mem_cons, List.not_mem_nil, or_false] at hv
   rcases hv with rfl | rfl | rfl | rfl | rfl | rfl | rfl | rfl
   ·exact ok0
   ·exact ok1
   ·exact ok2
   ·exact argOk_int
   ·exact argOk_int
   ·exact argOk_int
   ·exact argOk_int
   ·exact ok7)
  (fun Post => walk17 (K := fun v _ => v = .bool true) sn1 hln1 sn7 hln7 fun _ => rfl)
 refine ⟨M, last, o, w', t', r1, r2, r3, r4.mono fun v hF => ?_⟩
 obtain ⟨rfl, hbelow⟩ := hF
 refine ⟨_, _, _, [], _, [], hW', ?_, hargs _ hbelow, by rfl, hbelow.frame _, fun h => by cases h⟩
 exact trodAll_mk1 (shut_bool u4 true)
theorem grassWaits_holds : Rows.GrassWaitsSaid :=
 OpenClaim.holds_of_wide_leaving 17 f17 rfl rfl rfl rfl rfl rfl rfl ⟨rfl, rfl, rfl, rfl, rfl⟩ rfl rfl rfl rfl rfl (by kernel_rfl) at17 (by kernel_rfl)
  (of_decide_eq_true (by kernel_rfl)) (by unfold Func.isWrapper; first | (rw [if_pos (by decide +kernel)]; kernel_rfl) | (rw [if_neg (by decide +kernel)]; exact ⟨rfl, rfl⟩))
  (fun os started H enc _ => lifted17 os started H enc)
#print axioms grassWaits_holds
end Go.Proofs.Ythnccaajpdnndaa
