/- GrassTurned answers true at every input, and its argument reads behind the call as it read before. No conditions. -/
import Derived.Test.YtdbammacnfojdaaK2
import Derived.Test.YtdbammacnfojdaaK3
import Derived.Test.YtdbammacnfojdaaK6
namespace Go.Proofs.Ytdbammacnfojdaa
open Go.Conc Go.Proofs.Try
set_option maxRecDepth 100000
set_option maxHeartbeats 4000000
set_option linter.unusedVariables false
section
variable {main : Bool} {J : JT} {n0 : Nat} {h : List AObj} {K : Value → List AObj → Prop}
theorem at4 : prog.funcs[4]? = some f4 := by kernel_rfl
theorem body4 : f4.body = some (codeOf f4) := by kernel_rfl
def pl4 : Plans := [(24, true, .take 0 (.take 1 (.take 2 (.take 3 (.take 4 (.take 5 (.last 6 false (.take 7 (.take 8 (.take 9 (.take 10 (.take 11 (.fin))))))))))))),
 (32, false, .take 1 (.take 3 (.take 7 (.take 8 (.last 0 true (.last 2 true (.last 4 true (.last 5 true (.last 6 true (.last 9 false (.take 10 (.take 11 (.take 12 (.take 13 (.take 14 (.fin))))))))))))))))]
def ct4 : Cuts := .bin (.go) (.bin (.go) (.bin (.go) (.bin (.go) (.bin (.go) (.bin (.go) (.bin (.go) (.bin (.go) (.bin (.bin (.go) (.un (.un (.bin (.bin (.go) (.cut (.go))) (.go))))) (.go)))))))))
theorem pok4 : plansOk prog pl4 (codeOf f4) = true := by kernel_rfl
theorem e4 {a0 : Value} : W prog J 149 h.length 4 (codeOf f4) (RG.mk (regs [a0]) []) h (RetQ prog [.tmp 2] h.length K) =
(Good prog J 6 [a0] h fun v1 h2 =>
Good prog J 7 [v1, (vint 1), (vint 2)] h2 fun v3 h4 =>
Sem J 149 h.length 4 (subC [1, 1, 1, 0, 1, 0] (codeOf f4)) (RG.p (RG.p (RG.p (RG.p (RG.p (RG.p (RG.p (RG.p (RG.mk (regs [a0]) []) 2 (Value.bool false)) 21 a0) 22 v1) 3 v1) 4 (Value.slice none 0 0)) 23 v1) 24 v3) 5 v3) h4 (contX pl4 prog J 149 h.length 4 ct4 [1, 1, 1, 0, 1, 0] (codeOf f4) [] (RetQ prog [.tmp 2] h.length K))) := top_eq pok4 ct4 (by kernel_rfl)
theorem g4 (hJ : Closed prog main J) {a0 : Value} (hs : heapOk h → W prog J 149 h.length 4 (codeOf f4) (RG.mk (regs [a0]) []) h (RetQ prog [.tmp 2] h.length K)) : Good prog J 4 [a0] h K :=
 good_of_W hJ mixed at4 body4 (by kernel_rfl) (Nat.le_of_ble_eq_true rfl) hs
theorem s4_1 {f : RG} {nx0 : RG → List AObj → Prop} : W prog J 149 n0 4 (subC [1, 1, 1, 0, 1, 0, 0] (codeOf f4)) f h (thenK nx0 (contX pl4 prog J 149 n0 4 ct4 [1, 1, 1, 0, 1, 0] (codeOf f4) [] (RetQ prog [.tmp 2] n0 K))) =
(aBin prog .gtr 3 (f.r 5) (vint 0) fun v1 =>
cnd v1
(Good prog J 8 [(f.r 3)] h fun v2 h3 =>
(((1 * 6 : Nat) ≤ 16777216 ∧ (1 : Nat) ≤ 16777216 ∧ List.length [(vint 0), (vint 0), (vint 0), (vint 0), (vint 0), (vint 0)] = 6) ∧ aFill (zrep [(vint 0), (vint 0), (vint 0), (vint 0), (vint 0), (vint 0)] 1) [(0, 6, v2)] fun c4 =>
aNewS 1 c4 h3 fun v5 h6 =>
((List.length [(vint 0), (vint 0), (vint 0), (vint 0), (vint 0), (vint 0)] = 6 ∧ 0 < (6 : Nat) ∧ 0 < (48 : Nat) ∧ (48 : Nat) ≤ 1024) ∧ aApp 6 (f.r 4) v5 h6 fun v7 h8 =>
aBin prog .sub 3 (f.r 5) (vint 1) fun v9 =>
nx0 (RG.p (RG.p (RG.p (RG.p (RG.p (RG.p (RG.p (RG.p (RG.p (RG.p (RG.p f 25 (f.r 5)) 26 v1) 29 (f.r 4)) 30 (f.r 3)) 31 v2) 32 v5) 33 v7) 4 v7) 27 (f.r 5)) 28 v9) 5 v9) h8)))
(Good prog J 9 [(f.r 3), (vint 4)] h fun v10 h11 =>
Good prog J 10 [(f.r 3), (vint 15)] h11 fun v12 h13 =>
aAlloc [(vint 0), (vint 0), (vint 0)] h13 fun v14 h15 =>
aStore 3 v14 v10 h15 fun h16 =>
aLoad true 3 v14 h16 fun v17 =>
Good prog J 11 [(f.r 4), v17, v12] h16 fun v18 h19 =>
aExt v18 0 fun v20 =>
aExt v18 1 fun v21 =>
aLenS (f.r 4) fun v22 =>
aOff v14 0 fun v23 =>
aLoad false 1 v23 h19 fun v24 =>
Good prog J 14 [v22, v24] h19 fun v25 h26 =>
Sem J 149 n0 4 (subC [1, 1, 1, 1, 1, 1, 1, 1, 0, 1, 0] (codeOf f4)) (RG.p (RG.p (RG.p (RG.p (RG.p (RG.p (RG.p (RG.p (RG.p (RG.p (RG.p (RG.p (RG.p (RG.p (RG.p (RG.p (RG.p (RG.p (RG.p (RG.p (RG.p (RG.p (RG.p (RG.p (RG.p f 25 (f.r 5)) 26 v1) 34 (f.r 3)) 35 v10) 36 (f.r 3)) 37 v12) 6 v14) 7 v12) 39 (f.r 4)) 40 v17) 41 v12) 42 v18) 38 v18) 43 v20) 44 v21) 8 v20) 9 v21) 45 (f.r 4)) 46 v22) 47 v23) 48 v24) 49 v25) 10 v25) 11 (vint (-1))) 12 (vint 0)) h26 (contX pl4 prog J 149 n0 4 ct4 [1, 1, 1, 1, 1, 1, 1, 1, 0, 1, 0] (codeOf f4) [] (RetQ prog [.tmp 2] n0 K)))) := sub_eq pok4 ct4 (by kernel_rfl)
theorem l4_1 (hJ : Closed prog main J) {S : Type} (μ : S → Nat) (I : S → RG → List AObj → Prop) (hI : ∀ s f h, I s f h → heapOk h → n0 ≤ h.length → W prog J 149 n0 4 (subC [1, 1, 1, 0, 1, 0, 0] (codeOf f4)) f h (thenK (Nx n0 μ I s) (contX pl4 prog J 149 n0 4 ct4 [1, 1, 1, 0, 1, 0] (codeOf f4) [] (RetQ prog [.tmp 2] n0 K))))
 {s : S} {f : RG} (hi : Gets n0 I s f h) : Sem J 149 n0 4 (subC [1, 1, 1, 0, 1, 0] (codeOf f4)) f h (contX pl4 prog J 149 n0 4 ct4 [1, 1, 1, 0, 1, 0] (codeOf f4) [] (RetQ prog [.tmp 2] n0 K)) :=
 loop_rule hJ mixed (b := subC [1, 1, 1, 0, 1, 0, 0] (codeOf f4)) (by kernel_rfl) μ I hI hi
theorem s4_2 {f : RG} {nx0 : RG → List AObj → Prop} : W prog J 149 n0 4 (subC [1, 1, 1, 1, 1, 1, 1, 1, 0, 1, 0, 0] (codeOf f4)) f h (thenK nx0 (contX pl4 prog J 149 n0 4 ct4 [1, 1, 1, 1, 1, 1, 1, 1, 0, 1, 0] (codeOf f4) [] (RetQ prog [.tmp 2] n0 K))) =
(aLenS (f.r 10) fun v1 =>
aBin prog .lss 3 (f.r 12) v1 fun v2 =>
cnd v2
(aBin prog .lss 3 (f.r 11) (vint 0) fun v3 =>
Hold (W prog J 149 n0 4 (subC [1, 1, 1, 1, 1, 1, 1, 1, 0, 1, 0, 0, 0, 1] (codeOf f4)) (RG.p (RG.p (RG.p (RG.p (RG.p (RG.p (RG.p (RG.p (RG.p f 50 (f.r 12)) 51 (f.r 10)) 52 v1) 53 v2) 54 v2) 54 (Value.bool true)) 55 (f.r 11)) 56 v3) 57 v3) h (contX pl4 prog J 149 n0 4 ct4 [1, 1, 1, 1, 1, 1, 1, 1, 0, 1, 0, 0, 0, 1] (codeOf f4) [nx0] (RetQ prog [.tmp 2] n0 K))))
(Hold (W prog J 149 n0 4 (subC [1, 1, 1, 1, 1, 1, 1, 1, 0, 1, 0, 0, 0, 1] (codeOf f4)) (RG.p (RG.p (RG.p (RG.p (RG.p (RG.p (RG.p (RG.p (RG.p f 50 (f.r 12)) 51 (f.r 10)) 52 v1) 53 v2) 54 v2) 54 (Value.bool false)) 55 undef) 56 undef) 57 (Value.bool false)) h (contX pl4 prog J 149 n0 4 ct4 [1, 1, 1, 1, 1, 1, 1, 1, 0, 1, 0, 0, 0, 1] (codeOf f4) [nx0] (RetQ prog [.tmp 2] n0 K))))) := sub_eq pok4 ct4 (by kernel_rfl)
theorem l4_2 (hJ : Closed prog main J) {S : Type} (μ : S → Nat) (I : S → RG → List AObj → Prop) (hI : ∀ s f h, I s f h → heapOk h → n0 ≤ h.length → W prog J 149 n0 4 (subC [1, 1, 1, 1, 1, 1, 1, 1, 0, 1, 0, 0] (codeOf f4)) f h (thenK (Nx n0 μ I s) (contX pl4 prog J 149 n0 4 ct4 [1, 1, 1, 1, 1, 1, 1, 1, 0, 1, 0] (codeOf f4) [] (RetQ prog [.tmp 2] n0 K))))
 {s : S} {f : RG} (hi : Gets n0 I s f h) : Sem J 149 n0 4 (subC [1, 1, 1, 1, 1, 1, 1, 1, 0, 1, 0] (codeOf f4)) f h (contX pl4 prog J 149 n0 4 ct4 [1, 1, 1, 1, 1, 1, 1, 1, 0, 1, 0] (codeOf f4) [] (RetQ prog [.tmp 2] n0 K)) :=
 loop_rule hJ mixed (b := subC [1, 1, 1, 1, 1, 1, 1, 1, 0, 1, 0, 0] (codeOf f4)) (by kernel_rfl) μ I hI hi
theorem s4_3 {f : RG} {nx0 : RG → List AObj → Prop} : W prog J 149 n0 4 (subC [1, 1, 1, 1, 1, 1, 1, 1, 0, 1, 0, 0, 0, 1] (codeOf f4)) f h (contX pl4 prog J 149 n0 4 ct4 [1, 1, 1, 1, 1, 1, 1, 1, 0, 1, 0, 0, 0, 1] (codeOf f4) [nx0] (RetQ prog [.tmp 2] n0 K)) =
(cnd (f.r 57)
(Sem J 149 n0 4 (subC [1, 1, 1, 1, 1, 1, 1, 1, 0, 1, 0, 0, 1, 0, 0, 1, 0, 1, 0] (codeOf f4)) (RG.p (RG.p f 13 (Value.bool true)) 14 (vint 0)) h (contX pl4 prog J 149 n0 4 ct4 [1, 1, 1, 1, 1, 1, 1, 1, 0, 1, 0, 0, 1, 0, 0, 1, 0, 1, 0] (codeOf f4) [nx0] (RetQ prog [.tmp 2] n0 K)))
(aBin prog .lss 3 (f.r 11) (vint 0) fun v1 =>
cnd v1
(aBin prog .eql 37 (f.r 9) (vint 11) fun v2 =>
cnd v2
(aLenS (f.r 8) fun v3 =>
aBin prog .eql 3 v3 (vint 0) fun v4 =>
cnd v4
(Good prog J 5 [] h fun v5 h6 =>
retL n0 K f.ds [v5] h6)
(retL n0 K f.ds [(Value.bool false)] h))
(retL n0 K f.ds [(Value.bool false)] h))
((∃ B, aLoad true 3 (f.r 6) h fun v7 =>
RdOk (some B) (ptrBlk (f.r 6)) ∧ ((((0 * 6 : Nat) ≤ 16777216 ∧ (0 : Nat) ≤ 16777216 ∧ List.length [(vint 0), (vint 0), (vint 0), (vint 0), (vint 0), (vint 0)] = 6) ∧ aFill (zrep [(vint 0), (vint 0), (vint 0), (vint 0), (vint 0), (vint 0)] 0) [] fun c8 =>
aNewS 0 c8 h fun v9 h10 =>
SameB (some B) h h10 ∧ (((List.length [(vint 0), (vint 0), (vint 0), (vint 0), (vint 0), (vint 0)] = 6 ∧ 0 < (6 : Nat) ∧ 0 < (48 : Nat) ∧ (48 : Nat) ≤ 1024) ∧ aApp 6 v9 (f.r 4) h10 fun v11 h12 =>
SameB (some B) h h12 ∧ (Good prog J 8 [(f.r 3)] h12 fun v13 h14 =>
SameB (some B) h h14 ∧ ((((1 * 6 : Nat) ≤ 16777216 ∧ (1 : Nat) ≤ 16777216 ∧ List.length [(vint 0), (vint 0), (vint 0), (vint 0), (vint 0), (vint 0)] = 6) ∧ aFill (zrep [(vint 0), (vint 0), (vint 0), (vint 0), (vint 0), (vint 0)] 1) [(0, 6, v13)] fun c15 =>
aNewS 1 c15 h14 fun v16 h17 =>
SameB (some B) h h17 ∧ (((List.length [(vint 0), (vint 0), (vint 0), (vint 0), (vint 0), (vint 0)] = 6 ∧ 0 < (6 : Nat) ∧ 0 < (48 : Nat) ∧ (48 : Nat) ≤ 1024) ∧ aApp 6 v11 v16 h17 fun v18 h19 =>
SameB (some B) h h19 ∧ (Good prog J 11 [v18, v7, (f.r 7)] h19 fun v20 h21 =>
aExt v20 0 fun v22 =>
aExt v20 1 fun v23 =>
aBin prog .eql 37 (f.r 9) (vint 0) fun v24 =>
cnd v24
(aBin prog .eql 37 v23 (vint 0) fun v25 =>
cnd v25
(aIdx 1 (f.r 10) (f.r 11) fun v26 =>
aLoad false 1 v26 h21 fun v27 =>
Good prog J 13 [(f.r 8), v27] h21 fun v28 h29 =>
cnd v28
(Good prog J 5 [] h29 fun v30 h31 =>
retL n0 K f.ds [v30] h31)
(retL n0 K f.ds [(Value.bool false)] h29))
(retL n0 K f.ds [(Value.bool false)] h21))
(retL n0 K f.ds [(Value.bool false)] h21))))))))))))))) := sub_eq pok4 ct4 (by kernel_rfl)
theorem s4_4 {f : RG} {nx0 nx1 : RG → List AObj → Prop} : W prog J 149 n0 4 (subC [1, 1, 1, 1, 1, 1, 1, 1, 0, 1, 0, 0, 1, 0, 0, 1, 0, 1, 0, 0] (codeOf f4)) f h (thenK nx1 (contX pl4 prog J 149 n0 4 ct4 [1, 1, 1, 1, 1, 1, 1, 1, 0, 1, 0, 0, 1, 0, 0, 1, 0, 1, 0] (codeOf f4) [nx0] (RetQ prog [.tmp 2] n0 K))) =
(aLenS (f.r 4) fun v1 =>
aBin prog .lss 3 (f.r 14) v1 fun v2 =>
cnd v2
(aOff (f.r 6) 0 fun v3 =>
aLoad false 1 v3 h fun v4 =>
((List.length [(vint 0)] = 1 ∧ (8 : Nat) ≤ 1024) ∧ aMkS [(vint 0)] v4 v4 h fun v5 h6 =>
Sem J 149 n0 4 (subC [1, 1, 1, 1, 1, 1, 1, 1, 0, 1, 0, 0, 1, 0, 0, 1, 0, 1, 0, 0, 1, 0, 0, 1, 0, 1, 0] (codeOf f4)) (RG.p (RG.p (RG.p (RG.p (RG.p (RG.p (RG.p (RG.p (RG.p f 60 (f.r 14)) 61 (f.r 4)) 62 v1) 63 v2) 66 v3) 67 v4) 68 v5) 15 v5) 16 (vint 0)) h6 (contX pl4 prog J 149 n0 4 ct4 [1, 1, 1, 1, 1, 1, 1, 1, 0, 1, 0, 0, 1, 0, 0, 1, 0, 1, 0, 0, 1, 0, 0, 1, 0, 1, 0] (codeOf f4) [nx0, nx1] (RetQ prog [.tmp 2] n0 K))))
(cnd (f.r 13)
(aBin prog .add 3 (f.r 12) (vint 1) fun v7 =>
nx0 (RG.p (RG.p (RG.p (RG.p (RG.p (RG.p (RG.p (RG.p (RG.p (RG.p f 60 (f.r 14)) 61 (f.r 4)) 62 v1) 63 v2) 105 (f.r 13)) 106 (f.r 12)) 11 (f.r 12)) 58 (f.r 12)) 59 v7) 12 v7) h)
(aBin prog .add 3 (f.r 12) (vint 1) fun v8 =>
nx0 (RG.p (RG.p (RG.p (RG.p (RG.p (RG.p (RG.p (RG.p f 60 (f.r 14)) 61 (f.r 4)) 62 v1) 63 v2) 105 (f.r 13)) 58 (f.r 12)) 59 v8) 12 v8) h))) := sub_eq pok4 ct4 (by kernel_rfl)
theorem l4_4 (hJ : Closed prog main J) {nx0 : RG → List AObj → Prop} {S : Type} (μ : S → Nat) (I : S → RG → List AObj → Prop) (hI : ∀ s f h, I s f h → heapOk h → n0 ≤ h.length → W prog J 149 n0 4 (subC [1, 1, 1, 1, 1, 1, 1, 1, 0, 1, 0, 0, 1, 0, 0, 1, 0, 1, 0, 0] (codeOf f4)) f h (thenK (Nx n0 μ I s) (contX pl4 prog J 149 n0 4 ct4 [1, 1, 1, 1, 1, 1, 1, 1, 0, 1, 0, 0, 1, 0, 0, 1, 0, 1, 0] (codeOf f4) [nx0] (RetQ prog [.tmp 2] n0 K))))
 {s : S} {f : RG} (hi : Gets n0 I s f h) : Sem J 149 n0 4 (subC [1, 1, 1, 1, 1, 1, 1, 1, 0, 1, 0, 0, 1, 0, 0, 1, 0, 1, 0] (codeOf f4)) f h (contX pl4 prog J 149 n0 4 ct4 [1, 1, 1, 1, 1, 1, 1, 1, 0, 1, 0, 0, 1, 0, 0, 1, 0, 1, 0] (codeOf f4) [nx0] (RetQ prog [.tmp 2] n0 K)) :=
 loop_rule hJ mixed (b := subC [1, 1, 1, 1, 1, 1, 1, 1, 0, 1, 0, 0, 1, 0, 0, 1, 0, 1, 0, 0] (codeOf f4)) (by kernel_rfl) μ I hI hi
theorem s4_5 {f : RG} {nx0 nx1 nx2 : RG → List AObj → Prop} : W prog J 149 n0 4 (subC [1, 1, 1, 1, 1, 1, 1, 1, 0, 1, 0, 0, 1, 0, 0, 1, 0, 1, 0, 0, 1, 0, 0, 1, 0, 1, 0, 0] (codeOf f4)) f h (thenK nx2 (contX pl4 prog J 149 n0 4 ct4 [1, 1, 1, 1, 1, 1, 1, 1, 0, 1, 0, 0, 1, 0, 0, 1, 0, 1, 0, 0, 1, 0, 0, 1, 0, 1, 0] (codeOf f4) [nx0, nx1] (RetQ prog [.tmp 2] n0 K))) =
(aOff (f.r 6) 0 fun v1 =>
aLoad false 1 v1 h fun v2 =>
aBin prog .lss 3 (f.r 16) v2 fun v3 =>
cnd v3
(aIdx 1 (f.r 10) (f.r 12) fun v4 =>
aLoad false 1 v4 h fun v5 =>
aIdx 1 v5 (f.r 16) fun v6 =>
aLoad false 1 v6 h fun v7 =>
aBin prog .eql 3 v7 (f.r 14) fun v8 =>
cnd v8
(aIdx 1 (f.r 15) (f.r 16) fun v9 =>
aStore 1 v9 (f.r 7) h fun h10 =>
aBin prog .add 3 (f.r 16) (vint 1) fun v11 =>
nx2 (RG.p (RG.p (RG.p (RG.p (RG.p (RG.p (RG.p (RG.p (RG.p (RG.p (RG.p (RG.p (RG.p (RG.p (RG.p (RG.p (RG.p (RG.p (RG.p (RG.p f 69 (f.r 16)) 70 v1) 71 v2) 72 v3) 75 (f.r 10)) 76 (f.r 12)) 77 v4) 78 v5) 79 (f.r 16)) 80 v6) 81 v7) 82 (f.r 14)) 83 v8) 84 (f.r 15)) 85 (f.r 16)) 86 (f.r 7)) 87 v9) 73 (f.r 16)) 74 v11) 16 v11) h10)
(aBin prog .add 3 (f.r 16) (vint 1) fun v12 =>
nx2 (RG.p (RG.p (RG.p (RG.p (RG.p (RG.p (RG.p (RG.p (RG.p (RG.p (RG.p (RG.p (RG.p (RG.p (RG.p (RG.p f 69 (f.r 16)) 70 v1) 71 v2) 72 v3) 75 (f.r 10)) 76 (f.r 12)) 77 v4) 78 v5) 79 (f.r 16)) 80 v6) 81 v7) 82 (f.r 14)) 83 v8) 73 (f.r 16)) 74 v12) 16 v12) h))
(aIdx 6 (f.r 4) (f.r 14) fun v13 =>
aLoad true 6 v13 h fun v14 =>
aLoad true 3 (f.r 6) h fun v15 =>
Good prog J 15 [v14, (f.r 15), v15] h fun v16 h17 =>
aExt v16 0 fun v18 =>
aExt v16 1 fun v19 =>
aBin prog .neq 37 v19 (vint 0) fun v20 =>
cnd v20
(retL n0 K f.ds [(Value.bool false)] h17)
(cnd (f.r 13)
(aBin prog .eql 3 v18 (vint 1) fun v21 =>
aBin prog .add 3 (f.r 14) (vint 1) fun v22 =>
nx1 (RG.p (RG.p (RG.p (RG.p (RG.p (RG.p (RG.p (RG.p (RG.p (RG.p (RG.p (RG.p (RG.p (RG.p (RG.p (RG.p (RG.p (RG.p (RG.p (RG.p (RG.p (RG.p (RG.p (RG.p (RG.p (RG.p (RG.p (RG.p f 69 (f.r 16)) 70 v1) 71 v2) 72 v3) 89 (f.r 4)) 90 (f.r 14)) 91 v13) 92 v14) 93 (f.r 15)) 94 v15) 95 v16) 88 v16) 96 v18) 97 v19) 17 v18) 18 v19) 98 v19) 99 v20) 100 (f.r 13)) 101 (f.r 13)) 101 (Value.bool true)) 102 v18) 103 v21) 104 v21) 13 v21) 64 (f.r 14)) 65 v22) 14 v22) h17)
(aBin prog .add 3 (f.r 14) (vint 1) fun v23 =>
nx1 (RG.p (RG.p (RG.p (RG.p (RG.p (RG.p (RG.p (RG.p (RG.p (RG.p (RG.p (RG.p (RG.p (RG.p (RG.p (RG.p (RG.p (RG.p (RG.p (RG.p (RG.p (RG.p (RG.p (RG.p (RG.p (RG.p (RG.p (RG.p f 69 (f.r 16)) 70 v1) 71 v2) 72 v3) 89 (f.r 4)) 90 (f.r 14)) 91 v13) 92 v14) 93 (f.r 15)) 94 v15) 95 v16) 88 v16) 96 v18) 97 v19) 17 v18) 18 v19) 98 v19) 99 v20) 100 (f.r 13)) 101 (f.r 13)) 101 (Value.bool false)) 102 undef) 103 undef) 104 (Value.bool false)) 13 (Value.bool false)) 64 (f.r 14)) 65 v23) 14 v23) h17)))) := sub_eq pok4 ct4 (by kernel_rfl)
theorem l4_5 (hJ : Closed prog main J) {nx0 nx1 : RG → List AObj → Prop} {S : Type} (μ : S → Nat) (I : S → RG → List AObj → Prop) (hI : ∀ s f h, I s f h → heapOk h → n0 ≤ h.length → W prog J 149 n0 4 (subC [1, 1, 1, 1, 1, 1, 1, 1, 0, 1, 0, 0, 1, 0, 0, 1, 0, 1, 0, 0, 1, 0, 0, 1, 0, 1, 0, 0] (codeOf f4)) f h (thenK (Nx n0 μ I s) (contX pl4 prog J 149 n0 4 ct4 [1, 1, 1, 1, 1, 1, 1, 1, 0, 1, 0, 0, 1, 0, 0, 1, 0, 1, 0, 0, 1, 0, 0, 1, 0, 1, 0] (codeOf f4) [nx0, nx1] (RetQ prog [.tmp 2] n0 K))))
 {s : S} {f : RG} (hi : Gets n0 I s f h) : Sem J 149 n0 4 (subC [1, 1, 1, 1, 1, 1, 1, 1, 0, 1, 0, 0, 1, 0, 0, 1, 0, 1, 0, 0, 1, 0, 0, 1, 0, 1, 0] (codeOf f4)) f h (contX pl4 prog J 149 n0 4 ct4 [1, 1, 1, 1, 1, 1, 1, 1, 0, 1, 0, 0, 1, 0, 0, 1, 0, 1, 0, 0, 1, 0, 0, 1, 0, 1, 0] (codeOf f4) [nx0, nx1] (RetQ prog [.tmp 2] n0 K)) :=
 loop_rule hJ mixed (b := subC [1, 1, 1, 1, 1, 1, 1, 1, 0, 1, 0, 0, 1, 0, 0, 1, 0, 1, 0, 0, 1, 0, 0, 1, 0, 1, 0, 0] (codeOf f4)) (by kernel_rfl) μ I hI hi
end
section
variable {main : Bool} {J : JT} {n0 : Nat} {h : List AObj} {K : Value → List AObj → Prop}
def pl12 : Plans := [(20, true, .take 0 (.take 1 (.take 2 (.take 3 (.take 4 (.take 5 (.take 6 (.last 7 false (.fin)))))))))]
def ct12 : Cuts := .go
theorem pok12 : plansOk prog pl12 (codeOf f12) = true := by kernel_rfl
theorem e12 {a0 a1 a2 : Value} : W prog J 64 h.length 12 (codeOf f12) (RG.mk (regs [a0, a1, a2]) []) h (RetQ prog [.tmp 6, .tmp 7] h.length K) =
(aBox a1 h fun v1 h2 =>
aLenS a0 fun v3 =>
aBin prog .eql 3 v3 (vint 0) fun v4 =>
cnd v4
(retL h.length K [] [(Value.slice none 0 0), (vint 7)] h2)
(aLenS a0 fun v5 =>
aBin prog .gtr 3 v5 (vint 3) fun v6 =>
cnd v6
(retL h.length K [] [(Value.slice none 0 0), (vint 6)] h2)
(Sem J 64 h.length 12 (subC [1, 1, 1, 0, 1, 0] (codeOf f12)) (RG.p (RG.p (RG.p (RG.p (RG.p (RG.p (RG.p (RG.p (RG.p (RG.p (RG.mk (regs [a0, a1, a2]) []) 4 v1) 6 (Value.slice none 0 0)) 7 (vint 0)) 13 a0) 14 v3) 15 v4) 16 a0) 17 v5) 18 v6) 8 (vint 0)) h2 (contX pl12 prog J 64 h.length 12 ct12 [1, 1, 1, 0, 1, 0] (codeOf f12) [] (RetQ prog [.tmp 6, .tmp 7] h.length K))))) := top_eq pok12 ct12 (by kernel_rfl)
end
section
variable {main : Bool} {J : JT} {n0 : Nat} {h : List AObj} {K : Value → List AObj → Prop}
theorem at14 : prog.funcs[14]? = some f14 := by kernel_rfl
theorem body14 : f14.body = some (codeOf f14) := by kernel_rfl
def pl14 : Plans := []
def ct14 : Cuts := .go
theorem pok14 : plansOk prog pl14 (codeOf f14) = true := by kernel_rfl
theorem e14 {a0 a1 : Value} : W prog J 38 h.length 14 (codeOf f14) (RG.mk (regs [a0, a1]) []) h (RetQ prog [.tmp 4] h.length K) =
(aBin prog .eql 3 a1 (vint 0) fun v1 =>
cnd v1
((((1 * 1 : Nat) ≤ 16777216 ∧ (1 : Nat) ≤ 16777216 ∧ List.length [(Value.slice none 0 0)] = 1) ∧ aFill (zrep [(Value.slice none 0 0)] 1) [(0, 1, (Value.slice none 0 0))] fun c2 =>
aNewS 1 c2 h fun v3 h4 =>
retL h.length K [] [v3] h4))
(aBin prog .sub 3 a1 (vint 1) fun v5 =>
Good prog J 14 [a0, v5] h fun v6 h7 =>
Sem J 38 h.length 14 (subC [1, 1, 1, 1, 0, 1, 0] (codeOf f14)) (RG.p (RG.p (RG.p (RG.p (RG.p (RG.p (RG.p (RG.p (RG.p (RG.p (RG.mk (regs [a0, a1]) []) 4 (Value.slice none 0 0)) 9 a1) 10 v1) 5 (Value.slice none 0 0)) 12 a0) 13 a1) 14 v5) 15 v6) 6 v6) 7 (vint 0)) h7 (contX pl14 prog J 38 h.length 14 ct14 [1, 1, 1, 1, 0, 1, 0] (codeOf f14) [] (RetQ prog [.tmp 4] h.length K)))) := top_eq pok14 ct14 (by kernel_rfl)
theorem g14 (hJ : Closed prog main J) {a0 a1 : Value} (hs : heapOk h → W prog J 38 h.length 14 (codeOf f14) (RG.mk (regs [a0, a1]) []) h (RetQ prog [.tmp 4] h.length K)) : Good prog J 14 [a0, a1] h K :=
 good_of_W hJ mixed at14 body14 (by kernel_rfl) (Nat.le_of_ble_eq_true rfl) hs
theorem s14_1 {f : RG} {nx0 : RG → List AObj → Prop} : W prog J 38 n0 14 (subC [1, 1, 1, 1, 0, 1, 0, 0] (codeOf f14)) f h (thenK nx0 (contX pl14 prog J 38 n0 14 ct14 [1, 1, 1, 1, 0, 1, 0] (codeOf f14) [] (RetQ prog [.tmp 4] n0 K))) =
(aBin prog .lss 3 (f.r 7) (f.r 0) fun v1 =>
cnd v1
(Sem J 38 n0 14 (subC [1, 1, 1, 1, 0, 1, 0, 0, 1, 0, 0, 1, 0] (codeOf f14)) (RG.p (RG.p (RG.p (RG.p f 16 (f.r 7)) 17 (f.r 0)) 18 v1) 8 (vint 0)) h (contX pl14 prog J 38 n0 14 ct14 [1, 1, 1, 1, 0, 1, 0, 0, 1, 0, 0, 1, 0] (codeOf f14) [nx0] (RetQ prog [.tmp 4] n0 K)))
(retL n0 K f.ds [(f.r 5)] h)) := sub_eq pok14 ct14 (by kernel_rfl)
theorem l14_1 (hJ : Closed prog main J) {S : Type} (μ : S → Nat) (I : S → RG → List AObj → Prop) (hI : ∀ s f h, I s f h → heapOk h → n0 ≤ h.length → W prog J 38 n0 14 (subC [1, 1, 1, 1, 0, 1, 0, 0] (codeOf f14)) f h (thenK (Nx n0 μ I s) (contX pl14 prog J 38 n0 14 ct14 [1, 1, 1, 1, 0, 1, 0] (codeOf f14) [] (RetQ prog [.tmp 4] n0 K))))
 {s : S} {f : RG} (hi : Gets n0 I s f h) : Sem J 38 n0 14 (subC [1, 1, 1, 1, 0, 1, 0] (codeOf f14)) f h (contX pl14 prog J 38 n0 14 ct14 [1, 1, 1, 1, 0, 1, 0] (codeOf f14) [] (RetQ prog [.tmp 4] n0 K)) :=
 loop_rule hJ mixed (b := subC [1, 1, 1, 1, 0, 1, 0, 0] (codeOf f14)) (by kernel_rfl) μ I hI hi
theorem s14_2 {f : RG} {nx0 nx1 : RG → List AObj → Prop} : W prog J 38 n0 14 (subC [1, 1, 1, 1, 0, 1, 0, 0, 1, 0, 0, 1, 0, 0] (codeOf f14)) f h (thenK nx1 (contX pl14 prog J 38 n0 14 ct14 [1, 1, 1, 1, 0, 1, 0, 0, 1, 0, 0, 1, 0] (codeOf f14) [nx0] (RetQ prog [.tmp 4] n0 K))) =
(aLenS (f.r 6) fun v1 =>
aBin prog .lss 3 (f.r 8) v1 fun v2 =>
cnd v2
((((1 * 1 : Nat) ≤ 16777216 ∧ (1 : Nat) ≤ 16777216 ∧ List.length [(vint 0)] = 1) ∧ aFill (zrep [(vint 0)] 1) [(0, 1, (f.r 7))] fun c3 =>
aNewS 1 c3 h fun v4 h5 =>
aIdx 1 (f.r 6) (f.r 8) fun v6 =>
aLoad false 1 v6 h5 fun v7 =>
((List.length [(vint 0)] = 1 ∧ 0 < (1 : Nat) ∧ 0 < (8 : Nat) ∧ (8 : Nat) ≤ 1024) ∧ aApp 1 v4 v7 h5 fun v8 h9 =>
(((1 * 1 : Nat) ≤ 16777216 ∧ (1 : Nat) ≤ 16777216 ∧ List.length [(Value.slice none 0 0)] = 1) ∧ aFill (zrep [(Value.slice none 0 0)] 1) [(0, 1, v8)] fun c10 =>
aNewS 1 c10 h9 fun v11 h12 =>
((List.length [(Value.slice none 0 0)] = 1 ∧ 0 < (1 : Nat) ∧ 0 < (24 : Nat) ∧ (24 : Nat) ≤ 1024) ∧ aApp 1 (f.r 5) v11 h12 fun v13 h14 =>
aBin prog .add 3 (f.r 8) (vint 1) fun v15 =>
nx1 (RG.p (RG.p (RG.p (RG.p (RG.p (RG.p (RG.p (RG.p (RG.p (RG.p (RG.p (RG.p (RG.p (RG.p (RG.p (RG.p (RG.p (RG.p f 21 (f.r 8)) 22 (f.r 6)) 23 v1) 24 v2) 27 (f.r 5)) 28 (f.r 7)) 29 v4) 30 (f.r 6)) 31 (f.r 8)) 32 v6) 33 v7) 34 v8) 35 v11) 36 v13) 5 v13) 25 (f.r 8)) 26 v15) 8 v15) h14)))))
(aBin prog .add 3 (f.r 7) (vint 1) fun v16 =>
nx0 (RG.p (RG.p (RG.p (RG.p (RG.p (RG.p (RG.p f 21 (f.r 8)) 22 (f.r 6)) 23 v1) 24 v2) 19 (f.r 7)) 20 v16) 7 v16) h)) := sub_eq pok14 ct14 (by kernel_rfl)
theorem l14_2 (hJ : Closed prog main J) {nx0 : RG → List AObj → Prop} {S : Type} (μ : S → Nat) (I : S → RG → List AObj → Prop) (hI : ∀ s f h, I s f h → heapOk h → n0 ≤ h.length → W prog J 38 n0 14 (subC [1, 1, 1, 1, 0, 1, 0, 0, 1, 0, 0, 1, 0, 0] (codeOf f14)) f h (thenK (Nx n0 μ I s) (contX pl14 prog J 38 n0 14 ct14 [1, 1, 1, 1, 0, 1, 0, 0, 1, 0, 0, 1, 0] (codeOf f14) [nx0] (RetQ prog [.tmp 4] n0 K))))
 {s : S} {f : RG} (hi : Gets n0 I s f h) : Sem J 38 n0 14 (subC [1, 1, 1, 1, 0, 1, 0, 0, 1, 0, 0, 1, 0] (codeOf f14)) f h (contX pl14 prog J 38 n0 14 ct14 [1, 1, 1, 1, 0, 1, 0, 0, 1, 0, 0, 1, 0] (codeOf f14) [nx0] (RetQ prog [.tmp 4] n0 K)) :=
 loop_rule hJ mixed (b := subC [1, 1, 1, 1, 0, 1, 0, 0, 1, 0, 0, 1, 0, 0] (codeOf f14)) (by kernel_rfl) μ I hI hi
end
end Go.Proofs.Ytdbammacnfojdaa
namespace Go.Proofs.Ytdbammacnfojdaa
open Go.Conc Go.Proofs.Try
set_option maxRecDepth 100000
def OwnL (n : Nat) (H : List AObj) (v : Value) (ls : List (List Int)) (o : Option Nat) : Prop :=
 (∀ j, o = some j → n ≤ j) ∧ ∃ cs, OwnX H 1 cs ls.length v o ∧ ∀ (i : Nat) l, ls[i]? = some l → ∃ lv b, cs[i]? = some lv ∧ OwnX H 1 (l.map vint) l.length lv b ∧ ∀ j, b = some j → some j ≠ o ∧ n ≤ j
theorem OwnL.keep {n : Nat} {H H' : List AObj} {v : Value} {ls : List (List Int)} {o : Option Nat} (a : OwnL n H v ls o) (S : SameX [] H H') : OwnL n H' v ls o := by
 obtain ⟨h1, cs, O, he⟩ := a
 refine ⟨h1, cs, ownX_keep O S (by simp), fun i l hl => ?_⟩
 obtain ⟨lv, b, e1, e2, e3⟩ := he i l hl
 exact ⟨lv, b, e1, ownX_keep e2 S (by simp), e3⟩
def partG (hd : Nat → Int) (g : Nat → List (List Int)) (i k : Nat) : List (List Int) := ((List.range i).flatMap fun j => (g j).map (hd j :: ·)) ++ ((g i).take k).map (hd i :: ·)
section
variable {hd : Nat → Int} {g : Nat → List (List Int)} {i k : Nat}
theorem partG_zero : partG hd g i 0 = (List.range i).flatMap fun j => (g j).map (hd j :: ·) := by unfold partG; simp
theorem partG_all : partG hd g i (g i).length = partG hd g (i + 1) 0 := by
 rw [partG_zero]
 unfold partG
 rw [List.take_length, List.range_succ, List.flatMap_append]
 simp
theorem partG_succ {w : List Int} (hw : (g i)[k]? = some w) : partG hd g i (k + 1) = partG hd g i k ++ [hd i :: w] := by
 unfold partG
 rw [List.take_add_one, hw, List.map_append, List.append_assoc]
 rfl
theorem partG_le {B : Nat} (hB : ∀ j, (g j).length ≤ B) : (partG hd g i k).length ≤ (i + 1) * B := by
 have h : ∀ i, ((List.range i).flatMap fun j => (g j).map (hd j :: ·)).length ≤ i * B := by
  intro i
  induction i with
  | zero => simp
  | succ i ih =>
   rw [List.range_succ, List.flatMap_append, List.length_append, Nat.succ_mul]
   have := hB i
   simp only [List.flatMap_cons, List.flatMap_nil, List.append_nil, List.length_map]
   omega
 have h1 := h i
 have h2 := hB i
 unfold partG
 rw [List.length_append, List.length_map, List.length_take, Nat.succ_mul]
 have := Nat.min_le_right k (g i).length
 omega
end
section
variable {h H : List AObj} {K : Value → List AObj → Prop} {KV : Value → Prop} {HL : List AObj → Prop} {n0 : Nat}
theorem fill_one {m : List Value} {o s : Nat} {v : Value} {l : List Value} {ps : List (Nat × Nat × Value)} {KL : List Value → Prop} (hv : v.cells.toList = l) (hs : l.length = s) (ho : l.all one = true) (hl : o + s ≤ m.length) (hk : aFill (wrAt m o l) ps KL) : aFill m ((o, s, v) :: ps) KL := by
 subst hv
 exact ⟨hs, ho, hl, hk⟩
theorem ownX_app {s len m : Nat} {cs e : List Value} {v y : Value} {o : Option Nat} (ho : OwnX H s cs len v o) (hs : 0 < s) (hl : len + m < 1000) (hm : 0 < m) (hy : Sli H y s m e)
  (hk : ∀ v' H' p, p = H.length → OwnX H' s (cs ++ e) (len + m) v' (some p) → SameX o.toList H H' → H'.length = p + 1 → K v' H') : aApp s v y H K := by
 have hr : room = 1073741824 := rfl
 have hel := sli_vlen hy
 have hek : kn e = true := by
  obtain ⟨_, _, _, ⟨_, h⟩, _⟩ := hy
  exact h
 have new : ∀ H1 : List AObj, H1.length = H.length → SameX o.toList H H1 → cs.length = len * s → kn cs = true → K (.slice (some ⟨H.length, 0, none⟩) (len + m) fz) (H1 ++ [.cells (cs ++ e) true s]) := by
  intro H1 hH1 S h1 h2
  refine hk _ _ H.length rfl ⟨?_, ?_, .inr ⟨H.length, fz, s, rfl, rfl, by simp [← hH1], .inl ⟨rfl, rfl⟩⟩⟩ ?_ (by simp [hH1])
  ·rw [List.length_append, hel, h1, Nat.add_mul]
  ·unfold kn at *
   rw [List.all_append, h2, hek]
   rfl
  ·exact S.app
 obtain ⟨h1, h2, ⟨rfl, rfl, rfl⟩ | ⟨i, c, sz, rfl, rfl, h5, h6⟩⟩ := ho
 ·have hcs : cs = [] := List.length_eq_zero_iff.1 (by omega)
  subst hcs
  refine app_nil hs hy (by omega) (fun e => absurd e (by omega)) fun _ => ?_
  have := new H rfl SameX.refl h1 h2
  simpa using this
 ·have hlt := (List.getElem?_eq_some_iff.1 h5).1
  have ht : cs.take (len * s) = cs := List.take_of_length_le (by omega)
  rcases h6 with ⟨rfl, rfl⟩ | rfl
  ·refine app_own (cs := cs) h5 (by omega) (by rw [ht]; exact h2) hs hy (by omega) ?_
   rw [ht]
   exact new _ (by simp) (SameX.refl.set (.inl (by simp))) h1 h2
  ·refine app_copy (cs := cs) h5 (by omega) (by rw [List.drop_zero, ht]; exact h2) (by omega) hs hy (by omega) ?_
   rw [List.drop_zero, ht]
   exact new H rfl SameX.refl h1 h2
theorem OwnL.get {n i : Nat} {v : Value} {ls : List (List Int)} {o : Option Nat} (a : OwnL n H v ls o) {l : List Int} (hl : ls[i]? = some l) {K2 : Value → Value → Prop} (hK : ∀ p lv b, OwnX H 1 (l.map vint) l.length lv b → (∀ j, b = some j → n ≤ j) → K2 p lv) : aIdx 1 v (vint (i : Nat)) fun p => aLoad false 1 p H (K2 p) := by
 obtain ⟨h1, cs, O, he⟩ := a
 obtain ⟨lv, b, e1, e2, e3⟩ := he i l hl
 have hi := (List.getElem?_eq_some_iff.1 hl).1
 exact idx_load (ownX_sli O) ⟨by omega, by omega⟩ (by rw [Int.toNat_natCast]; exact e1) fun p => hK p lv b e2 fun j hj => (e3 j hj).2
theorem app_zero {x y : Value} {p : Nat} (hp : H[p]? = some (.cells [x] true 0)) (hk : kn1 x = true) (hy : Sli H y 1 0 []) (hK : K (.slice (some ⟨p, 0, none⟩) 1 1) H) : aApp 1 (.slice (some ⟨p, 0, none⟩) 1 1) y H K := by
 have hfz : (1000 : Nat) < fz := by decide
 have hrm : (2000 : Nat) < room := by decide
 obtain ⟨yb, yc, rfl, hyk, hh⟩ := id hy
 refine ⟨by omega, src_sli hy (by omega) ?_⟩
 simp only [hp]
 refine ⟨⟨by simp, by simp [kn]; exact hk⟩, fun _ => ⟨fun _ => ⟨trivial, by simp, ?_⟩, fun h => absurd h (by omega)⟩, fun h => absurd h (by omega)⟩
 have e : H.set p (.cells (wrAt [x] (0 + 1 * 1) []) true 0) = H := by
  apply List.ext_getElem?
  intro i
  rw [List.getElem?_set]
  split
  ·rename_i e
   subst e
   rw [if_pos (lt_of_get hp)]
   simpa [wrAt] using hp.symm
  ·rfl
 rw [e]
 exact hK
theorem app_cons {He : List AObj} {pe : Nat} {x : Int} {w : List Int} {lv : Value} (ce : He[pe]? = some (.cells [vint x] true 0)) (hw : Sli He lv 1 w.length (w.map vint)) (hwl : w.length < 900)
  (hK : ∀ H' wv b, SameX [pe] He H' → OwnX H' 1 ((x :: w).map vint) (x :: w).length wv (some b) → (b = pe ∨ He.length ≤ b) → K wv H') : aApp 1 (.slice (some ⟨pe, 0, none⟩) 1 1) lv He K := by
 have Op := ownX_new (s := 1) (n := 1) (l := [vint x]) ce rfl rfl
 by_cases h0 : w.length = 0
 ·have : w = [] := List.length_eq_zero_iff.1 h0
  subst this
  exact app_zero ce rfl hw (hK He _ pe SameX.refl Op (.inl rfl))
 ·refine ownX_app Op (by omega) (by omega) (by omega) hw fun v8 H9 p9 e9 O9 S9 l9 => hK H9 v8 p9 S9 ?_ (.inr (by omega))
  have e1 : (x :: w).length = 1 + w.length := by simp; omega
  rw [e1]
  exact O9
theorem OwnL.more {lo : Nat} {H : List AObj} {ls : List (List Int)} {o : Option Nat} {v y wv : Value} {l : List Int} {bf : Nat} {K : Value → List AObj → Prop}
  (L : OwnL lo H v ls o) (hlo : lo ≤ H.length) (hpl : ls.length < 900) (Of : OwnX H 1 (l.map vint) l.length wv (some bf)) (hbf : lo ≤ bf) (hne : some bf ≠ o) (hyv : Sli H y 1 1 [wv])
  (hK : ∀ v' H' o', SameX o.toList H H' → OwnL lo H' v' (ls ++ [l]) (some o') → H.length ≤ o' → v' ≠ unk → K v' H') : aApp 1 v y H K := by
 obtain ⟨hl0, cs, Oc, he⟩ := L
 have bfl := ownX_lt Of bf rfl
 refine ownX_more Oc (by omega) (by omega) hyv fun v' Hh ph eh Oh Sh => ?_
 have hno : ∀ j, some j ≠ o → j ∉ o.toList := fun j hj hm => hj (by rw [Option.mem_toList.1 hm])
 refine hK v' Hh ph Sh ⟨fun j hj => by cases hj; omega, cs ++ [wv], by rw [List.length_append]; exact Oh, fun m l' hl => ?_⟩ (by omega) ?_
 ·have hcl : cs.length = ls.length := by have := Oc.1; omega
  rcases Nat.lt_or_ge m ls.length with hm | hm
  ·rw [List.getElem?_append_left hm] at hl
   obtain ⟨lv2, b2, e2, e3, e4⟩ := he m l' hl
   refine ⟨lv2, b2, by rw [List.getElem?_append_left (by omega)]; exact e2, ownX_keep e3 Sh fun j hj => hno j (e4 j hj).1, fun j hj => ⟨?_, (e4 j hj).2⟩⟩
   have := ownX_lt e3 j hj
   intro e
   injection e with e
   omega
  ·rw [List.getElem?_append_right hm] at hl
   have hm0 : m - ls.length = 0 := by
    have := (List.getElem?_eq_some_iff.1 hl).1
    simp at this
    omega
   rw [hm0] at hl
   have : l' = l := by simpa using hl.symm
   subst this
   refine ⟨wv, some bf, by rw [List.getElem?_append_right (by omega), hcl, hm0]; rfl, ownX_keep Of Sh fun j hj => ?_, fun j hj => ?_⟩
   ·cases hj
    exact hno _ hne
   ·cases hj
    refine ⟨fun e => ?_, hbf⟩
    injection e with e
    omega
 ·have := (ownX_val Oh).2.2
  intro e
  rw [e] at this
  cases this
theorem one_nil {lo : Nat} {p : Nat} (c : H[p]? = some (.cells [.slice none 0 0] true 0)) (hp : lo ≤ p) : OwnL lo H (.slice (some ⟨p, 0, none⟩) 1 1) [[]] (some p) := by
 refine ⟨fun j hj => by cases hj; exact hp, _, ownX_new (s := 1) (n := 1) c rfl rfl, fun i l hl => ?_⟩
 cases i with
 | zero =>
  have : l = [] := by simpa using hl.symm
  subst this
  exact ⟨_, none, rfl, ⟨rfl, rfl, .inl ⟨rfl, rfl, rfl⟩⟩, by simp⟩
 | succ i => simp at hl
theorem OwnL.nil {lo : Nat} : OwnL lo H (.slice none 0 0) [] none := ⟨by simp, [], ⟨rfl, rfl, .inl ⟨rfl, rfl, rfl⟩⟩, by simp⟩
theorem OwnL.lo {n m : Nat} {v : Value} {ls : List (List Int)} {o : Option Nat} (a : OwnL n H v ls o) (h : m ≤ n) : OwnL m H v ls o := by
 obtain ⟨a1, cs, a2, a3⟩ := a
 exact ⟨fun j hj => by have := a1 j hj; omega, cs, a2, fun i l hl => by
  obtain ⟨lv, b, q1, q2, q3⟩ := a3 i l hl
  exact ⟨lv, b, q1, q2, fun j hj => ⟨(q3 j hj).1, by have := (q3 j hj).2; omega⟩⟩⟩
theorem OwnL.keepX {n : Nat} {H' : List AObj} {X : List Nat} {v : Value} {ls : List (List Int)} {o : Option Nat} (a : OwnL n H v ls o) (S : SameX X H H') (hX : ∀ x ∈ X, x < n) : OwnL n H' v ls o := by
 obtain ⟨h1, cs, O, he⟩ := a
 refine ⟨h1, cs, ownX_keep O S fun i hi hm => ?_, fun i l hl => ?_⟩
 ·have := h1 i hi
  have := hX i hm
  omega
 ·obtain ⟨lv, b, e1, e2, e3⟩ := he i l hl
  exact ⟨lv, b, e1, ownX_keep e2 S fun j hj hm => by have := (e3 j hj).2; have := hX j hm; omega, e3⟩
theorem OwnL.lt {n : Nat} {v : Value} {ls : List (List Int)} {o : Option Nat} (a : OwnL n H v ls o) : ∀ j, o = some j → n ≤ j ∧ j < H.length := fun j hj => ⟨a.1 j hj, ownX_lt a.2.choose_spec.1 j hj⟩
theorem OwnL.sli {n : Nat} {v : Value} {ls : List (List Int)} {o : Option Nat} (a : OwnL n H v ls o) : ∃ cs, Sli H v 1 ls.length cs := ⟨_, ownX_sli a.2.choose_spec.1⟩
theorem OwnL.nunk {n : Nat} {v : Value} {ls : List (List Int)} {o : Option Nat} (a : OwnL n H v ls o) : v ≠ unk := by
 have := (ownX_val a.2.choose_spec.1).2.2
 intro e
 rw [e] at this
 cases this
end
def wordsR (F : Nat) : Nat → List (List Int)
 | 0 => [[]]
 | n + 1 => (List.range F).flatMap fun (i : Nat) => (wordsR F n).map ((i : Int) :: ·)
theorem wordsR_len {F : Nat} : ∀ n, (wordsR F n).length = F ^ n
 | 0 => rfl
 | n + 1 => by
  have h : ∀ i, ((List.range i).flatMap fun (i : Nat) => (wordsR F n).map ((i : Int) :: ·)).length = i * F ^ n := by
   intro i
   induction i with
   | zero => simp
   | succ i ih => rw [List.range_succ, List.flatMap_append, List.length_append, ih]; simp [wordsR_len n, Nat.add_mul]
  show ((List.range F).flatMap _).length = _
  rw [h, Nat.pow_succ, Nat.mul_comm]
theorem words_of {F : Nat} : ∀ {n : Nat} {w : List Int}, w ∈ wordsR F n → w.length = n ∧ ∀ x ∈ w, 0 ≤ x ∧ x < F
 | 0, w, h => by
  have : w = [] := by simpa [wordsR] using h
  subst this
  simp
 | n + 1, w, h => by
  unfold wordsR at h
  obtain ⟨i, hi, h⟩ := List.mem_flatMap.1 h
  obtain ⟨u, hu, rfl⟩ := List.mem_map.1 h
  have hi := List.mem_range.1 hi
  obtain ⟨a, b⟩ := words_of hu
  refine ⟨by simp [a], fun x hx => ?_⟩
  rcases List.mem_cons.1 hx with rfl | hx
  ·omega
  ·exact b x hx
section
variable {main : Bool} {J : JT}
theorem good14 (hJ : Closed prog main J) {F : Nat} (hF : 1 ≤ F ∧ F ≤ 3) : ∀ (n : Nat) {H : List AObj} {K : Value → List AObj → Prop}, n ≤ 8 → F ^ n ≤ 243 →
  (∀ H' v o, SameX [] H H' → OwnL H.length H' v (wordsR F n) o → v ≠ unk → K v H') → Good prog J 14 [vint (F : Nat), vint (n : Nat)] H K
 | 0, H, K, _, _, hK => by
  refine g14 hJ fun ok => ?_
  rw [e14]
  refine eqlI (cndI (fun _ => ?_) fun hx => absurd rfl hx)
  refine ⟨by decide, fill_one (l := [.slice none 0 0]) rfl rfl rfl (by decide) (fillI (qNew fun H1 p1 e1 S1 c1 l1 => retL_same (by simp [unk]) ?_))⟩
  have L : OwnL H.length H1 (.slice (some ⟨p1, 0, none⟩) 1 1) (wordsR F 0) (some p1) := one_nil (lo := H.length) (p := p1) c1 (by omega)
  exact hK H1 _ _ S1 L L.nunk
 | n + 1, H, K, hn, hb, hK => by
  refine g14 hJ fun ok => ?_
  rw [e14]
  refine eqlI (cndI (fun hx => absurd hx (by omega)) fun _ => subI (by omega) ?_)
  rw [show (((n + 1 : Nat) : Int) - 1) = ((n : Nat) : Int) by omega]
  have hbd : F ^ n ≤ 243 := Nat.le_trans (Nat.pow_le_pow_right hF.1 (by omega)) hb
  have hlen := wordsR_len (F := F) n
  refine good14 hJ hF n (by omega) hbd fun H1 av ao S1 A1 _ => ?_
  refine l14_1 hJ (fun i : Nat => F - i) (fun i Fr H' => ∃ v o, SameX [] H1 H' ∧ i ≤ F ∧ OwnL H1.length H' v (partG (fun j => (j : Int)) (fun _ => wordsR F n) i 0) o ∧ Fr.ds = [] ∧ Fr.r 0 = vint (F : Nat) ∧ Fr.r 5 = v ∧ Fr.r 6 = av ∧ Fr.r 7 = vint (i : Nat)) ?_ (s := 0)
   (.inl ⟨.slice none 0 0, none, SameX.refl, by omega, by rw [partG_zero]; exact OwnL.nil, rfl, rfl, rfl, rfl, rfl⟩)
  rintro i Fr Hc ⟨v, o, Sc, hi, Lc, ds, r0, r5, r6, r7⟩ okc hnc
  rw [s14_1, r0, r5, r7, ds]
  refine lssI (cndI (fun hlt => ?_) fun hge => ?_)
  rotate_left
  ·have : i = F := by omega
   subst this
   rw [partG_zero] at Lc
   exact retL_same (by simpa using Lc.nunk) (hK Hc v o (S1.trans Sc) (Lc.lo S1.1) Lc.nunk)
  have hiF : i < F := by omega
  refine l14_2 hJ (fun k : Nat => (wordsR F n).length - k) (fun k Fr H' => ∃ v o, SameX [] H1 H' ∧ k ≤ (wordsR F n).length ∧ OwnL H1.length H' v (partG (fun j => (j : Int)) (fun _ => wordsR F n) i k) o ∧ Fr.ds = [] ∧ Fr.r 0 = vint (F : Nat) ∧ Fr.r 5 = v ∧ Fr.r 6 = av ∧ Fr.r 7 = vint (i : Nat) ∧ Fr.r 8 = vint (k : Nat)) ?_ (s := 0)
   (.inl ⟨v, o, Sc, by omega, Lc, ds, r0, r5, r6, r7, rfl⟩)
  clear ds r0 r5 r6 r7 okc hnc
  rintro k Fr Hd ⟨v, o, Sd, hk, Ld, ds, r0, r5, r6, r7, r8⟩ okd hnd
  have Ad := A1.keep Sd
  obtain ⟨ac, sA⟩ := Ad.sli
  rw [s14_2, r5, r6, r7, r8]
  refine lenI sA (lssI (cndI (fun hlt3 => ?_) fun hge3 => ?_))
  rotate_left
  ·have hke : k = (wordsR F n).length := by omega
   subst hke
   refine addI (by omega) ⟨i + 1, by dsimp only; omega, .inl ⟨v, o, Sd, by omega, ?_, ds, r0, r5, r6, ?_⟩⟩
   ·have e := partG_all (hd := fun j => (j : Int)) (g := fun _ => wordsR F n) (i := i)
    rw [← e]
    exact Ld
   ·show vint _ = vint _
    congr 1
  have hkl : k < (wordsR F n).length := by omega
  obtain ⟨w, hw⟩ : ∃ w, (wordsR F n)[k]? = some w := ⟨_, List.getElem?_eq_getElem hkl⟩
  have hwl := (words_of (List.mem_of_getElem? hw)).1
  have hSd := Sd.1
  have hld := Ld.lt
  refine ⟨by decide, fill_one (l := [vint (i : Nat)]) rfl rfl rfl (by decide) (fillI (qNew fun He pe ee Se ce le => ?_))⟩
  have ce : He[pe]? = some (.cells [vint (i : Nat)] true 0) := ce
  refine (Ad.keep Se).get hw fun q wv bw Ow _ => ⟨by decide, app_cons ce (ownX_sli Ow) (by omega) fun Hf wv2 bf Sf Of hbf => ?_⟩
  have hSe := Se.1
  have Tf : SameX [] Hd Hf := Se.thru Sf (by simp; omega)
  have hbfl := ownX_lt Of bf rfl
  obtain ⟨w1, w2, w3⟩ := ownX_val Of
  refine ⟨by decide, fill_one (l := [wv2]) (by rw [w1]) rfl (by simp [w2]) (by decide) (fillI (qNew fun Hg pg eg Sg cg lg => ⟨by decide, ?_⟩))⟩
  have cg : Hg[pg]? = some (.cells [wv2] true 0) := cg
  have Tg := Tf.trans Sg
  have hpl := partG_le (hd := fun j => (j : Int)) (g := fun _ => wordsR F n) (i := i) (k := k) (B := 243) (fun _ => by omega)
  refine ((Ld.keep Tg).more (by have := Tg.1; omega) (by omega) (ownX_keep Of Sg (by simp)) (by omega) (fun e => by have := hld bf e.symm; omega) (ownX_sli (ownX_new (s := 1) (n := 1) (l := [wv2]) cg rfl (by simp [kn]; exact w3))) fun v' Hh o' Sh Lh ho' _ => ?_)
  refine addI (by omega) ⟨k + 1, by dsimp only; omega, .inl ⟨v', some o', (Sd.trans Tg).thru Sh (fun y hy => .inr (hld y (Option.mem_toList.1 hy)).1), by omega, ?_, ds, r0, rfl, r6, r7, by show vint _ = vint _; congr 1⟩⟩
  have e := partG_succ (hd := fun j => (j : Int)) (g := fun _ => wordsR F n) (i := i) (k := k) hw
  rw [e]
  exact Lh
end
def strsB : Nat → List (List UInt8)
 | 0 => [[]]
 | n + 1 => (strsB n).map (100 :: ·) ++ (strsB n).map (119 :: ·)
def fallX (s : SkyR) : Spl → List UInt8 → Bool
 | _, [] => true
 | x, c :: u => nextOk s x c && fallX s (nextX x c) u
theorem growB_strs {s : SkyR} : ∀ {n : Nat} {w : List UInt8} {x : Spl}, growB s n w x = ((strsB n).filter (fallX s x)).map (w ++ ·)
 | 0, w, x => by
  have e : List.filter (fallX s x) [[]] = [[]] := by
   rw [List.filter_cons, if_pos (show fallX s x [] = true by unfold fallX; rfl)]
   rfl
  show [w] = (List.filter (fallX s x) [[]]).map (w ++ ·)
  rw [e]
  simp
 | n + 1, w, x => by
  have part : ∀ c : UInt8, (if nextOk s x c = true then growB s n (w ++ [c]) (nextX x c) else []) = (((strsB n).map (c :: ·)).filter (fallX s x)).map (w ++ ·) := by
   intro c
   rw [List.filter_map]
   by_cases h : nextOk s x c = true
   ·rw [if_pos h, growB_strs]
    have : (fallX s x ∘ fun x => c :: x) = fallX s (nextX x c) := by
     funext u
     show (nextOk s x c && fallX s (nextX x c) u) = _
     rw [h, Bool.true_and]
    rw [this, List.map_map]
    congr 1
    funext u
    simp
   ·rw [if_neg h]
    have h' : nextOk s x c = false := by simpa using h
    have : (fallX s x ∘ fun x => c :: x) = fun _ => false := by
     funext u
     show (nextOk s x c && fallX s (nextX x c) u) = _
     rw [h', Bool.false_and]
    rw [this]
    simp
  unfold growB strsB
  rw [part, part, List.filter_append, List.map_append]
theorem rainsB_strs {s : SkyR} : rainsB s = (strsB s.days.toNat).filter (fallX s (0, 0)) := by
 unfold rainsB
 rw [growB_strs]
 simp
theorem strsB_len : ∀ {n : Nat}, ∀ u ∈ strsB n, u.length = n ∧ ∀ c ∈ u, c = 100 ∨ c = 119
 | 0, u, hu => by
  rw [List.mem_singleton.1 hu]
  exact ⟨rfl, by simp⟩
 | n + 1, u, hu => by
  unfold strsB at hu
  rcases List.mem_append.1 hu with hu | hu <;> obtain ⟨v, hv, rfl⟩ := List.mem_map.1 hu <;> obtain ⟨h1, h2⟩ := strsB_len v hv
  ·exact ⟨by rw [List.length_cons, h1], fun c hc => by
   rcases List.mem_cons.1 hc with h | h
   ·exact .inl h
   ·exact h2 c h⟩
  ·exact ⟨by rw [List.length_cons, h1], fun c hc => by
   rcases List.mem_cons.1 hc with h | h
   ·exact .inr h
   ·exact h2 c h⟩
theorem words_mem {F : Nat} : ∀ {n : Nat} {w : List Int}, w.length = n → (∀ x ∈ w, 0 ≤ x ∧ x < F) → w ∈ wordsR F n
 | 0, w, h, _ => by
  rw [List.length_eq_zero_iff.1 h]
  simp [wordsR]
 | n + 1, [], h, _ => by cases h
 | n + 1, a :: w, h, hb => by
  unfold wordsR
  obtain ⟨h1, h2⟩ := hb a (by simp)
  refine List.mem_flatMap.2 ⟨a.toNat, List.mem_range.2 (by omega), List.mem_map.2 ⟨w, words_mem (by simpa using h) fun x hx => hb x (by simp [hx]), ?_⟩⟩
  rw [Int.toNat_of_nonneg h1]
theorem find_same {α : Type} {p q : α → Bool} : ∀ {l : List α}, (∀ x ∈ l, p x = q x) → l.find? p = l.find? q
 | [], _ => rfl
 | x :: l, h => by
  rw [List.find?_cons, List.find?_cons, h x (by simp), find_same fun y hy => h y (by simp [hy])]
def okP (p : Pas) : Std → List Int → List UInt8 → Bool
 | x, n :: hs, c :: u => !hungR x n && okP p (dayR p x n (wetB c)) hs u
 | _, _, _ => true
theorem okP_drop {p : Pas} {hs : List Int} {u : List UInt8} (hl : hs.length = u.length) : ∀ {n k : Nat}, k + n = u.length → (okP p (stdR p hs u k) (hs.drop k) (u.drop k) = true ↔ ∀ i, k ≤ i → i < u.length → hungAt p hs u i = false)
 | 0, k, h => by
  rw [List.drop_of_length_le (by omega), List.drop_of_length_le (by omega)]
  exact ⟨fun _ i h1 h2 => absurd h2 (by omega), fun _ => rfl⟩
 | n + 1, k, h => by
  have hk : k < u.length := by omega
  have hk2 : k < hs.length := by omega
  rw [List.drop_eq_getElem_cons hk, List.drop_eq_getElem_cons hk2]
  have hg : u[k] = u.getD k 0 := by
   rw [List.getD_eq_getElem?_getD, List.getElem?_eq_getElem hk]
   rfl
  have hg2 : hs[k] = hs.getD k 0 := by
   rw [List.getD_eq_getElem?_getD, List.getElem?_eq_getElem hk2]
   rfl
  rw [hg, hg2]
  show (!hungAt p hs u k && okP p (stdR p hs u (k + 1)) (hs.drop (k + 1)) (u.drop (k + 1))) = true ↔ _
  rw [Bool.and_eq_true, okP_drop hl (n := n) (by omega)]
  constructor
  ·rintro ⟨h1, h2⟩ i hi1 hi2
   by_cases e : i = k
   ·rw [e]
    simpa using h1
   ·exact h2 i (by omega) hi2
  ·intro hh
   exact ⟨by rw [hh k (Nat.le_refl _) hk]; rfl, fun i h1 h2 => hh i (by omega) h2⟩
theorem okP_all {p : Pas} {hs : List Int} {u : List UInt8} (hl : hs.length = u.length) : okP p (p.grass, 0) hs u = true ↔ starvR p hs u < 0 := by
 have := okP_drop (p := p) hl (n := u.length) (k := 0) (by omega)
 rw [List.drop_zero, List.drop_zero] at this
 refine this.trans ⟨fun h => ?_, fun h i _ hi => ?_⟩
 ·have : starvR p hs u = -1 := fstH_none fun i hi => h i (Nat.zero_le _) hi
  rw [this]
  decide
 ·cases e : hungAt p hs u i with
  | false => rfl
  | true => exact absurd h (starv_some hi e)
def ownW (w : List Int) (k : Nat) (heads : Int) : List Int := w.map fun a => if a = (k : Int) then heads else 0
def fedAll (ls : List Pas) (heads : Int) : Wd → List Int → List UInt8 → Bool
 | x, a :: w, c :: u => gzB ls a.toNat heads x (nextX x.sp c) && fedAll ls heads (gzW ls a.toNat heads x (nextX x.sp c)) w u
 | _, _, _ => true
theorem gzK_fed {ls : List Pas} {at_ : Nat} {heads : Int} {wet : Bool} {w : Wd} : ∀ n, n ≤ 3 → ((gzK ls at_ heads wet w n).2 = true ↔ ∀ k, k < n → hungR (w.st k) (nAt at_ heads k) = false)
 | 0, _ => ⟨fun _ k h => absurd h (Nat.not_lt_zero _), fun _ => rfl⟩
 | n + 1, h => by
  show ((gzK ls at_ heads wet w n).2 && !hungR ((gzK ls at_ heads wet w n).1.st n) (nAt at_ heads n)) = true ↔ _
  rw [gzK_rest n (by omega) n (Nat.le_refl _) (by omega), Bool.and_eq_true, gzK_fed n (by omega)]
  constructor
  ·rintro ⟨h1, h2⟩ k hk
   by_cases e : k = n
   ·rw [e]
    simpa using h2
   ·exact h1 k (by omega)
  ·intro hh
   exact ⟨fun k hk => hh k (by omega), by rw [hh n (by omega)]; rfl⟩
theorem gzK_st {ls : List Pas} {at_ : Nat} {heads : Int} {wet : Bool} {w : Wd} : ∀ n, n ≤ 3 → ∀ k, k < n → (gzK ls at_ heads wet w n).1.st k = dayR (ls.getD k pas0) (w.st k) (nAt at_ heads k) wet
 | 0, _, k, hk => absurd hk (Nat.not_lt_zero _)
 | n + 1, h, k, hk => by
  show ((gzK ls at_ heads wet w n).1.lay n _).st k = _
  rw [Wd.st_lay _ _ (by omega) (by omega)]
  by_cases e : k = n
  ·rw [if_pos e, e, gzK_rest n (by omega) n (Nat.le_refl _) (by omega)]
  ·rw [if_neg e]
   exact gzK_st n (by omega) k (by omega)
theorem nextX_c {x : Spl} {c : UInt8} : (nextX x c).1 = c := by
 unfold nextX
 split
 ·rfl
 ·rfl
theorem gzW_st {ls : List Pas} (h3 : ls.length ≤ 3) {at_ : Nat} {heads : Int} {w : Wd} {x : Spl} {k : Nat} (hk : k < ls.length) : (gzW ls at_ heads w x).st k = dayR (ls.getD k pas0) (w.st k) (nAt at_ heads k) (wetB x.1) := by
 have e : (gzW ls at_ heads w x).st k = (gzK ls at_ heads (wetB x.1) w ls.length).1.st k := by
  match k with
  | 0 => rfl
  | 1 => rfl
  | _ + 2 => rfl
 rw [e]
 exact gzK_st _ h3 k hk
theorem fedAll_iff {ls : List Pas} (h3 : ls.length ≤ 3) {heads : Int} : ∀ {w : List Int} {u : List UInt8} {x : Wd}, w.length = u.length → (∀ a ∈ w, 0 ≤ a) → (fedAll ls heads x w u = true ↔ ∀ k, k < ls.length → okP (ls.getD k pas0) (x.st k) (ownW w k heads) u = true)
 | [], _, x, _, _ => ⟨fun _ _ _ => rfl, fun _ => rfl⟩
 | _ :: _, [], x, h, _ => by cases h
 | a :: w, c :: u, x, h, ha => by
  have ha0 := ha a (by simp)
  have ih := fedAll_iff h3 (heads := heads) (w := w) (u := u) (x := gzW ls a.toNat heads x (nextX x.sp c)) (by simpa using h) fun b hb => ha b (by simp [hb])
  have hn : ∀ k : Nat, nAt a.toNat heads k = if a = (k : Int) then heads else 0 := fun k => by
   unfold nAt
   by_cases e : a = (k : Int)
   ·rw [if_pos e, if_pos (by omega)]
   ·rw [if_neg e, if_neg (by omega)]
  show (gzB ls a.toNat heads x (nextX x.sp c) && _) = true ↔ _
  rw [Bool.and_eq_true, ih]
  unfold gzB
  rw [gzK_fed _ h3]
  constructor
  ·rintro ⟨h1, h2⟩ k hk
   have b1 := h1 k hk
   have b2 := h2 k hk
   rw [gzW_st h3 hk, nextX_c, hn] at b2
   rw [hn] at b1
   show (!hungR (x.st k) (if a = (k : Int) then heads else 0) && okP _ _ (ownW w k heads) u) = true
   rw [b1, b2]
   rfl
  ·intro hh
   refine ⟨fun k hk => ?_, fun k hk => ?_⟩
   ·have := hh k hk
    have this : (!hungR (x.st k) (if a = (k : Int) then heads else 0) && okP _ _ (ownW w k heads) u) = true := this
    rw [Bool.and_eq_true] at this
    rw [hn]
    simpa using this.1
   ·have := hh k hk
    have this : (!hungR (x.st k) (if a = (k : Int) then heads else 0) && okP _ _ (ownW w k heads) u) = true := this
    rw [Bool.and_eq_true] at this
    rw [gzW_st h3 hk, nextX_c, hn]
    exact this.2
def okW (ls : List Pas) (s : SkyR) (heads : Int) : List Wd → List Int → Bool
 | _, [] => true
 | L, a :: w => dawnB ls s a.toNat heads L && okW ls s heads (dawnL ls s a.toNat heads L) w
theorem onward {s : SkyR} : ∀ (n : Nat) (x : Spl), ∃ u ∈ strsB n, fallX s x u = true
 | 0, x => ⟨[], by simp [strsB], rfl⟩
 | n + 1, x => by
  by_cases e : x.1 = 100
  ·obtain ⟨u, h1, h2⟩ := onward (s := s) n (nextX x 119)
   refine ⟨119 :: u, by unfold strsB; exact List.mem_append.2 (.inr (List.mem_map.2 ⟨u, h1, rfl⟩)), ?_⟩
   show (nextOk s x 119 && fallX s (nextX x 119) u) = true
   rw [h2, Bool.and_true]
   unfold nextOk
   rw [if_pos (by rw [e]; decide)]
  ·obtain ⟨u, h1, h2⟩ := onward (s := s) n (nextX x 100)
   refine ⟨100 :: u, by unfold strsB; exact List.mem_append.2 (.inl (List.mem_map.2 ⟨u, h1, rfl⟩)), ?_⟩
   show (nextOk s x 100 && fallX s (nextX x 100) u) = true
   rw [h2, Bool.and_true]
   unfold nextOk
   rw [if_pos e]
theorem mem_afters {ls : List Pas} {s : SkyR} {at_ : Nat} {heads : Int} {x : Wd} {y : Wd × Bool} : y ∈ afters ls s at_ heads x ↔ ∃ c ∈ letters, nextOk s x.sp c = true ∧ y = (gzW ls at_ heads x (nextX x.sp c), gzB ls at_ heads x (nextX x.sp c)) := by
 unfold afters
 rw [List.mem_flatMap]
 constructor
 ·rintro ⟨c, hc, hy⟩
  split at hy
  ·rename_i h
   exact ⟨c, hc, h, List.mem_singleton.1 hy⟩
  ·cases hy
 ·rintro ⟨c, hc, h, rfl⟩
  exact ⟨c, hc, by rw [if_pos h]; simp⟩
theorem strs_cons {n : Nat} {c : UInt8} {u : List UInt8} (hc : c ∈ letters) (hu : u ∈ strsB n) : c :: u ∈ strsB (n + 1) := by
 unfold strsB
 simp only [letters, List.mem_cons, List.not_mem_nil, or_false] at hc
 rcases hc with rfl | rfl
 ·exact List.mem_append.2 (.inl (List.mem_map.2 ⟨u, hu, rfl⟩))
 ·exact List.mem_append.2 (.inr (List.mem_map.2 ⟨u, hu, rfl⟩))
theorem strs_uncons {n : Nat} {v : List UInt8} (hv : v ∈ strsB (n + 1)) : ∃ c ∈ letters, ∃ u ∈ strsB n, v = c :: u := by
 unfold strsB at hv
 rcases List.mem_append.1 hv with hv | hv <;> obtain ⟨u, hu, rfl⟩ := List.mem_map.1 hv
 ·exact ⟨100, by decide, u, hu, rfl⟩
 ·exact ⟨119, by decide, u, hu, rfl⟩
theorem okW_iff {ls : List Pas} {s : SkyR} {heads : Int} : ∀ {w : List Int} {L : List Wd}, okW ls s heads L w = true ↔ ∀ x ∈ L, ∀ u ∈ strsB w.length, fallX s x.sp u = true → fedAll ls heads x w u = true
 | [], L => ⟨fun _ _ _ _ _ _ => by unfold fedAll; rfl, fun _ => rfl⟩
 | a :: w, L => by
  show (dawnB ls s a.toNat heads L && okW ls s heads (dawnL ls s a.toNat heads L) w) = true ↔ _
  rw [Bool.and_eq_true, okW_iff]
  unfold dawnB dawnL
  rw [List.all_eq_true]
  constructor
  ·rintro ⟨h1, h2⟩ x hx v hv hf
   obtain ⟨c, hc, u, hu, rfl⟩ := strs_uncons hv
   have hf : (nextOk s x.sp c && fallX s (nextX x.sp c) u) = true := hf
   rw [Bool.and_eq_true] at hf
   have hy := (mem_afters (ls := ls) (heads := heads) (at_ := a.toNat)).2 ⟨c, hc, hf.1, rfl⟩
   have b1 := List.all_eq_true.1 (h1 x hx) _ hy
   have b2 := h2 (gzW ls a.toNat heads x (nextX x.sp c)) (List.mem_flatMap.2 ⟨x, hx, List.mem_map.2 ⟨_, hy, rfl⟩⟩) u hu hf.2
   show (gzB ls a.toNat heads x (nextX x.sp c) && _) = true
   rw [b2, Bool.and_true]
   exact b1
  ·intro hh
   have both : ∀ x ∈ L, ∀ c ∈ letters, nextOk s x.sp c = true → ∀ u ∈ strsB w.length, fallX s (nextX x.sp c) u = true → gzB ls a.toNat heads x (nextX x.sp c) = true ∧ fedAll ls heads (gzW ls a.toNat heads x (nextX x.sp c)) w u = true := fun x hx c hc hn u hu hf => by
    have := hh x hx (c :: u) (strs_cons hc hu) (show (nextOk s x.sp c && fallX s (nextX x.sp c) u) = true by rw [hn, hf]; rfl)
    have this : (gzB ls a.toNat heads x (nextX x.sp c) && fedAll ls heads (gzW ls a.toNat heads x (nextX x.sp c)) w u) = true := this
    rwa [Bool.and_eq_true] at this
   refine ⟨fun x hx => List.all_eq_true.2 fun y hy => ?_, fun y hy u hu hf => ?_⟩
   ·obtain ⟨c, hc, hn, rfl⟩ := mem_afters.1 hy
    obtain ⟨u, hu, hf⟩ := onward (s := s) w.length (nextX x.sp c)
    exact (both x hx c hc hn u hu hf).1
   ·obtain ⟨x, hx, hy⟩ := List.mem_flatMap.1 hy
    obtain ⟨z, hz, rfl⟩ := List.mem_map.1 hy
    obtain ⟨c, hc, hn, rfl⟩ := mem_afters.1 hz
    exact (both x hx c hc hn u hu hf).2
theorem part_find {ls : List Pas} {s : SkyR} {heads : Int} {L : List Wd} {W : List (List Int)} {a : Nat} : (if dawnB ls s a heads L = true then (match W.find? (okW ls s heads (dawnL ls s a heads L)) with | some r => some ((a : Int) :: r) | none => none) else none) = (W.map ((a : Int) :: ·)).find? (okW ls s heads L) := by
 rw [List.find?_map]
 have e : (okW ls s heads L ∘ fun w => (a : Int) :: w) = fun w => dawnB ls s a heads L && okW ls s heads (dawnL ls s a heads L) w := by
  funext w
  show (dawnB ls s ((a : Nat) : Int).toNat heads L && _) = _
  rw [Int.toNat_natCast]
 rw [e]
 by_cases h : dawnB ls s a heads L = true
 ·rw [if_pos h, h]
  simp only [Bool.true_and]
  cases W.find? (okW ls s heads (dawnL ls s a heads L)) <;> rfl
 ·rw [if_neg h]
  have h' : dawnB ls s a heads L = false := by simpa using h
  rw [h']
  have : W.find? (fun _ => false) = none := List.find?_eq_none.2 (by simp)
  simp only [Bool.false_and]
  rw [this]
  rfl
theorem turnA_find {ls : List Pas} {s : SkyR} {heads : Int} {L : List Wd} {rest : List Wd → Option (List Int)} {W : List (List Int)} (hr : ∀ M, rest M = W.find? (okW ls s heads M)) : ∀ k, k ≤ ls.length → turnA ls s heads L rest k = ((List.range' (ls.length - k) k).flatMap fun (i : Nat) => W.map ((i : Int) :: ·)).find? (okW ls s heads L)
 | 0, _ => rfl
 | k + 1, hk => by
  have e : ls.length - (k + 1) + 1 = ls.length - k := by omega
  rw [List.range'_succ, List.flatMap_cons, List.find?_append, ← part_find, e, ← turnA_find hr k (by omega)]
  simp only [turnA]
  rw [hr]
  split
  ·cases W.find? (okW ls s heads (dawnL ls s (ls.length - (k + 1)) heads L)) <;> rfl
  ·rfl
theorem restR_find {ls : List Pas} {s : SkyR} {heads : Int} : ∀ (d : Nat) (M : List Wd), restR ls s heads d M = (wordsR ls.length d).find? (okW ls s heads M)
 | 0, M => by
  show some [] = [[]].find? _
  rw [List.find?_cons, show okW ls s heads M [] = true from rfl]
 | d + 1, M => by
  show turnR ls s heads d M = _
  rw [turnR_is, turnA_find (restR_find d) _ (Nat.le_refl _), Nat.sub_self, ← List.range_eq_range']
  rfl
theorem foundR_find {ls : List Pas} {s : SkyR} {heads : Int} {d a : Nat} : foundR ls s heads d a = ((wordsR ls.length d).map ((a : Int) :: ·)).find? (okW ls s heads [startW ls]) := by
 rw [← part_find]
 unfold foundR
 rw [restR_find]
 split
 ·cases (wordsR ls.length d).find? (okW ls s heads (dawnL ls s a heads [startW ls])) <;> rfl
 ·rfl
theorem startK_eq {ls : List Pas} (h3 : ls.length ≤ 3) : ∀ n, n ≤ ls.length → ∀ j, j < n → (startK ls n).st j = ((ls.getD j pas0).grass, 0)
 | 0, _, j, hj => absurd hj (Nat.not_lt_zero _)
 | n + 1, h, j, hj => by
  rw [startK, Wd.st_lay _ _ (by omega) (by omega)]
  by_cases e : j = n
  ·rw [if_pos e, e]
  ·rw [if_neg e]
   exact startK_eq h3 n (by omega) j (by omega)
theorem ok_start {ls : List Pas} (h3 : ls.length ≤ 3) {s : SkyR} {heads : Int} {w : List Int} (hw : ∀ x ∈ w, 0 ≤ x) : okW ls s heads [startW ls] w = true ↔ ∀ u ∈ strsB w.length, fallX s (0, 0) u = true → ∀ k, k < ls.length → okP (ls.getD k pas0) ((ls.getD k pas0).grass, 0) (ownW w k heads) u = true := by
 rw [okW_iff]
 have hsp : (startW ls).sp = (0, 0) := startK_sp _
 constructor
 ·intro h u hu hf k hk
  have := (fedAll_iff h3 (strsB_len u hu).1.symm hw).1 (h (startW ls) (by simp) u hu (by rw [hsp]; exact hf)) k hk
  rwa [show (startW ls).st k = _ from startK_eq h3 _ (Nat.le_refl _) k hk] at this
 ·intro h x hx u hu hf
  rw [List.mem_singleton.1 hx] at hf ⊢
  rw [hsp] at hf
  refine (fedAll_iff h3 (strsB_len u hu).1.symm hw).2 fun k hk => ?_
  rw [show (startW ls).st k = _ from startK_eq h3 _ (Nat.le_refl _) k hk]
  exact h u hu hf k hk
def swp (a b x : Int) : Int := if x = a then b else if x = b then a else x
theorem swp_iff {a b x y : Int} : swp a b x = y ↔ x = swp a b y := by
 unfold swp
 constructor <;> intro h <;> (repeat' split at h) <;> (repeat' split) <;> omega
theorem found_swap {ls : List Pas} (h3 : ls.length ≤ 3) {s : SkyR} {heads : Int} {d a : Nat} (ha : a < ls.length) (hs : skipT ls a = true) (hf : foundR ls s heads d a ≠ none) : foundR ls s heads d (a - 1) ≠ none := by
 unfold skipT at hs
 rw [Bool.and_eq_true, decide_eq_true_eq, decide_eq_true_eq] at hs
 obtain ⟨h0, he⟩ := hs
 rw [foundR_find] at hf ⊢
 obtain ⟨v, hv⟩ := Option.ne_none_iff_exists'.1 hf
 have hm := List.mem_of_find?_eq_some hv
 have hok := List.find?_some hv
 obtain ⟨r, hr, rfl⟩ := List.mem_map.1 hm
 obtain ⟨r1, r2⟩ := words_of hr
 rw [Ne, List.find?_eq_none]
 intro hall
 have sb : ∀ x : Int, 0 ≤ x ∧ x < ls.length → 0 ≤ swp a ((a - 1 : Nat) : Int) x ∧ swp a ((a - 1 : Nat) : Int) x < ls.length := fun x hx => by
  unfold swp
  repeat' split
  all_goals omega
 have hw0 : ∀ x ∈ (a : Int) :: r, 0 ≤ x ∧ x < ls.length := fun x hx => by
  rcases List.mem_cons.1 hx with rfl | hx
  ·omega
  ·exact r2 x hx
 have hmem : (((a : Int) :: r).map (swp a ((a - 1 : Nat) : Int))) ∈ (wordsR ls.length d).map (((a - 1 : Nat) : Int) :: ·) := by
  refine List.mem_map.2 ⟨r.map (swp a ((a - 1 : Nat) : Int)), words_mem (by simpa using r1) fun x hx => ?_, ?_⟩
  ·obtain ⟨y, hy, rfl⟩ := List.mem_map.1 hx
   exact sb y (r2 y hy)
  ·rw [List.map_cons]
   have : swp (a : Int) ((a - 1 : Nat) : Int) (a : Int) = ((a - 1 : Nat) : Int) := by simp [swp]
   rw [this]
 refine hall _ hmem ?_
 rw [ok_start h3 (fun x hx => (hw0 x hx).1)] at hok
 rw [ok_start h3 (fun x hx => by
  obtain ⟨y, hy, rfl⟩ := List.mem_map.1 hx
  exact (sb y (hw0 y hy)).1)]
 intro u hu hfu k hk
 rw [List.length_map] at hu
 have hk' : (0 : Int) ≤ swp a ((a - 1 : Nat) : Int) (k : Int) ∧ swp a ((a - 1 : Nat) : Int) (k : Int) < ls.length := sb k (by omega)
 have := hok u hu hfu (swp a ((a - 1 : Nat) : Int) (k : Int)).toNat (by omega)
 have hp : ls.getD (swp a ((a - 1 : Nat) : Int) (k : Int)).toNat pas0 = ls.getD k pas0 := by
  unfold swp
  split
  ·rename_i e
   have : k = a := by omega
   rw [Int.toNat_natCast, this, he]
  ·split
   ·rename_i e
    have : k = a - 1 := by omega
    rw [Int.toNat_natCast, this, he]
   ·rw [Int.toNat_natCast]
 rw [hp] at this
 have ho : ownW (((a : Int) :: r).map (swp a ((a - 1 : Nat) : Int))) k heads = ownW ((a : Int) :: r) (swp a ((a - 1 : Nat) : Int) (k : Int)).toNat heads := by
  unfold ownW
  rw [List.map_map]
  refine List.map_congr_left fun x _ => ?_
  show (if swp a ((a - 1 : Nat) : Int) x = (k : Int) then heads else 0) = if x = (((swp a ((a - 1 : Nat) : Int) (k : Int)).toNat : Nat) : Int) then heads else 0
  rw [Int.toNat_of_nonneg hk'.1]
  by_cases e : x = swp a ((a - 1 : Nat) : Int) (k : Int)
  ·rw [if_pos (swp_iff.2 e), if_pos e]
  ·rw [if_neg (fun h => e (swp_iff.1 h)), if_neg e]
 rw [ho]
 exact this
theorem some_first {α : Type} {f : Nat → Option α} {a : Nat} {x : α} (h : f a = some x) (h0 : ∀ b, b < a → f b = none) : ∀ {n : Nat}, a < n → (List.range n).findSome? f = some x
 | 0, hn => absurd hn (Nat.not_lt_zero _)
 | n + 1, hn => by
  rw [List.range_succ, List.findSome?_append]
  by_cases e : a = n
  ·subst e
   have : (List.range a).findSome? f = none := by
    rw [List.findSome?_eq_none_iff]
    intro b hb
    exact h0 b (List.mem_range.1 hb)
   rw [this]
   simp [List.findSome?, h]
  ·rw [some_first h h0 (by omega : a < n)]
   rfl
def turnsB (ls : List Pas) (s : SkyR) (heads : Int) (w : List Int) : Bool := (List.range ls.length).all fun k => fedB (ls.getD k pas0) (ownW w k heads) s
theorem ok_turns {ls : List Pas} (h3 : ls.length ≤ 3) {s : SkyR} {heads : Int} {w : List Int} (hw : ∀ x ∈ w, 0 ≤ x) (hl : w.length = s.days.toNat) : okW ls s heads [startW ls] w = turnsB ls s heads w := by
 rw [Bool.eq_iff_iff, ok_start h3 hw]
 unfold turnsB fedB
 rw [List.all_eq_true, rainsB_strs, ← hl]
 have hlen : ∀ {k : Nat} {u : List UInt8}, u ∈ strsB w.length → (ownW w k heads).length = u.length := fun hu => by
  rw [(strsB_len _ hu).1]
  simp [ownW]
 constructor
 ·intro h k hk
  rw [List.all_eq_true]
  intro u hu
  obtain ⟨h1, h2⟩ := List.mem_filter.1 hu
  rw [decide_eq_true_eq]
  exact (okP_all (hlen h1)).1 (h u h1 h2 k (List.mem_range.1 hk))
 ·intro h u hu hf k hk
  have := List.all_eq_true.1 (h k (List.mem_range.2 hk)) u (List.mem_filter.2 ⟨hu, hf⟩)
  rw [decide_eq_true_eq] at this
  exact (okP_all (hlen hu)).2 this
theorem turnT_find {ls : List Pas} (h3 : ls.length ≤ 3) {s : SkyR} {heads : Int} {d : Nat} (hd : s.days = (d : Int) + 1) : turnT ls s heads d = (wordsR ls.length (d + 1)).find? (turnsB ls s heads) := by
 have e1 : (wordsR ls.length (d + 1)).find? (turnsB ls s heads) = (wordsR ls.length (d + 1)).find? (okW ls s heads [startW ls]) := by
  refine find_same fun w hw => ?_
  obtain ⟨h1, h2⟩ := words_of hw
  exact (ok_turns h3 (fun x hx => (h2 x hx).1) (by omega)).symm
 have e2 : (wordsR ls.length (d + 1)).find? (okW ls s heads [startW ls]) = (List.range ls.length).findSome? (foundR ls s heads d) := by
  unfold wordsR
  rw [List.find?_flatMap]
  congr 1
  funext a
  exact foundR_find.symm
 rw [e1, e2]
 unfold turnT
 have hgot : ∀ a, gotR (hiredL ls ls.length) (foundR ls s heads d) a = none ∨ gotR (hiredL ls ls.length) (foundR ls s heads d) a = foundR ls s heads d a := fun a => by
  unfold gotR
  split
  ·exact .inr rfl
  ·exact .inl rfl
 by_cases hex : ∃ a, a < ls.length ∧ foundR ls s heads d a ≠ none
 ·-- the first that has found something
  have least : ∀ n, (∃ a, a < n ∧ a < ls.length ∧ foundR ls s heads d a ≠ none) → ∃ a, a < ls.length ∧ foundR ls s heads d a ≠ none ∧ ∀ b, b < a → foundR ls s heads d b = none := by
   intro n
   induction n with
   | zero => exact fun ⟨a, h, _⟩ => absurd h (Nat.not_lt_zero _)
   | succ n ih =>
    rintro ⟨a, h1, h2, h3⟩
    by_cases hb : ∃ b, b < n ∧ b < ls.length ∧ foundR ls s heads d b ≠ none
    ·exact ih hb
    ·refine ⟨a, h2, h3, fun b hb' => ?_⟩
     cases e : foundR ls s heads d b with
     | none => rfl
     | some l => exact absurd ⟨b, by omega, by omega, by rw [e]; simp⟩ hb
  obtain ⟨a0, h00, h01⟩ := hex
  obtain ⟨a, ha, hne, hmin⟩ := least (a0 + 1) ⟨a0, by omega, h00, h01⟩
  obtain ⟨l, hl⟩ := Option.ne_none_iff_exists'.1 hne
  have hsk : skipT ls a = false := by
   cases e : skipT ls a with
   | false => rfl
   | true =>
    have h0 : 0 < a := by
     unfold skipT at e
     rw [Bool.and_eq_true, decide_eq_true_eq] at e
     exact e.1
    exact absurd (hmin (a - 1) (by omega)) (found_swap h3 ha e hne)
  have hX : gotR (hiredL ls ls.length) (foundR ls s heads d) a = some l := by
   unfold gotR
   rw [if_pos ((hiredL_mem ha).2 hsk), hl]
  rw [some_first hl hmin ha, firstX_at (by omega) (fun b hb => ?_) hX]
  rcases hgot b with h | h
  ·exact h
  ·rw [h]
   exact hmin b hb
 ·have hno : ∀ a, a < ls.length → foundR ls s heads d a = none := fun a ha => by
   cases e : foundR ls s heads d a with
   | none => rfl
   | some l => exact absurd ⟨a, ha, by rw [e]; simp⟩ hex
  have : (List.range ls.length).findSome? (foundR ls s heads d) = none := by
   rw [List.findSome?_eq_none_iff]
   exact fun a ha => hno a (List.mem_range.1 ha)
  rw [this]
  refine firstX_none fun a _ => ?_
  unfold gotR
  split
  ·rename_i hm
   exact hno a (hiredL_lt hm)
  ·rfl
def turnE (ls : List Pas) (s : SkyR) (heads : Int) : Int := if cntE ls.length 1 3 ≠ 0 then cntE ls.length 1 3 else if (∀ p ∈ ls, pasOk p) ∧ skyOk s ∧ (0 ≤ heads ∧ heads ≤ 40) then 0 else 1
theorem turnE_ok {ls : List Pas} {s : SkyR} {heads : Int} (h : turnE ls s heads = 0) : LsOk ls ∧ skyOk s ∧ (0 ≤ heads ∧ heads ≤ 40) := by
 unfold turnE at h
 split at h
 ·rename_i hc
  exact absurd h hc
 ·rename_i hc
  have hc : cntE ls.length 1 3 = 0 := by simpa using hc
  split at h
  ·rename_i ho
   refine ⟨⟨?_, ho.1⟩, ho.2.1, ho.2.2⟩
   unfold cntE at hc
   split at hc
   ·cases hc
   ·split at hc
    ·cases hc
    ·constructor <;> omega
  ·cases h
theorem turnE_cnt {ls : List Pas} {s : SkyR} {heads : Int} (h : cntE ls.length 1 3 ≠ 0) : turnE ls s heads = cntE ls.length 1 3 := by
 unfold turnE
 rw [if_pos h]
theorem turnE_val {ls : List Pas} {s : SkyR} {heads : Int} (h : cntE ls.length 1 3 = 0) (hn : ¬ ((∀ p ∈ ls, pasOk p) ∧ skyOk s ∧ (0 ≤ heads ∧ heads ≤ 40))) : turnE ls s heads = 1 := by
 unfold turnE
 rw [if_neg (by simpa using h), if_neg hn]
theorem turnE_zero {ls : List Pas} {s : SkyR} {heads : Int} (h : cntE ls.length 1 3 = 0) (hn : (∀ p ∈ ls, pasOk p) ∧ skyOk s ∧ (0 ≤ heads ∧ heads ≤ 40)) : turnE ls s heads = 0 := by
 unfold turnE
 rw [if_neg (by simpa using h), if_pos hn]
section
variable {main : Bool} {J : JT} {h : List AObj} {K : Value → List AObj → Prop} {Sx : RG → List AObj → Prop}
theorem frontE11 (hJ : Closed prog main J) {ls : List Pas} {lv : Value} {s : SkyR} {heads : Int} (hlen : ls.length < 1000000) (hl : SliE h lv 6 Pas.cells ls)
  (hE : turnE ls s heads ≠ 0 → ∀ H', SameX [] h H' → K (.tuple ⟨[.slice none 0 0, vint (turnE ls s heads)]⟩) H')
  (hS : turnE ls s heads = 0 → ∀ F H, Sx F H) :
  W prog J 75 h.length 11 (trunc 6 (codeOf f11)) (RG.mk (regs [lv, .agg ⟨s.cells⟩, vint heads]) []) h (thenK Sx (RetQ prog [.tmp 6, .tmp 7] h.length K)) := by
 rw [e11]
 have kk := sliK hl
 refine qBox1 kk.1 kk.2.1 fun H1 pl e1 S1 c1 l1 => qBox (l := s.cells) rfl fun H2 ps e2 S2 c2 l2 => qBox1 rfl rfl fun H3 ph e3 S3 c3 l3 => ?_
 have c1' := S3.get (S2.get c1 (by simp)) (by simp)
 have c2' := S3.get c2 (by simp)
 have T := (S1.trans S2).trans S3
 refine ldI (v := lv) c1' rfl kk.2.2 ?_
 rw [sliE_len (T.sli hl (by simp))]
 refine good25 hJ (neqI (cndI (fun h1 => ?_) fun h1 => ldI (v := lv) c1' rfl kk.2.2 ?_))
 ·have e := turnE_cnt (s := s) (heads := heads) h1
  refine retL_same (by simp [unk]) ?_
  have := hE (by rw [e]; exact h1) H3 T
  rw [e] at this
  exact this
 have hc : cntE ls.length 1 3 = 0 := by simpa using h1
 rw [sliE_len (T.sli hl (by simp))]
 have bad : ¬ ((∀ p ∈ ls, pasOk p) ∧ skyOk s ∧ (0 ≤ heads ∧ heads ≤ 40)) → ∀ H', SameX [] h H' → K (.tuple ⟨[.slice none 0 0, vint 1]⟩) H' := fun hn H' S' => by
  have e := turnE_val hc hn
  have := hE (by rw [e]; decide) H' S'
  rw [e] at this
  exact this
 refine l11_1 hJ (fun k : Nat => ls.length - k) (fun k F H' => k ≤ ls.length ∧ SameX [] h H' ∧ H'[pl]? = some (.cells [lv] true 0) ∧ H'[ps]? = some (.cells s.cells true 0) ∧ H'[ph]? = some (.cells [vint heads] true 0) ∧ (∀ j, j < k → pasOk (ls.getD j pas0)) ∧ F.ds = [] ∧ F.r 3 = ptr pl 0 ∧ F.r 4 = ptr ps 0 ∧ F.r 5 = ptr ph 0 ∧ F.r 24 = lv ∧ F.r 25 = vint (ls.length : Nat) ∧ F.r 26 = vint (k : Nat)) ?_ (s := 0)
  (.inl ⟨by omega, T, c1', c2', c3, fun j hj => absurd hj (Nat.not_lt_zero _), rfl, rfl, rfl, rfl, rfl, rfl, rfl⟩)
 rintro k F H' ⟨hk, S, d1, d2, d3, hok, ds, r3, r4, r5, r24, r25, r26⟩ okc hnc
 rw [s11_1, r4, r5, r24, r25, r26, ds]
 refine lssI (cndI (fun hlt => ?_) fun hge => ?_)
 ·have hkl : k < ls.length := by omega
  have hl' := S.sli hl (by simp)
  obtain ⟨b, o, cs, wr, sz, hidx, hb, hos, htk, hkn⟩ := sliE_elem (s := 6) (fun _ => rfl) (by decide) hl' hkl
  have hg : ls[k] = ls.getD k pas0 := by
   rw [List.getD_eq_getElem?_getD, List.getElem?_eq_getElem hkl]
   rfl
  have hmem : ls.getD k pas0 ∈ ls := hg ▸ List.getElem_mem hkl
  rw [hg] at htk
  generalize hpk : ls.getD k pas0 = p at htk hmem
  have q1 := lt_of_get d1
  have q2 := lt_of_get d2
  have q3 := lt_of_get d3
  refine hidx _ (load_part (c := p.cells) hb hos htk rfl (qAl fun H4 p4 e4 S4 c4 l4 => qStA (c := p.cells) c4 rfl rfl rfl fun H5 S5 c5 l5 => load_part (c := p.cells) c5 (by simp [Pas.cells]) rfl rfl ?_))
  have T5 : SameX [] h H5 := (S.trans S4).thru S5 (by have := S.1; simp; omega)
  refine good26 hJ (neqI (cndI (fun h1 => ?_) fun h1 => ?_))
  ·have hnp : ¬ pasOk p := fun fp => h1 (by unfold pasE; rw [if_pos fp])
   have e : pasE p = 1 := by unfold pasE; rw [if_neg hnp]
   rw [e]
   exact retL_same (by simp [unk]) (bad (fun hh => hnp (hh.1 p hmem)) H5 T5)
  have fp : pasOk p := by
   by_cases hp : pasOk p
   ·exact hp
   ·exact absurd (by unfold pasE; rw [if_neg hp]; decide) h1
  refine addI (by omega) ⟨k + 1, by dsimp only; omega, .inl ⟨by omega, T5, S5.get (S4.get d1 (by simp)) (by simp; omega), S5.get (S4.get d2 (by simp)) (by simp; omega), S5.get (S4.get d3 (by simp)) (by simp; omega), fun j hj => ?_, ds, r3, r4, r5, r24, r25, by show vint _ = vint _; congr 1⟩⟩
  by_cases e : j = k
  ·rw [e, hpk]
   exact fp
  ·exact hok j (by omega)
 ·have hall : ∀ p ∈ ls, pasOk p := fun p hp => by
   obtain ⟨j, hj, rfl⟩ := List.getElem_of_mem hp
   have := hok j (by omega)
   rwa [List.getD_eq_getElem?_getD, List.getElem?_eq_getElem hj] at this
  refine load_part (c := s.cells) d2 (by simp [SkyR.cells]) rfl rfl ?_
  refine good27 hJ (neqI (cndI (fun h1 => ?_) fun h1 => ldI (v := vint heads) d3 rfl rfl (good28 hJ (notI (cndN (fun h2 => ?_) fun h2 => ?_)))))
  ·have hns : ¬ skyOk s := fun fs => h1 (by unfold skyE; rw [if_pos fs])
   have e : skyE s = 1 := by unfold skyE; rw [if_neg hns]
   rw [e]
   exact retL_same (by simp [unk]) (bad (fun hh => hns hh.2.1) H' S)
  ·exact retL_same (by simp [unk]) (bad (fun hh => h2 hh.2.2) H' S)
  ·have fs : skyOk s := by
    by_cases hp : skyOk s
    ·exact hp
    ·exact absurd (by unfold skyE; rw [if_neg hp]; decide) h1
   exact qAl fun H4 fI e4 S4 c4 l4 => hS (turnE_zero hc ⟨hall, fs, h2⟩) _ _
end
section
variable {W0 : World} {Post : Value → World → Prop} {h : List AObj} {K : Value → List AObj → Prop}
def KeepC (h H : List AObj) : Prop := h.length ≤ H.length ∧ ∀ (i : Nat) c wr sz, h[i]? = some (.cells c wr sz) → H[i]? = some (.cells c wr sz)
theorem KeepC.refl : KeepC h h := ⟨Nat.le_refl _, fun _ _ _ _ e => e⟩
theorem KeepC.trans {h1 h2 h3 : List AObj} (a : KeepC h1 h2) (b : KeepC h2 h3) : KeepC h1 h3 := ⟨Nat.le_trans a.1 b.1, fun i c wr sz e => b.2 i c wr sz (a.2 i c wr sz e)⟩
theorem keepC_unch {h H : List AObj} (S : SameX [] (unch h) H) : KeepC h H := ⟨by have := S.1; rw [unch_len] at this; exact this, fun i c wr sz e => S.get (unchC e) (by simp)⟩
theorem KeepC.sli {h H : List AObj} (a : KeepC h H) {v : Value} {s n : Nat} {cs : List Value} (hs : Sli h v s n cs) : Sli H v s n cs := sli_frz hs fun i c wr sz hi => ⟨wr, a.2 i c wr sz hi⟩
def AnsA (h : List AObj) (K : Value → List AObj → Prop) (ls : List Pas) (s : SkyR) (heads : Int) : Prop :=
 (turnE ls s heads ≠ 0 → ∀ H', SameX [] h H' → K (.tuple ⟨[.slice none 0 0, vint (turnE ls s heads)]⟩) H') ∧
 (turnE ls s heads = 0 → AnsF (unch h) K ((wordsR ls.length s.days.toNat).find? (turnsB ls s heads)))
theorem goodA11 {ls : List Pas} {lv : Value} {s : SkyR} {heads : Int} (hlen : ls.length < 1000000) (hl : SliE h lv 6 Pas.cells ls) (hA : AnsA h K ls s heads) : Good prog (J2 prog W0 Post) 11 [lv, .agg ⟨s.cells⟩, vint heads] h K := by
 by_cases he : turnE ls s heads = 0
 ·obtain ⟨L, fs, hh⟩ := turnE_ok he
  have h8 := fs.1
  have hd : s.days = ((s.days.toNat - 1 : Nat) : Int) + 1 := by omega
  have hT := hA.2 he
  refine goodT11 L fs hh (s.days.toNat - 1) hd hl ?_
  rw [turnT_find L.few.2 hd]
  have : s.days.toNat - 1 + 1 = s.days.toNat := by omega
  rw [this]
  exact hT
 ·have hJ2 := J2.closed prog W0 Post
  refine good_of_sem hJ2 at11 body11 (by kernel_rfl) (Nat.le_of_ble_eq_true rfl) fun ok => ?_
  rw [show f11.ntmps = 75 from by kernel_rfl, show f11.results.toList = [.tmp 6, .tmp 7] from by kernel_rfl]
  refine trunc_sound hJ2 mixed 6 (codeOf f11) (by kernel_rfl) (frontE11 hJ2 hlen hl hA.1 fun h0 => absurd h0 he)
end
def ownK (w : List Int) (i : Nat) (heads : Int) (k : Nat) : List Int := (List.range w.length).map fun j => if j < k ∧ w.getD j 0 = (i : Int) then heads else 0
theorem ownK_len {w : List Int} {i : Nat} {heads : Int} {k : Nat} : (ownK w i heads k).length = w.length := by simp [ownK]
theorem ownK_get {w : List Int} {i : Nat} {heads : Int} {k j : Nat} (h : j < w.length) : (ownK w i heads k)[j]? = some (if j < k ∧ w.getD j 0 = (i : Int) then heads else 0) := by
 unfold ownK
 rw [List.getElem?_map, List.getElem?_range h]
 rfl
theorem ownK_zero {w : List Int} {i : Nat} {heads : Int} : ownK w i heads 0 = List.replicate w.length 0 := by
 apply List.ext_getElem?
 intro j
 by_cases h : j < w.length
 ·rw [ownK_get h, if_neg (by omega), List.getElem?_replicate, if_pos h]
 ·rw [List.getElem?_eq_none (by rw [ownK_len]; omega), List.getElem?_eq_none (by simp; omega)]
theorem ownK_all {w : List Int} {i : Nat} {heads : Int} : ownK w i heads w.length = ownW w i heads := by
 apply List.ext_getElem?
 intro j
 unfold ownW
 by_cases h : j < w.length
 ·rw [ownK_get h, List.getElem?_map, List.getElem?_eq_getElem h, List.getD_eq_getElem?_getD, List.getElem?_eq_getElem h]
  simp [h]
 ·rw [List.getElem?_eq_none (by rw [ownK_len]; omega), List.getElem?_eq_none (by simp; omega)]
theorem ownK_yes {w : List Int} {i : Nat} {heads : Int} {k : Nat} (hk : k < w.length) (h : w.getD k 0 = (i : Int)) : (ownK w i heads k).set k heads = ownK w i heads (k + 1) := by
 apply List.ext_getElem?
 intro j
 rw [List.getElem?_set]
 by_cases e : k = j
 ·subst e
  rw [if_pos rfl, ownK_len, if_pos hk, ownK_get hk, if_pos ⟨by omega, h⟩]
 ·rw [if_neg e]
  by_cases hj : j < w.length
  ·rw [ownK_get hj, ownK_get hj]
   congr 1
   by_cases x : j < k ∧ w.getD j 0 = (i : Int)
   ·rw [if_pos x, if_pos ⟨by omega, x.2⟩]
   ·rw [if_neg x, if_neg (fun y => x ⟨by omega, y.2⟩)]
  ·rw [List.getElem?_eq_none (by rw [ownK_len]; omega), List.getElem?_eq_none (by rw [ownK_len]; omega)]
theorem ownK_no {w : List Int} {i : Nat} {heads : Int} {k : Nat} (hk : k < w.length) (h : w.getD k 0 ≠ (i : Int)) : ownK w i heads k = ownK w i heads (k + 1) := by
 apply List.ext_getElem?
 intro j
 by_cases hj : j < w.length
 ·rw [ownK_get hj, ownK_get hj]
  congr 1
  by_cases x : j < k ∧ w.getD j 0 = (i : Int)
  ·rw [if_pos x, if_pos ⟨by omega, x.2⟩]
  ·rw [if_neg x, if_neg (fun y => x ⟨?_, y.2⟩)]
   have : j ≠ k := fun e => h (e ▸ y.2)
   omega
 ·rw [List.getElem?_eq_none (by rw [ownK_len]; omega), List.getElem?_eq_none (by rw [ownK_len]; omega)]
theorem ownW_ok {w : List Int} {i : Nat} {heads : Int} (hh : 0 ≤ heads ∧ heads ≤ 40) : headsOk (ownW w i heads) := by
 intro n hn
 unfold ownW at hn
 obtain ⟨a, _, rfl⟩ := List.mem_map.1 hn
 split
 ·exact hh
 ·exact ⟨Int.le_refl _, by decide⟩
theorem ownW_len {w : List Int} {i : Nat} {heads : Int} : (ownW w i heads).length = w.length := by simp [ownW]
theorem zrep0 : ∀ k, zrep [vint 0] k = (List.replicate k (0 : Int)).map vint := by
 intro k
 induction k with
 | zero => rfl
 | succ k ih =>
  show [vint 0] ++ zrep [vint 0] k = _
  rw [ih, List.replicate_succ]
  rfl
section
variable {main : Bool} {J : JT} {H : List AObj} {K : Value → List AObj → Prop}
theorem find_at {α : Type} {p : α → Bool} {l : List α} {i : Nat} {x : α} (hx : l[i]? = some x) (hno : ∀ j y, j < i → l[j]? = some y → p y = false) (h : p x = true) : l.find? p = some x := by
 obtain ⟨hi, rfl⟩ := List.getElem?_eq_some_iff.1 hx
 rw [List.find?_eq_some_iff_getElem]
 exact ⟨h, i, hi, rfl, fun j hj => by rw [hno j _ hj (List.getElem?_eq_getElem (by omega))]; rfl⟩
end
end Go.Proofs.Ytdbammacnfojdaa
namespace Go.Proofs.Ytdbammacnfojdaa
open Go.Conc Go.Proofs.Try
set_option maxRecDepth 100000
set_option maxHeartbeats 4000000
set_option linter.unusedVariables false
section
variable {main : Bool} {J : JT} {n0 : Nat} {h : List AObj} {K : Value → List AObj → Prop}
theorem at8 : prog.funcs[8]? = some f8 := by kernel_rfl
theorem body8 : f8.body = some (codeOf f8) := by kernel_rfl
def pl8 : Plans := [(2, false, .take 0 (.take 1 (.take 2 (.take 3 (.take 4 (.take 5 (.take 7 (.take 8 (.take 9 (.take 10 (.take 11 (.take 12 (.last 6 true (.last 13 true (.last 14 true (.last 15 true (.take 16 (.last 17 false (.fin))))))))))))))))))),
 (4, false, .take 0 (.take 1 (.take 2 (.take 3 (.take 4 (.take 6 (.take 7 (.take 8 (.last 5 true (.last 9 true (.last 10 true (.last 11 true (.take 12 (.last 13 false (.fin)))))))))))))))]
def ct8 : Cuts := .go
theorem pok8 : plansOk prog pl8 (codeOf f8) = true := by kernel_rfl
theorem e8 {a0 : Value} : W prog J 55 h.length 8 (codeOf f8) (RG.mk (regs [a0]) []) h (RetQ prog [.cell 2 31] h.length K) =
(aAlloc [(vint 0), (vint 0), (vint 0), (vint 0), (vint 0), (vint 0)] h fun v1 h2 =>
Good prog J 7 [a0, (vint 3), (vint 30)] h2 fun v3 h4 =>
(((3 * 1 : Nat) ≤ 16777216 ∧ (3 : Nat) ≤ 16777216 ∧ List.length [(vint 0)] = 1) ∧ aFill (zrep [(vint 0)] 3) [(0, 1, (vint 1)), (1, 1, (vint 1)), (2, 1, (vint 2))] fun c5 =>
aNewS 3 c5 h4 fun v6 h7 =>
Good prog J 23 [a0, (vint 0), v6] h7 fun v8 h9 =>
Good prog J 10 [a0, (vint 5)] h9 fun v10 h11 =>
(((3 * 1 : Nat) ≤ 16777216 ∧ (3 : Nat) ≤ 16777216 ∧ List.length [(vint 0)] = 1) ∧ aFill (zrep [(vint 0)] 3) [(0, 1, (vint 1)), (1, 1, (vint 2)), (2, 1, v10)] fun c12 =>
aNewS 3 c12 h11 fun v13 h14 =>
Good prog J 23 [a0, (vint 0), v13] h14 fun v15 h16 =>
aFill [(vint 0), (vint 0), (vint 0), (vint 0), (vint 0), (vint 0)] [(1, 1, v3), (2, 1, v8), (5, 1, v15)] fun c17 =>
aAlloc [(vint 0), (vint 0), (vint 0), (vint 0), (vint 0), (vint 0)] h16 fun v18 h19 =>
aStore 6 v18 (Value.agg ⟨c17⟩) h19 fun h20 =>
(∃ B, aOff v18 1 fun v21 =>
aLoad false 1 v21 h20 fun v22 =>
RdOk (some B) (ptrBlk v21) ∧ (aOff v18 1 fun v23 =>
aLoad false 1 v23 h20 fun v24 =>
RdOk (some B) (ptrBlk v23) ∧ (aOff v18 1 fun v25 =>
aLoad false 1 v25 h20 fun v26 =>
RdOk (some B) (ptrBlk v25) ∧ (aBin prog .quo 3 v26 (vint 2) fun v27 =>
aOff v18 1 fun v28 =>
aLoad false 1 v28 h20 fun v29 =>
RdOk (some B) (ptrBlk v28) ∧ (Good prog J 10 [a0, v24] h20 fun v30 h31 =>
SameB (some B) h20 h31 ∧ (Good prog J 7 [a0, v27, v29] h31 fun v32 h33 =>
SameB (some B) h20 h33 ∧ ((((2 * 1 : Nat) ≤ 16777216 ∧ (2 : Nat) ≤ 16777216 ∧ List.length [(vint 0)] = 1) ∧ aFill (zrep [(vint 0)] 2) [(0, 1, v30), (1, 1, v32)] fun c34 =>
aNewS 2 c34 h33 fun v35 h36 =>
SameB (some B) h20 h36 ∧ (Good prog J 23 [a0, v22, v35] h36 fun v37 h38 =>
SameB (some B) h20 h38 ∧ (aOff v18 0 fun v39 =>
aStore 1 v39 v37 h38 fun h40 =>
aOff v18 2 fun v41 =>
aLoad false 1 v41 h40 fun v42 =>
aOff v18 2 fun v43 =>
aLoad false 1 v43 h40 fun v44 =>
aBin prog .add 3 v44 (vint 5) fun v45 =>
aMin (vint 9) [v45] fun v46 =>
Good prog J 7 [a0, v42, v46] h40 fun v47 h48 =>
aOff v18 3 fun v49 =>
aStore 1 v49 v47 h48 fun h50 =>
(∃ B, aOff v18 1 fun v51 =>
aLoad false 1 v51 h50 fun v52 =>
RdOk (some B) (ptrBlk v51) ∧ (aBin prog .quo 3 v52 (vint 2) fun v53 =>
aOff v18 1 fun v54 =>
aLoad false 1 v54 h50 fun v55 =>
RdOk (some B) (ptrBlk v54) ∧ (Good prog J 10 [a0, v53] h50 fun v56 h57 =>
SameB (some B) h50 h57 ∧ (Good prog J 10 [a0, v55] h57 fun v58 h59 =>
SameB (some B) h50 h59 ∧ ((((4 * 1 : Nat) ≤ 16777216 ∧ (4 : Nat) ≤ 16777216 ∧ List.length [(vint 0)] = 1) ∧ aFill (zrep [(vint 0)] 4) [(0, 1, (vint 1)), (1, 1, (vint 2)), (2, 1, v56), (3, 1, v58)] fun c60 =>
aNewS 4 c60 h59 fun v61 h62 =>
SameB (some B) h50 h62 ∧ (Good prog J 23 [a0, (vint 0), v61] h62 fun v63 h64 =>
SameB (some B) h50 h64 ∧ (aOff v18 4 fun v65 =>
aStore 1 v65 v63 h64 fun h66 =>
aLoad true 6 v18 h66 fun v67 =>
aStore 6 v1 v67 h66 fun h68 =>
RetQ prog [.cell 2 31] h.length K .ret (RG.p (RG.p (RG.p (RG.p (RG.p (RG.p (RG.p (RG.p (RG.p (RG.p (RG.p (RG.p (RG.p (RG.p (RG.p (RG.p (RG.p (RG.p (RG.p (RG.p (RG.p (RG.p (RG.p (RG.p (RG.p (RG.p (RG.p (RG.p (RG.p (RG.p (RG.p (RG.p (RG.p (RG.p (RG.p (RG.p (RG.p (RG.p (RG.p (RG.p (RG.p (RG.p (RG.p (RG.p (RG.p (RG.p (RG.p (RG.p (RG.p (RG.p (RG.p (RG.p (RG.p (RG.mk (regs [a0]) []) 2 v1) 4 a0) 5 v3) 6 a0) 7 v6) 8 v8) 9 a0) 10 a0) 11 v10) 12 v13) 13 v15) 14 (Value.agg ⟨c17⟩)) 3 v18) 15 a0) 16 v21) 17 v22) 18 a0) 19 v23) 20 v24) 22 a0) 23 v25) 24 v26) 25 v27) 26 v28) 27 v29) 21 v30) 28 v32) 29 v35) 30 v37) 31 v39) 32 a0) 33 v41) 34 v42) 35 v43) 36 v44) 37 v45) 38 v46) 39 v47) 40 v49) 41 a0) 42 a0) 43 v51) 44 v52) 45 v53) 47 a0) 48 v54) 49 v55) 46 v56) 50 v58) 51 v61) 52 v63) 53 v65) 54 v67) h68))))))))))))))))))))) := top_eq pok8 ct8 (by kernel_rfl)
theorem g8 (hJ : Closed prog main J) {a0 : Value} (hs : heapOk h → W prog J 55 h.length 8 (codeOf f8) (RG.mk (regs [a0]) []) h (RetQ prog [.cell 2 31] h.length K)) : Good prog J 8 [a0] h K :=
 good_of_W hJ mixed at8 body8 (by kernel_rfl) (Nat.le_of_ble_eq_true rfl) hs
theorem at9 : prog.funcs[9]? = some f9 := by kernel_rfl
theorem body9 : f9.body = some (codeOf f9) := by kernel_rfl
def pl9 : Plans := [(2, false, .take 0 (.take 1 (.take 2 (.take 4 (.take 5 (.take 6 (.last 3 true (.take 8 (.last 7 true (.last 9 false (.take 10 (.last 11 false (.fin)))))))))))))]
def ct9 : Cuts := .go
theorem pok9 : plansOk prog pl9 (codeOf f9) = true := by kernel_rfl
theorem e9 {a0 a1 : Value} : W prog J 21 h.length 9 (codeOf f9) (RG.mk (regs [a0, a1]) []) h (RetQ prog [.cell 4 24] h.length K) =
(aAlloc [(vint 0), (vint 0), (vint 0)] h fun v1 h2 =>
Good prog J 7 [a0, (vint 1), a1] h2 fun v3 h4 =>
aFill [(vint 0), (vint 0), (vint 0)] [(0, 1, v3)] fun c5 =>
aAlloc [(vint 0), (vint 0), (vint 0)] h4 fun v6 h7 =>
aStore 3 v6 (Value.agg ⟨c5⟩) h7 fun h8 =>
(∃ B, aOff v6 0 fun v9 =>
aLoad false 1 v9 h8 fun v10 =>
RdOk (some B) (ptrBlk v9) ∧ (aOff v6 0 fun v11 =>
aLoad false 1 v11 h8 fun v12 =>
RdOk (some B) (ptrBlk v11) ∧ (Good prog J 7 [a0, (vint 1), v10] h8 fun v13 h14 =>
SameB (some B) h8 h14 ∧ (aOff v6 1 fun v15 =>
Good prog J 7 [a0, (vint 1), v12] h14 fun v16 h17 =>
SameB (some B) h8 h17 ∧ (aStore 1 v15 v13 h17 fun h18 =>
aOff v6 2 fun v19 =>
aStore 1 v19 v16 h18 fun h20 =>
aLoad true 3 v6 h20 fun v21 =>
aStore 3 v1 v21 h20 fun h22 =>
RetQ prog [.cell 4 24] h.length K .ret (RG.p (RG.p (RG.p (RG.p (RG.p (RG.p (RG.p (RG.p (RG.p (RG.p (RG.p (RG.p (RG.p (RG.p (RG.p (RG.p (RG.p (RG.mk (regs [a0, a1]) []) 4 v1) 6 a0) 7 a1) 8 v3) 9 (Value.agg ⟨c5⟩)) 5 v6) 10 a0) 11 v9) 12 v10) 14 a0) 15 v11) 16 v12) 13 v13) 18 v15) 17 v16) 19 v19) 20 v21) h22)))))) := top_eq pok9 ct9 (by kernel_rfl)
theorem g9 (hJ : Closed prog main J) {a0 a1 : Value} (hs : heapOk h → W prog J 21 h.length 9 (codeOf f9) (RG.mk (regs [a0, a1]) []) h (RetQ prog [.cell 4 24] h.length K)) : Good prog J 9 [a0, a1] h K :=
 good_of_W hJ mixed at9 body9 (by kernel_rfl) (Nat.le_of_ble_eq_true rfl) hs
end
end Go.Proofs.Ytdbammacnfojdaa
namespace Go.Proofs.Ytdbammacnfojdaa
open Go.Conc Go.Proofs.Try
set_option maxRecDepth 100000
section
variable {main : Bool} {J : JT} {h H : List AObj} {K : Value → List AObj → Prop} {KV : Value → Prop} {HL : List AObj → Prop} {n0 : Nat} {ns : List Int} {k : Nat}
theorem quoZ {t : TypeId} {a b : Int} (ha : 0 ≤ a ∧ a ≤ 1000000) (hb : 0 < b) (hk : KV (vint (a / b))) : aBin prog .quo t (vint a) (vint b) KV := by
 have h1 : Int.tdiv a b = a / b := Int.tdiv_eq_ediv_of_nonneg ha.1
 have h2 : 0 ≤ a / b := Int.ediv_nonneg ha.1 (by omega)
 have h3 : a / b ≤ a := Int.ediv_le_self _ ha.1
 simp only [aBin, aInt, true_and]
 rw [h1, wrap64 (by omega) (by omega)]
 exact ⟨by omega, hk⟩
theorem hxLt (a : HX h H ns k) : h.length < H.length := by
 obtain ⟨nv, k1, s, rest, rfl, _⟩ := a
 rw [hf_len]
 omega
theorem ofZ (hJ : Closed prog main J) (a : HX h H ns k) (hk : k < 1000000) {x : Int} {others : List Int} {p n c : Nat} (hp : H[p]? = some (.cells (others.map vint) true 0)) (hne : p ≠ h.length) (hn : others.length = n) (hl : n < 1000)
  (hK : ∀ y H', (y = x ∨ y ∈ others) → SameX [h.length] H H' → H'.length = H.length → HX h H' ns (k + 1) → K (vint y) H') : Good prog J 23 [ptr h.length 0, vint x, .slice (some ⟨p, 0, none⟩) n c] H K := by
 subst hn
 obtain ⟨nv, k1, s, rest, rfl, b1, b2, b3⟩ := a
 refine good23 hJ (hf_hand b3.list b3.sane (by omega) b2.1 b2.2) (others := others) (fun h' hd => ?_) (by omega) fun y h1 hy hd => ?_
 ·obtain ⟨k', s', c1, c2, c3, rfl⟩ := hf_dealt hd
  have S := hf_same (h := h) (nv := nv) (k1 := k1) (k2 := k') (s1 := s) (s2 := s') (rest := rest) (g := [])
  rw [List.append_nil] at S
  exact sli_new (wr := true) (sz := 0) (S.get hp (by simpa using hne)) (by simp) (kn_ints _)
 ·obtain ⟨k', s', c1, c2, c3, rfl⟩ := hf_dealt hd
  have S := hf_same (h := h) (nv := nv) (k1 := k1) (k2 := k') (s1 := s) (s2 := s') (rest := rest) (g := [])
  rw [List.append_nil] at S
  exact hK y _ hy S (by simp [hf_len]) ⟨nv, k', s', rest, rfl, by omega, ⟨c2, c3⟩, b3⟩
theorem good9 (hJ : Closed prog main J) (a : HX h H ns k) (hk : k < 400000) {D : Int} (hD : 1 ≤ D ∧ D ≤ 8)
  (hK : ∀ s H', skyOk s → s.days ≤ D → SameX [h.length] H H' → HX h H' ns (k + 3) → K (.agg ⟨s.cells⟩) H') : Good prog J 9 [ptr h.length 0, vint D] H K := by
 refine g9 hJ fun ok => ?_
 rw [e9]
 have hlt := hxLt a
 refine qAl fun H1 p1 e1 S1 c1 l1 => ?_
 have a1 := a.same S1 (by simp)
 refine amX hJ a1 (by omega) (by omega) (by omega) fun d H2 b1 b2 S2 l2 a2 => ?_
 refine fillO (l := [vint d]) rfl rfl rfl (Nat.le_of_ble_eq_true rfl) (fillI ?_)
 refine qAl fun H3 p3 e3 S3 c3 l3 => qStA (c := [vint d, vint 0, vint 0]) c3 rfl rfl rfl fun H4 S4 c4 l4 => ?_
 have a4 := (a2.same S3 (by simp)).same S4 (by simp; omega)
 have hp4 : p3 < H4.length := lt_of_get c4
 refine ⟨[p3], offI (ldI (v := vint d) c4 rfl rfl ⟨by simp [RdOk, ptrBlk], offI (ldI (v := vint d) c4 rfl rfl ⟨by simp [RdOk, ptrBlk], ?_⟩)⟩)⟩
 refine amX hJ a4 (by omega) (by omega) (by omega) fun u H5 d1 d2 S5 l5 a5 => ⟨sbOne S5 hp4 (by simp; omega), offI ?_⟩
 refine amX hJ a5 (by omega) (by omega) (by omega) fun w H6 f1 f2 S6 l6 a6 => ⟨sbOne (S5.trans S6) hp4 (by simp; omega), ?_⟩
 have T6 : SameX [h.length] H4 H6 := S5.trans S6
 refine qSt (T6.get c4 (by simp; omega)) (by simp) rfl rfl fun H7 S7 c7 l7 => offI (qSt c7 (by simp) rfl rfl fun H8 S8 c8 l8 => ?_)
 refine load_part (c := (⟨d, u, w⟩ : SkyR).cells) c8 (by simp) rfl rfl ?_
 have T4 : SameX [h.length] H H4 := (((S1.weak0).trans S2).trans S3.weak0).thru S4 (by simp; omega)
 have T8 : SameX [h.length] H H8 := ((T4.trans T6).thru S7 (by simp; omega)).thru S8 (by simp; omega)
 have c1' := S8.get (S7.get (T6.get (S4.get (S3.get (S2.get c1 (by simp; omega)) (by simp)) (by simp; omega)) (by simp; omega)) (by simp; omega)) (by simp; omega)
 refine qStA (c := (⟨d, u, w⟩ : SkyR).cells) c1' rfl rfl rfl fun H9 S9 c9 l9 => ?_
 refine retQs rfl (resW_cell (gg := true) (s := 3) (by kernel_rfl) (load_part (c := (⟨d, u, w⟩ : SkyR).cells) c9 (by simp [SkyR.cells]) rfl rfl (resW_nil ?_)))
 refine hK ⟨d, u, w⟩ H9 ⟨by show 1 ≤ d ∧ d ≤ 8; omega, by show 1 ≤ u ∧ u ≤ d; omega, by show 1 ≤ w ∧ w ≤ d; omega⟩ (by show d ≤ D; omega) (T8.thru S9 (by simp; omega)) (((a6.same S7 (by simp; omega)).same S8 (by simp; omega)).same S9 (by simp; omega))
set_option maxHeartbeats 800000 in
theorem good8 (hJ : Closed prog main J) (a : HX h H ns k) (hk : k < 400000)
  (hK : ∀ p H', pasOk p → 3 ≤ p.bears ∧ p.bears ≤ 30 → SameX [h.length] H H' → HX h H' ns (k + 12) → K (.agg ⟨p.cells⟩) H') : Good prog J 8 [ptr h.length 0] H K := by
 refine g8 hJ fun ok => ?_
 rw [e8]
 have hlt := hxLt a
 refine qAl fun H1 p1 e1 S1 c1 l1 => ?_
 have a1 := a.same S1 (by simp)
 refine amX hJ a1 (by omega) (by omega) (by omega) fun b H2 b1 b2 S2 l2 a2 => ?_
 refine ⟨by decide, fillO (l := [vint 1]) rfl rfl rfl (Nat.le_of_ble_eq_true rfl) (fillO (l := [vint 1]) rfl rfl rfl (Nat.le_of_ble_eq_true rfl) (fillO (l := [vint 2]) rfl rfl rfl (Nat.le_of_ble_eq_true rfl) (fillI (qNew fun H3 p3 e3 S3 c3 l3 => ?_))))⟩
 have c3 : H3[p3]? = some (.cells (([1, 1, 2] : List Int).map vint) true 0) := c3
 refine ofZ hJ (a2.same S3 (by simp)) (by omega) c3 (by omega) rfl (by simp) fun dr H4 m4 S4 l4 a4 => ?_
 refine upX hJ a4 (by omega) (by omega) fun u5 H5 d1 d2 S5 l5 a5 => ?_
 refine ⟨by decide, fillO (l := [vint 1]) rfl rfl rfl (Nat.le_of_ble_eq_true rfl) (fillO (l := [vint 2]) rfl rfl rfl (Nat.le_of_ble_eq_true rfl) (fillO (l := [vint u5]) rfl rfl rfl (Nat.le_of_ble_eq_true rfl) (fillI (qNew fun H6 p6 e6 S6 c6 l6 => ?_))))⟩
 have c6 : H6[p6]? = some (.cells (([1, 2, u5] : List Int).map vint) true 0) := c6
 refine ofZ hJ (a5.same S6 (by simp)) (by omega) c6 (by omega) rfl (by simp) fun sl H7 m7 S7 l7 a7 => ?_
 refine fillO (l := [vint b]) rfl rfl rfl (Nat.le_of_ble_eq_true rfl) (fillO (l := [vint dr]) rfl rfl rfl (Nat.le_of_ble_eq_true rfl) (fillO (l := [vint sl]) rfl rfl rfl (Nat.le_of_ble_eq_true rfl) (fillI ?_)))
 refine qAl fun H8 p8 e8 S8 c8 l8 => qStA (c := [vint 0, vint b, vint dr, vint 0, vint 0, vint sl]) c8 rfl rfl rfl fun H9 S9 c9 l9 => ?_
 have a9 := (a7.same S8 (by simp)).same S9 (by simp; omega)
 have hp9 : p8 < H9.length := lt_of_get c9
 have hdr : 0 ≤ dr ∧ dr ≤ 2 := by
  rcases m4 with h | h
  ·omega
  ·simp only [List.mem_cons, List.not_mem_nil, or_false] at h
   omega
 have hsl : 0 ≤ sl ∧ sl ≤ 5 := by
  rcases m7 with h | h
  ·omega
  ·simp only [List.mem_cons, List.not_mem_nil, or_false] at h
   omega
 refine ⟨[p8], offI (ldI (v := vint b) c9 rfl rfl ⟨by simp [RdOk, ptrBlk], offI (ldI (v := vint b) c9 rfl rfl ⟨by simp [RdOk, ptrBlk], offI (ldI (v := vint b) c9 rfl rfl ⟨by simp [RdOk, ptrBlk], quoZ (by omega) (by decide) (offI (ldI (v := vint b) c9 rfl rfl ⟨by simp [RdOk, ptrBlk], ?_⟩))⟩)⟩)⟩)⟩
 have T9 : ∀ {H'}, SameX [h.length] H9 H' → SameB (some [p8]) H9 H' := fun S => sbOne S hp9 (by simp; omega)
 refine upX hJ a9 (by omega) (by omega) fun u10 H10 f1 f2 S10 l10 a10 => ⟨T9 S10, ?_⟩
 refine amX hJ a10 (by omega) (by omega) (by omega) fun u11 H11 g1 g2 S11 l11 a11 => ⟨T9 (S10.trans S11), ?_⟩
 have Q11 : SameX [h.length] H9 H11 := S10.trans S11
 refine ⟨by decide, fillO (l := [vint u10]) rfl rfl rfl (Nat.le_of_ble_eq_true rfl) (fillO (l := [vint u11]) rfl rfl rfl (Nat.le_of_ble_eq_true rfl) (fillI (qNew fun H12 p12 e12 S12 c12 l12 => ⟨T9 (Q11.trans S12.weak0), ?_⟩)))⟩
 have c12 : H12[p12]? = some (.cells (([u10, u11] : List Int).map vint) true 0) := c12
 have hl11 := hxLt a11
 refine ofZ hJ (a11.same S12 (by simp)) (by omega) c12 (by omega) rfl (by simp) fun gr H13 m13 S13 l13 a13 => ?_
 have Q13 : SameX [h.length] H9 H13 := (Q11.trans S12.weak0).trans S13
 refine ⟨T9 Q13, offI ?_⟩
 have hgr : 0 ≤ gr ∧ gr ≤ b := by
  rcases m13 with h | h
  ·omega
  ·simp only [List.mem_cons, List.not_mem_nil, or_false] at h
   omega
 refine qSt (Q13.get c9 (by simp; omega)) (by simp) rfl rfl fun H14 S14 c14 l14 => ?_
 have c14 : H14[p8]? = some (.cells [vint gr, vint b, vint dr, vint 0, vint 0, vint sl] true 0) := c14
 have a14 := a13.same S14 (by simp; omega)
 refine offI (ldI (v := vint dr) c14 rfl rfl (offI (ldI (v := vint dr) c14 rfl rfl (addI (by omega) (minI ?_)))))
 refine amX hJ a14 (by omega) (by omega) (by omega) fun wt H15 h1 h2 S15 l15 a15 => offI ?_
 refine qSt (S15.get c14 (by simp; omega)) (by simp) rfl rfl fun H16 S16 c16 l16 => ?_
 have c16 : H16[p8]? = some (.cells [vint gr, vint b, vint dr, vint wt, vint 0, vint sl] true 0) := c16
 have a16 := a15.same S16 (by simp; omega)
 have hp16 : p8 < H16.length := lt_of_get c16
 have T16 : ∀ {H'}, SameX [h.length] H16 H' → SameB (some [p8]) H16 H' := fun S => sbOne S hp16 (by simp; omega)
 refine ⟨[p8], offI (ldI (v := vint b) c16 rfl rfl ⟨by simp [RdOk, ptrBlk], quoZ (by omega) (by decide) (offI (ldI (v := vint b) c16 rfl rfl ⟨by simp [RdOk, ptrBlk], ?_⟩))⟩)⟩
 refine upX hJ a16 (by omega) (by omega) fun u17 H17 q1 q2 S17 l17 a17 => ⟨T16 S17, ?_⟩
 refine upX hJ a17 (by omega) (by omega) fun u18 H18 q3 q4 S18 l18 a18 => ⟨T16 (S17.trans S18), ?_⟩
 have Q18 : SameX [h.length] H16 H18 := S17.trans S18
 refine ⟨by decide, fillO (l := [vint 1]) rfl rfl rfl (Nat.le_of_ble_eq_true rfl) (fillO (l := [vint 2]) rfl rfl rfl (Nat.le_of_ble_eq_true rfl) (fillO (l := [vint u17]) rfl rfl rfl (Nat.le_of_ble_eq_true rfl) (fillO (l := [vint u18]) rfl rfl rfl (Nat.le_of_ble_eq_true rfl) (fillI (qNew fun H19 p19 e19 S19 c19 l19 => ⟨T16 (Q18.trans S19.weak0), ?_⟩)))))⟩
 have c19 : H19[p19]? = some (.cells (([1, 2, u17, u18] : List Int).map vint) true 0) := c19
 have hl18 := hxLt a18
 refine ofZ hJ (a18.same S19 (by simp)) (by omega) c19 (by omega) rfl (by simp) fun st H20 m20 S20 l20 a20 => ?_
 have Q20 : SameX [h.length] H16 H20 := (Q18.trans S19.weak0).trans S20
 have hst : 0 ≤ st ∧ st ≤ b := by
  rcases m20 with h | h
  ·omega
  ·simp only [List.mem_cons, List.not_mem_nil, or_false] at h
   omega
 refine ⟨T16 Q20, offI (qSt (Q20.get c16 (by simp; omega)) (by simp) rfl rfl fun H21 S21 c21 l21 => ?_)⟩
 have c21 : H21[p8]? = some (.cells (⟨gr, b, dr, wt, st, sl⟩ : Pas).cells true 0) := c21
 refine load_part (c := (⟨gr, b, dr, wt, st, sl⟩ : Pas).cells) c21 (by simp [Pas.cells]) rfl rfl ?_
 have U7 : SameX [h.length] H H7 := ((((((S1.weak0).trans S2).trans S3.weak0).trans S4).trans S5).trans S6.weak0).trans S7
 have U9 : SameX [h.length] H H9 := (U7.trans S8.weak0).thru S9 (by have := U7.1; simp; omega)
 have U21 : SameX [h.length] H H21 := ((((U9.trans Q13).thru S14 (by have := U7.1; simp; omega)).trans S15).thru S16 (by have := U7.1; simp; omega)).trans Q20 |>.thru S21 (by have := U7.1; simp; omega)
 have V1 : SameX [h.length] H1 H7 := ((((S2.trans S3.weak0).trans S4).trans S5).trans S6.weak0).trans S7
 have hv1 := V1.1
 have V9 : SameX [h.length, p8] H1 H9 := ((V1.trans S8.weak0).weak (by simp)).trans (S9.weak (by simp))
 have V21 : SameX [h.length, p8] H1 H21 := (((((V9.trans (Q13.weak (by simp))).trans (S14.weak (by simp))).trans (S15.weak (by simp))).trans (S16.weak (by simp))).trans (Q20.weak (by simp))).trans (S21.weak (by simp))
 have c1' := V21.get c1 (by simp; omega)
 refine qStA (c := (⟨gr, b, dr, wt, st, sl⟩ : Pas).cells) c1' rfl rfl rfl fun H22 S22 c22 l22 => ?_
 refine retQs rfl (resW_cell (gg := true) (s := 6) (by kernel_rfl) (load_part (c := (⟨gr, b, dr, wt, st, sl⟩ : Pas).cells) c22 (by simp [Pas.cells]) rfl rfl (resW_nil ?_)))
 refine hK ⟨gr, b, dr, wt, st, sl⟩ H22 ⟨by show 1 ≤ b ∧ b ≤ 99; omega, hgr, by show 0 ≤ dr ∧ dr ≤ 9; omega, by show dr ≤ wt ∧ wt ≤ 9; omega, hst, hsl⟩ (by show 3 ≤ b ∧ b ≤ 30; omega) (U21.thru S22 (by simp; omega)) ?_
 have z21 := a20.same S21 (by simp; omega)
 have z22 := z21.same S22 (by simp; omega)
 exact z22.mono (by omega)
end
section
variable {h H H' : List AObj} {ns : List Int} {k : Nat}
theorem HX.unch (a : HX h H ns k) : HX (unch h) (unch H) ns k := by
 obtain ⟨nv, k', s, rest, rfl, h1, h2, h3⟩ := a
 exact ⟨nv, k', s, Go.Proofs.Ytdbammacnfojdaa.unch rest, by simp [HF, Go.Proofs.Ytdbammacnfojdaa.unch, unchO], h1, h2, ⟨unch_sli h3.1, h3.2⟩⟩
theorem ownX_keepC (a : KeepC H H') {s len : Nat} {cs : List Value} {v : Value} {o : Option Nat} (O : OwnX H s cs len v o) : OwnX H' s cs len v o := by
 obtain ⟨h1, h2, h3⟩ := O
 refine ⟨h1, h2, h3.imp id ?_⟩
 rintro ⟨i, c, sz, e1, e2, e3, e4⟩
 exact ⟨i, c, sz, e1, e2, a.2 i _ _ _ e3, e4⟩
theorem OwnL.keepC (c : KeepC H H') {n : Nat} {v : Value} {ls : List (List Int)} {o : Option Nat} (a : OwnL n H v ls o) : OwnL n H' v ls o := by
 obtain ⟨h1, cs, O, he⟩ := a
 refine ⟨h1, cs, ownX_keepC c O, fun i l hl => ?_⟩
 obtain ⟨lv, b, e1, e2, e3⟩ := he i l hl
 exact ⟨lv, b, e1, ownX_keepC c e2, e3⟩
def AnsV (X : Option (List Int)) (lo : Nat) (H : List AObj) (tv : Value) (e : Int) : Prop := match X with
 | none => tv = .slice none 0 0 ∧ e = 11
 | some l => e = 0 ∧ ∃ b, tv = .slice (some ⟨b, 0, none⟩) l.length fz ∧ lo ≤ b ∧ H[b]? = some (.cells (l.map vint) false 1)
theorem ansF_to {K : Value → List AObj → Prop} {X : Option (List Int)} (hK : ∀ H' tv e, SameX [] h H' → AnsV X h.length H' tv e → K (.tuple ⟨[tv, vint e]⟩) H') : AnsF h K X := by
 cases X with
 | none => exact fun H' S => hK H' _ 11 S ⟨rfl, rfl⟩
 | some l => exact fun H' b S hb hc => hK H' _ 0 S ⟨rfl, b, rfl, hb, hc⟩
theorem AnsV.more {X : Option (List Int)} {lo : Nat} {tv : Value} {e : Int} {Y : List Nat} (S : SameX Y H H') (hY : ∀ y ∈ Y, y < lo) (a : AnsV X lo H tv e) : AnsV X lo H' tv e := by
 cases X with
 | none => exact a
 | some l =>
  obtain ⟨h1, b, h2, h3, h4⟩ := a
  exact ⟨h1, b, h2, h3, S.get h4 fun hm => by have := hY b hm; omega⟩
theorem AnsV.keepC {X : Option (List Int)} {lo : Nat} {tv : Value} {e : Int} (c : KeepC H H') (a : AnsV X lo H tv e) : AnsV X lo H' tv e := by
 cases X with
 | none => exact a
 | some l =>
  obtain ⟨h1, b, h2, h3, h4⟩ := a
  exact ⟨h1, b, h2, h3, c.2 b _ _ _ h4⟩
theorem AnsV.sli {l : List Int} {lo : Nat} {tv : Value} {e : Int} (a : AnsV (some l) lo H tv e) : Sli H tv 1 l.length (l.map vint) := by
 obtain ⟨h1, b, rfl, h3, h4⟩ := a
 exact sliF h4
end
theorem feed_own {p : Pas} {s : SkyR} {hs : List Int} (f : pasOk p) (g : skyOk s) (hh : headsOk hs) (hl : (hs.length : Int) = s.days) : ckdE p hs s = 0 ∧ (feedN p hs s = 1 ↔ fedB p hs s = true) := by
 have h0 : ckdE p hs s = 0 := by
  unfold ckdE fst2 pasE skyE
  rw [if_pos f, if_pos g, if_neg (by decide)]
  unfold hunE
  have h1 : cntE (hs.length : Nat) s.days s.days = 0 := by
   unfold cntE
   rw [if_neg (by omega), if_neg (by omega)]
  have hq : ∀ k ∈ hs, 0 ≤ k ∧ k ≤ 40 := hh
  rw [if_neg (by rw [h1]; decide), if_pos hq]
 refine ⟨h0, ?_⟩
 unfold feedN
 rw [if_neg (by omega)]
 cases fedB p hs s with
 | true => simp
 | false =>
  rw [if_neg (by decide)]
  constructor
  ·intro h
   split at h <;> cases h
  ·intro h
   cases h
theorem turns_more {ls : List Pas} {p : Pas} {s : SkyR} {heads : Int} {w : List Int} (f : pasOk p) (hw : ∀ x ∈ w, 0 ≤ x ∧ x < (ls.length : Nat)) (h : turnsB ls s heads w = true) : turnsB (ls ++ [p]) s heads w = true := by
 unfold turnsB at h ⊢
 rw [List.all_eq_true] at h ⊢
 intro k hk
 have hk := List.mem_range.1 hk
 rw [List.length_append, List.length_singleton] at hk
 by_cases e : k < ls.length
 ·have := h k (List.mem_range.2 e)
  rw [List.getD_eq_getElem?_getD, List.getElem?_append_left e, ← List.getD_eq_getElem?_getD]
  exact this
 ·have ek : k = ls.length := by omega
  subst ek
  have hg : (ls ++ [p]).getD ls.length pas0 = p := by
   rw [List.getD_eq_getElem?_getD, List.getElem?_append_right (Nat.le_refl _)]
   simp
  rw [hg]
  have hz : ∀ i, (ownW w ls.length heads).getD i 0 = 0 := fun i => by
   rw [List.getD_eq_getElem?_getD]
   unfold ownW
   rw [List.getElem?_map]
   cases e : w[i]? with
   | none => rfl
   | some x =>
    have := hw x (List.mem_of_getElem? e)
    show (if x = (ls.length : Int) then heads else 0) = 0
    rw [if_neg (by omega)]
  unfold fedB
  rw [List.all_eq_true]
  intro u _
  rw [decide_eq_true_eq]
  have ho : headsOk (ownW w ls.length heads) := by
   intro n hn
   obtain ⟨i, hi⟩ := List.getElem?_of_mem hn
   have := hz i
   rw [List.getD_eq_getElem?_getD, hi] at this
   have : n = 0 := this
   omega
  have : starvR p (ownW w ls.length heads) u = -1 := fstH_none fun i _ => by
   unfold hungAt hungR
   rw [hz i]
   have := (stdR_ok (rain := u) f ho i).g
   exact decide_eq_false (by omega)
  rw [this]
  decide
theorem words_up {F n : Nat} {w : List Int} (h : w ∈ wordsR F n) : w ∈ wordsR (F + 1) n := by
 obtain ⟨h1, h2⟩ := words_of h
 exact words_mem h1 fun x hx => by have := h2 x hx; omega
theorem pow_bd {F n : Nat} (hF : 1 ≤ F ∧ F ≤ 3) (hn : n ≤ 4) : F ^ n ≤ 243 := by
 have h1 : F ^ n ≤ 3 ^ n := Nat.pow_le_pow_left hF.2 n
 have h2 : 3 ^ n ≤ 3 ^ 4 := Nat.pow_le_pow_right (by decide) hn
 have h3 : 3 ^ 4 = 81 := rfl
 omega
section
variable {W0 : World} {Post : Value → World → Prop} {h : List AObj} {K : Value → List AObj → Prop}
structure RT4 (f : RG) (hp : Nat) (lv tv av : Value) (p5 : Nat) (heads e due : Int) (i : Nat) : Prop where
 ds : f.ds = []
 r3 : f.r 3 = ptr hp 0
 r4 : f.r 4 = lv
 r6 : f.r 6 = ptr p5 0
 r7 : f.r 7 = vint heads
 r8 : f.r 8 = tv
 r9 : f.r 9 = vint e
 r10 : f.r 10 = av
 r11 : f.r 11 = vint due
 r12 : f.r 12 = vint (i : Nat)
structure Fx4 (h Hw : List AObj) (ns : List Int) (ls : List Pas) (s : SkyR) (heads e : Int) (lv tv av : Value) (p5 lo : Nat) (ao lo' : Option Nat) : Prop where
 L : LsOk ls
 few : ls.length ≤ 2
 gs : skyOk s
 d4 : s.days ≤ 4
 hh : 0 ≤ heads ∧ heads ≤ 15
 O : OwnX Hw 6 (ls.flatMap Pas.cells) ls.length lv lo'
 c5 : Hw[p5]? = some (.cells s.cells true 0)
 A : OwnL lo Hw av (wordsR ls.length s.days.toNat) ao
 hx : HX h Hw ns 100
 v : AnsV ((wordsR ls.length s.days.toNat).find? (turnsB ls s heads)) lo Hw tv e
 llo : h.length < lo
def DueAt (ls : List Pas) (s : SkyR) (heads due : Int) (i : Nat) : Prop :=
 (due = -1 ∧ ∀ j u, j < i → (wordsR ls.length s.days.toNat)[j]? = some u → turnsB ls s heads u = false) ∨
 ∃ (d : Nat) (u : List Int), due = (d : Int) ∧ (wordsR ls.length s.days.toNat)[d]? = some u ∧ turnsB ls s heads u = true ∧ ∀ j u, j < d → (wordsR ls.length s.days.toNat)[j]? = some u → turnsB ls s heads u = false
theorem Fx4.same {h Hw H : List AObj} {ns : List Int} {ls : List Pas} {s : SkyR} {heads e : Int} {lv tv av : Value} {p5 lo : Nat} {ao lo' : Option Nat} (F : Fx4 h Hw ns ls s heads e lv tv av p5 lo ao lo') (S : SameX [] Hw H) : Fx4 h H ns ls s heads e lv tv av p5 lo ao lo' :=
 ⟨F.L, F.few, F.gs, F.d4, F.hh, ownX_keep F.O S (by simp), S.get F.c5 (by simp), F.A.keep S, F.hx.same S (by simp), F.v.more S (by simp), F.llo⟩
theorem fin4 {Hw : List AObj} {ns : List Int} {ls : List Pas} {s : SkyR} {heads e due : Int} {lv tv av : Value} {p5 lo n0 i : Nat} {ao lo' : Option Nat} {f : RG} {nx0 : RG → List AObj → Prop} (F : Fx4 h Hw ns ls s heads e lv tv av p5 lo ao lo') (R : RT4 f h.length lv tv av p5 heads e due i) (hK : ∀ H', K (.bool true) H')
  (r57 : f.r 57 = .bool false) (hD : DueAt ls s heads due i) (hend : due < 0 → i = (wordsR ls.length s.days.toNat).length) (hp5 : p5 < Hw.length) :
  W prog (J2 prog W0 Post) 149 n0 4 (subC [1, 1, 1, 1, 1, 1, 1, 1, 0, 1, 0, 0, 0, 1] (codeOf f4)) f Hw (contX pl4 prog (J2 prog W0 Post) 149 n0 4 ct4 [1, 1, 1, 1, 1, 1, 1, 1, 0, 1, 0, 0, 0, 1] (codeOf f4) [nx0] (RetQ prog [.tmp 2] n0 K)) := by
 have hJ := J2.closed prog W0 Post
 obtain ⟨ds, r3, r4, r6, r7, r8, r9, r10, r11, r12⟩ := R
 obtain ⟨L, few, gs, d4, hh, O, c5, A, hx, hv, llo⟩ := F
 have Lf := L.few
 have g1 := gs.1
 rw [s4_3, r57]
 refine cnd_false.2 ?_
 rw [r3, r4, r6, r7, r8, r9, r10, r11, ds]
 refine lssI (cndI (fun hlt => ?_) fun hge => ?_)
 ·-- nothing was found
  rcases hD with ⟨rfl, hno⟩ | ⟨d, u, rfl, _⟩
  ·have hX : (wordsR ls.length s.days.toNat).find? (turnsB ls s heads) = none := by
    rw [List.find?_eq_none]
    intro u hu
    obtain ⟨j, hj⟩ := List.getElem?_of_mem hu
    have hl := (List.getElem?_eq_some_iff.1 hj).1
    rw [hno j u (by have := hend hlt; omega) hj]
    decide
   rw [hX] at hv
   obtain ⟨rfl, rfl⟩ := hv
   refine eqlI (cndI (fun _ => ?_) fun hx => absurd rfl hx)
   have : aLenS (.slice none 0 0) = fun K => K (vint 0) := by kernel_rfl
   rw [this]
   exact eqlI (cndI (fun _ => good5 fun H' _ => retL_same (by simp [unk]) (hK H')) fun hx => absurd rfl hx)
  ·omega
 ·rcases hD with ⟨rfl, _⟩ | ⟨d, u, rfl, hu, ht, hno⟩
  ·omega
  have hX := find_at hu hno ht
  rw [hX] at hv
  have hvs := hv
  obtain ⟨rfl, _⟩ := hv
  have lx := hxLt hx
  refine ⟨[p5], load_part (c := s.cells) c5 (by simp [SkyR.cells]) rfl rfl ⟨by simp [RdOk, ptrBlk], ⟨by decide, by decide, rfl⟩, fillI (qNew fun H1 p1 e1 S1 c1 l1 => ?_)⟩⟩
  have B1 : ∀ {H' : List AObj}, SameX [h.length] Hw H' → p5 ≠ h.length → SameB (some [p5]) Hw H' := fun S hne => sbL S fun p hp => ⟨by rw [List.mem_singleton.1 hp]; exact hp5, by simpa [List.mem_singleton.1 hp] using hne⟩
  have hne : p5 ≠ h.length := fun e => by
   obtain ⟨nv, k', s', rest, rfl, _⟩ := hx
   rw [e] at c5
   simp [HF, SkyR.cells, vint] at c5
  have c1 : H1[p1]? = some (.cells [] true 0) := c1
  have hy := ownX_sli O
  refine ⟨B1 S1.weak0 hne, ⟨rfl, by decide, by decide, by decide⟩, appX c1 (by decide) (by omega) (S1.sli hy (by simp)) fun v2 H2 p2 O2 S2 hp2 => ?_⟩
  have T2 := S1.trans S2
  have hx2 := hx.same T2 (by simp)
  refine ⟨B1 T2.weak0 hne, good8 hJ hx2 (by omega) fun p H3 fp _ S3 hx3 => ?_⟩
  have T3 : SameX [h.length] Hw H3 := T2.weak0.trans S3
  refine ⟨B1 T3 hne, ⟨by decide, by decide, rfl⟩, fillO (l := p.cells) rfl rfl rfl (by decide) (fillI (qNew fun H4 p4 e4 S4 c4 l4 => ?_))⟩
  have T4 : SameX [h.length] Hw H4 := T3.trans S4.weak0
  have c4 : H4[p4]? = some (.cells p.cells true 0) := c4
  have hl2 := S2.1
  have hp2' : p2 ≠ h.length := by
   have h1 := S1.1
   rcases hp2 with e | e <;> omega
  have O4 : OwnX H4 6 (ls.flatMap Pas.cells) ls.length v2 (some p2) := ownX_keep (ownX_keep O2 S3 (fun i hi => by cases hi; simpa using hp2')) S4 (by simp)
  refine ⟨B1 T4 hne, ⟨rfl, by decide, by decide, by decide⟩, ownX_more O4 (by decide) (by omega) (ownX_sli (ownX_new (s := 6) (n := 1) (l := p.cells) c4 rfl rfl)) fun v5 H5 p6 e5 O5 S5 => ?_⟩
  have hp2w : Hw.length ≤ p2 := by
   have h1 := S1.1
   rcases hp2 with e | e <;> omega
  have T5 : SameX [h.length] Hw H5 := T4.thru S5 (fun y hy => .inr (by
   have := Option.mem_toList.1 hy
   cases this
   exact hp2w))
  have O5 : OwnX H5 6 ((ls ++ [p]).flatMap Pas.cells) (ls ++ [p]).length v5 (some p6) := by
   have e1 : (ls ++ [p]).flatMap Pas.cells = ls.flatMap Pas.cells ++ p.cells := by simp [List.flatMap_append]
   rw [e1, List.length_append]
   exact O5
  refine ⟨B1 T5 hne, ?_⟩
  -- Turn, a pasture more
  have L' : LsOk (ls ++ [p]) := ⟨⟨by simp, by simp; omega⟩, fun x hx => by
   rcases List.mem_append.1 hx with hx | hx
   ·exact L.ok x hx
   ·rw [List.mem_singleton.1 hx]
    exact fp⟩
  have hc' : cntE (ls ++ [p]).length 1 3 = 0 := by
   have := L'.few
   unfold cntE
   rw [if_neg (by omega), if_neg (by omega)]
  have hE : turnE (ls ++ [p]) s heads = 0 := turnE_zero hc' ⟨L'.ok, gs, by omega⟩
  have hmore : (wordsR (ls ++ [p]).length s.days.toNat).find? (turnsB (ls ++ [p]) s heads) ≠ none := by
   intro hn
   rw [List.find?_eq_none] at hn
   have hm := List.mem_of_getElem? hu
   have hb := (words_of hm).2
   refine hn u ?_ (turns_more fp (fun x hx => hb x hx) ht)
   rw [List.length_append, List.length_singleton]
   exact words_up hm
  refine goodA11 (by simp; omega) (ownX_sli O5) ⟨fun hn => absurd hE hn, fun _ => ansF_to fun H6 tv2 e2 S6 hv2 => ?_⟩
  have C6 := keepC_unch S6
  cases hX2 : (wordsR (ls ++ [p]).length s.days.toNat).find? (turnsB (ls ++ [p]) s heads) with
  | none => exact absurd hX2 hmore
  | some l2 =>
   rw [hX2] at hv2
   obtain ⟨rfl, _⟩ := hv2
   refine ext0 (ext1 (eqlI (cndI (fun _ => eqlI (cndI (fun _ => ?_) fun hx => absurd rfl hx)) fun hx => absurd rfl hx)))
   have A6 := (A.keepX T5 (fun x hx => by rw [List.mem_singleton.1 hx]; exact llo)).keepC C6
   have v6 := (hvs.more T5 (fun x hx => by rw [List.mem_singleton.1 hx]; exact llo)).keepC C6
   refine A6.get hu fun q lv2 bb Ob hb => ?_
   refine good13 hJ (xs := u) (ys := u) v6.sli (ownX_sli Ob) (by have := (words_of (List.mem_of_getElem? hu)).1; omega) (cndI (fun _ => ?_) fun hx => absurd rfl hx)
   exact good5 fun H' _ => retL_same (by simp [unk]) (hK H')
end
section
variable {W0 : World} {Post : Value → World → Prop} {h : List AObj} {K : Value → List AObj → Prop}
theorem turns_all {ls : List Pas} {s : SkyR} {heads : Int} {u : List Int} : ((List.range ls.length).all fun k => fedB (ls.getD k pas0) (ownW u k heads) s) = turnsB ls s heads u := rfl
theorem all_succ {p : Nat → Bool} {k : Nat} : (List.range (k + 1)).all p = ((List.range k).all p && p k) := by
 rw [List.range_succ, List.all_append]
 simp
set_option maxHeartbeats 1000000 in
theorem search4 {Hw : List AObj} {ns : List Int} {ls : List Pas} {s : SkyR} {heads e : Int} {lv tv av : Value} {p5 lo n0 : Nat} {ao lo' : Option Nat} {f : RG} (Fx : Fx4 h Hw ns ls s heads e lv tv av p5 lo ao lo') (R0 : RT4 f h.length lv tv av p5 heads e (-1) 0) (hK : ∀ H', K (.bool true) H') (hp5 : p5 < Hw.length) :
  Sem (J2 prog W0 Post) 149 n0 4 (subC [1, 1, 1, 1, 1, 1, 1, 1, 0, 1, 0] (codeOf f4)) f Hw (contX pl4 prog (J2 prog W0 Post) 149 n0 4 ct4 [1, 1, 1, 1, 1, 1, 1, 1, 0, 1, 0] (codeOf f4) [] (RetQ prog [.tmp 2] n0 K)) := by
 have hJ := J2.closed prog W0 Post
 have few := Fx.few
 have Lf := Fx.L.few
 have g1 := Fx.gs.1
 have d4 := Fx.d4
 have hh := Fx.hh
 have hrm : (2000 : Nat) < room := by decide
 have hW : (wordsR ls.length s.days.toNat).length ≤ 243 := by
  rw [wordsR_len]
  exact pow_bd Lf (by omega)
 refine l4_2 hJ (fun i : Nat => (wordsR ls.length s.days.toNat).length - i) (fun i F H' => ∃ due, SameX [] Hw H' ∧ i ≤ (wordsR ls.length s.days.toNat).length ∧ RT4 F h.length lv tv av p5 heads e due i ∧ DueAt ls s heads due i) ?_ (s := 0)
  (.inl ⟨-1, SameX.refl, by omega, R0, .inl ⟨rfl, fun j u hj => absurd hj (Nat.not_lt_zero _)⟩⟩)
 rintro i F H1 ⟨due, S1, hi, R, hD⟩ okc hnc
 have Fx1 := Fx.same S1
 have hp51 : p5 < H1.length := Nat.lt_of_lt_of_le hp5 S1.1
 obtain ⟨lc, sL⟩ := Fx1.A.sli
 have R' := R
 obtain ⟨ds, r3, r4, r6, r7, r8, r9, r10, r11, r12⟩ := R'
 have key : ∀ (F' : RG) (nx0 : RG → List AObj → Prop), F'.r 57 = .bool false → RT4 F' h.length lv tv av p5 heads e due i → (due < 0 → i = (wordsR ls.length s.days.toNat).length) → W prog (J2 prog W0 Post) 149 n0 4 (subC [1, 1, 1, 1, 1, 1, 1, 1, 0, 1, 0, 0, 0, 1] (codeOf f4)) F' H1 (contX pl4 prog (J2 prog W0 Post) 149 n0 4 ct4 [1, 1, 1, 1, 1, 1, 1, 1, 0, 1, 0, 0, 0, 1] (codeOf f4) [nx0] (RetQ prog [.tmp 2] n0 K)) :=
  fun _ nx0 hr RR hend => fin4 Fx1 RR hK hr hD hend hp51
 rw [s4_2, r10, r11, r12]
 refine lenI sL (lssI (cndI (fun hlt => lssI (hold.2 ?_)) fun hge => hold.2 (key _ _ (by rfl) (by exact ⟨ds, r3, r4, r6, r7, r8, r9, r10, r11, r12⟩) fun _ => by omega)))
 have hil : i < (wordsR ls.length s.days.toNat).length := by omega
 by_cases hd : due < 0
 rotate_left
 ·rw [decide_eq_false hd]
  exact key _ _ (by rfl) (by exact ⟨ds, r3, r4, r6, r7, r8, r9, r10, r11, r12⟩) fun hx => absurd hx hd
 rw [decide_eq_true hd]
 obtain ⟨rfl, hno⟩ : due = -1 ∧ ∀ j u, j < i → (wordsR ls.length s.days.toNat)[j]? = some u → turnsB ls s heads u = false := by
  rcases hD with hD | ⟨d, u, rfl, _⟩
  ·exact hD
  ·omega
 rw [s4_3]
 refine cnd_true.2 ?_
 clear key hD
 have hu : (wordsR ls.length s.days.toNat)[i]? = some (wordsR ls.length s.days.toNat)[i] := List.getElem?_eq_getElem hil
 generalize (wordsR ls.length s.days.toNat)[i] = u at hu
 have hul := (words_of (List.mem_of_getElem? hu)).1
 have hdn : s.days.toNat = u.length := by omega
 refine l4_4 hJ (fun k : Nat => ls.length - k) (fun k F H2 => k ≤ ls.length ∧ SameX [] H1 H2 ∧ RT4 F h.length lv tv av p5 heads e (-1) i ∧ F.r 13 = .bool ((List.range k).all fun k => fedB (ls.getD k pas0) (ownW u k heads) s) ∧ F.r 14 = vint (k : Nat)) ?_ (s := 0)
  (.inl ⟨by omega, SameX.refl, ⟨ds, r3, r4, r6, r7, r8, r9, r10, r11, r12⟩, rfl, rfl⟩)
 clear R ds r3 r4 r6 r7 r8 r9 r10 r11 r12 okc hnc sL
 rintro k F H2 ⟨hk, S2, ⟨ds, r3, r4, r6, r7, r8, r9, r10, r11, r12⟩, r13, r14⟩ okc hnc
 have Fx2 := Fx1.same S2
 have hl2 : SliE H2 lv 6 Pas.cells ls := ownX_sli Fx2.O
 rw [s4_4, r4, r6, r12, r13, r14, sliE_len hl2]
 refine lssI (cndI (fun hlt2 => ?_) fun hge2 => ?_)
 rotate_left
 ·have hke : k = ls.length := by omega
  subst hke
  rw [turns_all]
  by_cases ht : turnsB ls s heads u = true
  ·rw [ht]
   refine cnd_true.2 (addI (by omega) ⟨i + 1, by dsimp only; omega, .inl ⟨(i : Nat), S1.trans S2, by omega, ⟨ds, r3, r4, r6, r7, r8, r9, r10, rfl, by show vint _ = vint _; congr 1⟩, .inr ⟨i, u, rfl, hu, ht, hno⟩⟩⟩)
  ·have ht' : turnsB ls s heads u = false := by simpa using ht
   rw [ht']
   refine cnd_false.2 (addI (by omega) ⟨i + 1, by dsimp only; omega, .inl ⟨-1, S1.trans S2, by omega, ⟨ds, r3, r4, r6, r7, r8, r9, r10, r11, by show vint _ = vint _; congr 1⟩, .inl ⟨rfl, fun j u' hj hu' => ?_⟩⟩⟩)
   by_cases e' : j = i
   ·subst e'
    rw [hu] at hu'
    cases hu'
    exact ht'
   ·exact hno j u' (by omega) hu'
 have hkl : k < ls.length := by omega
 refine offI (ldI (v := vint s.days) Fx2.c5 rfl rfl ⟨⟨rfl, by decide⟩, ?_⟩)
 refine ⟨by omega, Int.le_refl _, by omega, ?_⟩
 rw [hdn]
 generalize hH3 : H2 ++ [AObj.cells (zrep [vint 0] u.length) true 0] = H3
 have c3 : H3[H2.length]? = some (.cells ((ownK u k heads 0).map vint) true 0) := by
  rw [← hH3, zrep0, ownK_zero]
  simp
 have S3 : SameX [] H2 H3 := by
  rw [← hH3]
  exact SameX.refl.app
 generalize hpl : H2.length = pl at c3
 refine l4_5 hJ (fun d : Nat => u.length - d) (fun d F H4 => d ≤ u.length ∧ SameX [] H2 H4 ∧ H4[pl]? = some (.cells ((ownK u k heads d).map vint) true 0) ∧ RT4 F h.length lv tv av p5 heads e (-1) i ∧ F.r 13 = .bool ((List.range k).all fun k => fedB (ls.getD k pas0) (ownW u k heads) s) ∧ F.r 14 = vint (k : Nat) ∧ F.r 15 = .slice (some ⟨pl, 0, none⟩) u.length u.length ∧ F.r 16 = vint (d : Nat)) ?_ (s := 0)
  (.inl ⟨by omega, S3, c3, ⟨ds, r3, r4, r6, r7, r8, r9, r10, r11, r12⟩, r13, r14, rfl, rfl⟩)
 clear ds r3 r4 r6 r7 r8 r9 r10 r11 r12 r13 r14 okc hnc
 rintro d F H4 ⟨hd4, S4, cl, ⟨ds, r3, r4, r6, r7, r8, r9, r10, r11, r12⟩, r13, r14, r15, r16⟩ okc hnc
 have Fx4' := Fx2.same S4
 rw [s4_5, r4, r6, r7, r10, r12, r13, r14, r15, r16, ds]
 refine offI (ldI (v := vint s.days) Fx4'.c5 rfl rfl (lssI (cndI (fun hlt3 => ?_) fun hge3 => ?_)))
 ·have hdw : d < u.length := by omega
  have hwi : u[d]? = some u[d] := List.getElem?_eq_getElem hdw
  have hg : u.getD d 0 = u[d] := by
   rw [List.getD_eq_getElem?_getD, hwi]
   rfl
  refine Fx4'.A.get hu fun q lv2 bb Ob hb => sliN (ownX_sli Ob) hwi fun p => eqlI (cndI (fun he => ?_) fun he => ?_)
  ·refine idxI ⟨by omega, by omega⟩ ?_
   have e1 : 0 + ((d : Nat) : Int).toNat * 1 = d := by omega
   rw [e1]
   refine qSt cl (by simp [ownK_len]; omega) rfl rfl fun H5 S5 c5 l5 => addI (by omega) ⟨d + 1, by dsimp only; omega, .inl ⟨by omega, S4.thru S5 (by simp; omega), ?_, ⟨ds, r3, r4, r6, r7, r8, r9, r10, r11, r12⟩, r13, r14, r15, by show vint _ = vint _; congr 1⟩⟩
   rw [c5, ← List.map_set, ownK_yes hdw (by rw [hg]; exact he)]
  ·refine addI (by omega) ⟨d + 1, by dsimp only; omega, .inl ⟨by omega, S4, ?_, ⟨ds, r3, r4, r6, r7, r8, r9, r10, r11, r12⟩, r13, r14, r15, by show vint _ = vint _; congr 1⟩⟩
   rw [cl, ownK_no hdw (by rw [hg]; exact he)]
 ·have hde : d = u.length := by omega
  subst hde
  rw [ownK_all] at cl
  have hl4 : SliE H4 lv 6 Pas.cells ls := ownX_sli Fx4'.O
  obtain ⟨b, o, cs, wr, sz, hidx, hb, hos, htk, hkn⟩ := sliE_elem (s := 6) (fun _ => rfl) (by decide) hl4 hkl
  have hgk : ls[k] = ls.getD k pas0 := by
   rw [List.getD_eq_getElem?_getD, List.getElem?_eq_getElem hkl]
   rfl
  rw [hgk] at htk
  have fp := Fx.L.get hkl
  have ho := ownW_ok (w := u) (i := k) (heads := heads) (by omega)
  have hO : Sli H4 (.slice (some ⟨pl, 0, none⟩) u.length u.length) 1 (ownW u k heads).length ((ownW u k heads).map vint) := by
   rw [ownW_len]
   exact ownX_sli (ownX_new (s := 1) (n := u.length) (l := (ownW u k heads).map vint) cl (by simp [ownW]) (knV _))
  obtain ⟨f1, f2⟩ := feed_own (p := ls.getD k pas0) (s := s) fp Fx.gs ho (by rw [ownW_len]; omega)
  refine hidx _ (load_part (c := (ls.getD k pas0).cells) hb hos htk rfl (load_part (c := s.cells) Fx4'.c5 (by simp [SkyR.cells]) rfl rfl ?_))
  refine good15 hJ hO (by rw [ownW_len]; omega) fun H5 S5 => ext0 (ext1 (neqI (cndI (fun hx => absurd f1 hx) fun _ => ?_)))
  have nxt : ∀ {F' : RG} {c : Bool}, F'.ds = [] → F'.r 3 = ptr h.length 0 → F'.r 4 = lv → F'.r 6 = ptr p5 0 → F'.r 7 = vint heads → F'.r 8 = tv → F'.r 9 = vint e → F'.r 10 = av → F'.r 11 = vint (-1) → F'.r 12 = vint (i : Nat) → F'.r 13 = .bool c → c = ((List.range (k + 1)).all fun k => fedB (ls.getD k pas0) (ownW u k heads) s) → F'.r 14 = vint ((k + 1 : Nat) : Int) → k + 1 ≤ ls.length ∧ SameX [] H1 H5 ∧ RT4 F' h.length lv tv av p5 heads e (-1) i ∧ F'.r 13 = .bool ((List.range (k + 1)).all fun k => fedB (ls.getD k pas0) (ownW u k heads) s) ∧ F'.r 14 = vint ((k + 1 : Nat) : Int) :=
   fun ds r3 r4 r6 r7 r8 r9 r10 r11 r12 r13 hc r14 => ⟨by omega, (S2.trans S4).trans S5, ⟨ds, r3, r4, r6, r7, r8, r9, r10, r11, r12⟩, by rw [r13, hc], r14⟩
  refine cndB (fun hc => ?_) fun hc => ?_
  ·refine eqlI (addI (by omega) ⟨k + 1, by dsimp only; omega, .inl (nxt ds r3 r4 r6 r7 r8 r9 r10 r11 r12 rfl ?_ rfl)⟩)
   rw [all_succ, hc, Bool.true_and]
   by_cases hf : fedB (ls.getD k pas0) (ownW u k heads) s = true
   ·rw [hf, decide_eq_true (f2.2 hf)]
   ·have hf' : fedB (ls.getD k pas0) (ownW u k heads) s = false := by simpa using hf
    rw [hf', decide_eq_false (fun hx => hf (f2.1 hx))]
  ·refine addI (by omega) ⟨k + 1, by dsimp only; omega, .inl (nxt ds r3 r4 r6 r7 r8 r9 r10 r11 r12 rfl ?_ rfl)⟩
   rw [all_succ, hc, Bool.false_and]
end
section
variable {W0 : World} {Post : Value → World → Prop} {h : List AObj} {K : Value → List AObj → Prop}
set_option maxHeartbeats 1000000 in
theorem walk4 {nv : Value} {ns : List Int} (sn : Sli h nv 1 ns.length (ns.map vint)) (hln : ns.length < 4611686018427387904) (hK : ∀ H', K (.bool true) H') :
  W prog (J2 prog W0 Post) 149 h.length 4 (codeOf f4) (RG.mk (regs [nv]) []) h (RetQ prog [.tmp 2] h.length K) := by
 have hJ := J2.closed prog W0 Post
 rw [e4]
 refine newX hJ sn hln fun H1 a1 => amX hJ a1 (by omega) (by omega) (by omega) fun n H2 n0 n1 S2 l2 a2 => ?_
 obtain ⟨m, rfl⟩ : ∃ m : Nat, n = (m : Int) := ⟨n.toNat, by omega⟩
 have hm : 1 ≤ m ∧ m ≤ 2 := by omega
 refine l4_1 hJ (fun i : Nat => i) (fun i F H' => ∃ (ls : List Pas) (v : Value) (o : Option Nat), HX h H' ns (30 - 12 * i) ∧ i + ls.length = m ∧ (∀ p ∈ ls, pasOk p) ∧ OwnX H' 6 (ls.flatMap Pas.cells) ls.length v o ∧ (∀ j, o = some j → h.length < j) ∧ F.ds = [] ∧ F.r 3 = ptr h.length 0 ∧ F.r 4 = v ∧ F.r 5 = vint (i : Nat)) ?_ (s := m)
  (.inl ⟨[], .slice none 0 0, none, a2.mono (by omega), by simp, (by simp), ⟨rfl, rfl, .inl ⟨rfl, rfl, rfl⟩⟩, (by simp), rfl, rfl, rfl, rfl⟩)
 rintro i F H' ⟨ls, v, o, hx, hi, hok, O, ho, ds, r3, r4, r5⟩ okc hnc
 have lx := hxLt hx
 rw [s4_1, r3, r4, r5]
 refine gtrI (cndI (fun hlt => ?_) fun hge => ?_)
 ·-- a pasture
  refine good8 hJ hx (by omega) fun p H3 fp _ S3 hx3 => ⟨⟨by decide, by decide, rfl⟩, fillO (l := p.cells) rfl rfl rfl (by decide) (fillI (qNew fun H4 p4 e4 S4 c4 l4 => ?_))⟩
  have c4 : H4[p4]? = some (.cells p.cells true 0) := c4
  have O4 := ownX_keep (ownX_keep O S3 (fun j hj => by have := ho j hj; simp; omega)) S4 (by simp)
  refine ⟨⟨rfl, by decide, by decide, by decide⟩, ownX_more O4 (by decide) (by omega) (ownX_sli (ownX_new (s := 6) (n := 1) (l := p.cells) c4 rfl rfl)) fun v5 H5 p6 e5 O5 S5 => subI (by omega) ?_⟩
  have hx4 := hx3.same S4 (by simp)
  have l4x := hxLt hx4
  refine ⟨i - 1, by dsimp only; omega, .inl ⟨ls ++ [p], v5, some p6, (hx4.same S5 (fun x hxo => ?_)).mono (by omega), by rw [List.length_append, List.length_singleton]; omega, fun q hq => ?_, ?_, fun j hj => ?_, ds, r3, rfl, ?_⟩⟩
  ·have := ho x (Option.mem_toList.1 hxo)
   omega
  ·rcases List.mem_append.1 hq with hq | hq
   ·exact hok q hq
   ·rw [List.mem_singleton.1 hq]
    exact fp
  ·have e1 : (ls ++ [p]).flatMap Pas.cells = ls.flatMap Pas.cells ++ p.cells := by simp [List.flatMap_append]
   rw [e1, List.length_append]
   exact O5
  ·cases hj
   omega
  ·show vint _ = vint _
   congr 1
   omega
 ·have hi0 : i = 0 := by omega
  subst hi0
  have hlm : ls.length = m := by omega
  have L : LsOk ls := ⟨⟨by omega, by omega⟩, hok⟩
  refine good9 hJ hx (by omega) (D := 4) (by decide) fun s H3 gs hs4 S3 hx3 => upX hJ hx3 (by omega) (by omega) fun heads H4 h0 h1 S4 l4 hx4 => ?_
  have g1 := gs.1
  have lx4 := hxLt hx4
  refine qAl fun H5 p5 e5 S5 c5 l5 => qStA (c := s.cells) c5 rfl rfl rfl fun H6 S6 c6 l6 => load_part (c := s.cells) c6 (by simp [SkyR.cells]) rfl rfl ?_
  have T46 : SameX [] H4 H6 := S5.thru S6 (by simp; omega)
  have hx6 := hx4.same T46 (by simp)
  have nho : ∀ j, o = some j → j ∉ [h.length] := fun j hj => by have := ho j hj; simp; omega
  have O6 := ownX_keep (ownX_keep (ownX_keep O S3 nho) S4 nho) T46 (by simp)
  have hh : 0 ≤ heads ∧ heads ≤ 15 := by omega
  have hc' : cntE ls.length 1 3 = 0 := by
   unfold cntE
   rw [if_neg (by omega), if_neg (by omega)]
  have hE : turnE ls s heads = 0 := turnE_zero hc' ⟨hok, gs, by omega⟩
  refine goodA11 (by omega) (ownX_sli O6) ⟨fun hn => absurd hE hn, fun _ => ansF_to fun H7 tv e S7 hv => ext0 (ext1 ?_)⟩
  have C7 := keepC_unch S7
  have O7 := ownX_keepC C7 O6
  have c7 := C7.2 _ _ _ _ c6
  have hx7 := (hx6.unch).same S7 (by simp)
  have hl7 : SliE H7 v 6 Pas.cells ls := ownX_sli O7
  have lx7 := hxLt hx7
  rw [unch_len] at lx7
  rw [sliE_len hl7]
  refine offI (ldI (v := vint s.days) c7 rfl rfl ?_)
  have hdn : s.days = ((s.days.toNat : Nat) : Int) := by omega
  rw [hdn]
  refine good14 hJ (F := ls.length) L.few s.days.toNat (by omega) (pow_bd L.few (by omega)) fun H8 av ao S8 A8 _ => ?_
  have Fx : Fx4 (unch h) H8 ns ls s heads e v tv av p5 (unch H6).length ao o := ⟨L, by omega, gs, by omega, hh, ownX_keep O7 S8 (by simp), S8.get c7 (by simp), A8.lo (by rw [unch_len]; exact C7.1), (hx7.same S8 (by simp)).mono (by omega), hv.more S8 (by simp), by rw [unch_len, unch_len]; have := hxLt hx6; exact this⟩
  have hp8 : p5 < H8.length := lt_of_get (S8.get c7 (by simp))
  refine search4 Fx ⟨ds, by rw [unch_len]; exact r3, r4, rfl, rfl, rfl, rfl, rfl, rfl, rfl⟩ hK hp8
end
end Go.Proofs.Ytdbammacnfojdaa
namespace Go.Proofs.Ytdbammacnfojdaa
open Go.Conc Go.ChangeShapes Go.WideShapes Go.ChangeAt Go.RowKit Go.Proofs.Try
set_option maxRecDepth 100000
theorem lifted4 (os : Os) (started : os.Started) (H : Type) (enc : TypeId × Value → H) :
  ReturnsInLeavingWide {} checked os 4 .any (Rows.grassTurnedSpec.pre6 enc prog f4 Rows.grassTurnedRow.domain false) (Rows.grassTurnedSpec.post enc prog f4 false true false false) := by
 refine returnsInLeavingWide_of_change_sized (C := checked) own started at4
  (ChangeSpec.witness6 (enc := enc) (C := checked) false ⟨#[], #[.slice none 0 0], []⟩ 8 (by kernel_rfl) (by kernel_rfl) (by kernel_rfl) (by kernel_rfl)) ?_
 intro W base args ds gs before hval0 hW _ hsz0 _
 have hsz : (DataW.weightsEach prog (f4.params.toList ++ Rows.grassTurnedSpec.plain.varTypes prog) (ds ++ gs)).all (· ≤ reachBytes) = true := hsz0
 clear hsz0
 have hval : ∀ (j : Nat) t v, f4.params[j]? = some t → args[j]? = some v → Value.okWide prog W .any base t v := hval0
 have hW' := hW
 obtain ⟨p, q, hA0, hV, rfl, _, _⟩ := hW
 have hA : DataW.TrodAll enc prog W 0 (fun _ => true) true f4.params.toList args.toList ds p := hA0
 have hps : f4.params = #[25] := by kernel_rfl
 rw [hps] at hA hval hsz
 obtain ⟨v0, d0, rfl, rfl, h0⟩ := trodAll_one hA
 obtain ⟨rfl, rfl⟩ := trodVars_none hV
 have u3 : prog.underlying 3 = some (.int .i64) := by kernel_rfl
 have u27 : prog.underlying 25 = some (.slice 3) := by kernel_rfl
 have u4 : prog.underlying 4 = some .bool := by kernel_rfl
 have c3 : prog.cellsOf 3 = 1 := by kernel_rfl
 have b3 : prog.bytesOf 3 = 8 := by kernel_rfl
 have hlt : ∀ x ∈ p, x.block < W.heap.size := fun x hx => by simpa using hW'.lt x (by simpa using hx)
 have hargs : ∀ (W' : World), Below W.heap.size W W' → DataW.TrodAll enc prog W' 0 (fun b => decide (b < W.heap.size)) true [25] [v0] [d0] p := fun W' hn =>
  trodAll_mk1 (Below.trod laidOut (by kernel_rfl) (of_decide_eq_true (by kernel_rfl)) h0 hn hlt)
 obtain ⟨ns, sn, ok2, hbig⟩ := arg_ints u27 u3 c3 (hval 0 25 v0 rfl rfl) h0
 have hln : ns.length < 4611686018427387904 := by
  rcases hbig with rfl | ⟨es, sp, rfl, hle⟩
  ·simp
  ·have := sized_slice hsz (j := 0) (t := 25) (e := 3) rfl rfl u27
   rw [b3] at this
   simp only [reachBytes] at this
   omega
 obtain ⟨M, last, o, w', t', r1, r2, r3, r4⟩ := law_run2 (g := 4) (fn := f4) at4 body4 (by kernel_rfl) W [v0] (Nat.le_of_ble_eq_true (by kernel_rfl : Nat.ble 1 f4.ntmps = true))
  (by
   intro v hv
   simp only [List.mem_cons, List.not_mem_nil, or_false] at hv
   subst hv
   exact ok2)
  (fun Post => walk4 (K := fun v _ => v = .bool true) sn hln fun _ => rfl)
 refine ⟨M, last, o, w', t', r1, r2, r3, r4.mono fun v hF => ?_⟩
 obtain ⟨rfl, hbelow⟩ := hF
 refine ⟨_, _, _, [], _, [], hW', ?_, hargs _ hbelow, by rfl, hbelow.frame _, fun h => by cases h⟩
 exact trodAll_mk1 (shut_bool u4 true)
theorem grassTurned_holds : Rows.GrassTurnedSaid :=
 OpenClaim.holds_of_wide_leaving 4 f4 rfl rfl rfl rfl rfl rfl rfl ⟨rfl, rfl, rfl, rfl, rfl⟩ rfl rfl rfl rfl rfl (by kernel_rfl) at4 (by kernel_rfl)
  (of_decide_eq_true (by kernel_rfl)) (by unfold Func.isWrapper; first | (rw [if_pos (by decide +kernel)]; kernel_rfl) | (rw [if_neg (by decide +kernel)]; exact ⟨rfl, rfl⟩))
  (fun os started H enc _ => lifted4 os started H enc)
#print axioms grassTurned_holds
end Go.Proofs.Ytdbammacnfojdaa
