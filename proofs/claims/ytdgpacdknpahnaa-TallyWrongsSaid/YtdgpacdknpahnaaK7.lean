/- TallyWrongs answers true at every input, and its arguments read behind the call as they read before. No conditions. -/
import Derived.Test.YtdgpacdknpahnaaK2
import Derived.Test.YtdgpacdknpahnaaK5
import Derived.Test.YtdgpacdknpahnaaK6
import Derived.Test.YtdgpacdknpahnaaK4
import Derived.Below
import Derived.Test.YtdgpacdknpahnaaRows
import Derived.Conc.LeavingOf
import Derived.ChangeSlices
import Derived.OpenShut
import Derived.Carry
import Derived.Test.YtdgpacdknpahnaaK3
import Derived.Deep.Slices
namespace Go.Proofs.Ytdgpacdknpahnaa
open Go.Conc Go.Proofs.Try
set_option maxRecDepth 100000
set_option maxHeartbeats 4000000
set_option linter.unusedVariables false
section
variable {main : Bool} {J : JT} {n0 : Nat} {h : List AObj} {K : Value → List AObj → Prop}
theorem at57 : prog.funcs[57]? = some f57 := by kernel_rfl
theorem body57 : f57.body = some (codeOf f57) := by kernel_rfl
def pl57 : Plans := [(11, false, .take 0 (.take 1 (.take 2 (.take 3 (.take 4 (.last 5 false (.last 6 true (.fin))))))))]
def ct57 : Cuts := .go
theorem pok57 : plansOk prog pl57 (codeOf f57) = true := by kernel_rfl
theorem e57 {a0 : Value} : W prog J 42 h.length 57 (codeOf f57) (RG.mk (regs [a0]) []) h (RetQ prog [.tmp 2, .tmp 3] h.length K) =
(aBox a0 h fun v1 h2 =>
aLoad true 6 v1 h2 fun v3 =>
Good prog J 52 [v3] h2 fun v4 h5 =>
aBin prog .neq 32 v4 (vint 0) fun v6 =>
cnd v6
(retL h.length K [] [(Value.slice none 0 0), v4] h5)
(Sem J 42 h.length 57 (subC [1, 1, 0, 1, 0] (codeOf f57)) (RG.p (RG.p (RG.p (RG.p (RG.p (RG.p (RG.p (RG.p (RG.p (RG.mk (regs [a0]) []) 1 v1) 2 (Value.slice none 0 0)) 3 (vint 0)) 8 v3) 9 v4) 4 v4) 10 v4) 11 v6) 5 (vint 0)) h5 (contX pl57 prog J 42 h.length 57 ct57 [1, 1, 0, 1, 0] (codeOf f57) [] (RetQ prog [.tmp 2, .tmp 3] h.length K)))) := top_eq pok57 ct57 (by kernel_rfl)
theorem g57 (hJ : Closed prog main J) {a0 : Value} (hs : heapOk h → W prog J 42 h.length 57 (codeOf f57) (RG.mk (regs [a0]) []) h (RetQ prog [.tmp 2, .tmp 3] h.length K)) : Good prog J 57 [a0] h K :=
  good_of_W hJ mixed at57 body57 (by kernel_rfl) (Nat.le_of_ble_eq_true rfl) hs
theorem s57_1 {f : RG} {nx0 : RG → List AObj → Prop} : W prog J 42 n0 57 (subC [1, 1, 0, 1, 0, 0] (codeOf f57)) f h (thenK nx0 (contX pl57 prog J 42 n0 57 ct57 [1, 1, 0, 1, 0] (codeOf f57) [] (RetQ prog [.tmp 2, .tmp 3] n0 K))) =
(aOff (f.r 1) 5 fun v1 =>
aLoad false 1 v1 h fun v2 =>
aLenS v2 fun v3 =>
aBin prog .leq 3 (f.r 5) v3 fun v4 =>
cnd v4
(aOff (f.r 1) 5 fun v5 =>
aLoad false 1 v5 h fun v6 =>
aLenS v6 fun v7 =>
Good prog J 89 [(vint 0), v7, (f.r 5)] h fun v8 h9 =>
Sem J 42 n0 57 (subC [1, 1, 0, 1, 0, 0, 1, 0, 0, 1, 1, 0] (codeOf f57)) (RG.p (RG.p (RG.p (RG.p (RG.p (RG.p (RG.p (RG.p (RG.p (RG.p (RG.p (RG.p f 13 (f.r 5)) 14 v1) 15 v2) 16 v3) 17 v4) 20 v5) 21 v6) 22 v7) 23 (f.r 5)) 24 v8) 6 v8) 7 (vint 0)) h9 (contX pl57 prog J 42 n0 57 ct57 [1, 1, 0, 1, 0, 0, 1, 0, 0, 1, 1, 0] (codeOf f57) [nx0] (RetQ prog [.tmp 2, .tmp 3] n0 K)))
(retL n0 K f.ds [(Value.slice none 0 0), (vint 11)] h)) := sub_eq pok57 ct57 (by kernel_rfl)
theorem l57_1 (hJ : Closed prog main J) {S : Type} (μ : S → Nat) (I : S → RG → List AObj → Prop) (hI : ∀ s f h, I s f h → heapOk h → n0 ≤ h.length → W prog J 42 n0 57 (subC [1, 1, 0, 1, 0, 0] (codeOf f57)) f h (thenK (Nx n0 μ I s) (contX pl57 prog J 42 n0 57 ct57 [1, 1, 0, 1, 0] (codeOf f57) [] (RetQ prog [.tmp 2, .tmp 3] n0 K))))
  {s : S} {f : RG} (hi : Gets n0 I s f h) : Sem J 42 n0 57 (subC [1, 1, 0, 1, 0] (codeOf f57)) f h (contX pl57 prog J 42 n0 57 ct57 [1, 1, 0, 1, 0] (codeOf f57) [] (RetQ prog [.tmp 2, .tmp 3] n0 K)) :=
  loop_rule hJ mixed (b := subC [1, 1, 0, 1, 0, 0] (codeOf f57)) (by kernel_rfl) μ I hI hi
theorem s57_2 {f : RG} {nx0 nx1 : RG → List AObj → Prop} : W prog J 42 n0 57 (subC [1, 1, 0, 1, 0, 0, 1, 0, 0, 1, 1, 0, 0] (codeOf f57)) f h (thenK nx1 (contX pl57 prog J 42 n0 57 ct57 [1, 1, 0, 1, 0, 0, 1, 0, 0, 1, 1, 0] (codeOf f57) [nx0] (RetQ prog [.tmp 2, .tmp 3] n0 K))) =
(aLenS (f.r 6) fun v1 =>
aBin prog .lss 3 (f.r 7) v1 fun v2 =>
cnd v2
((∃ B, aLoad true 6 (f.r 1) h fun v3 =>
RdOk (some B) (ptrBlk (f.r 1)) ∧ (aIdx 1 (f.r 6) (f.r 7) fun v4 =>
aLoad false 1 v4 h fun v5 =>
RdOk (some B) (ptrBlk v4) ∧ (Good prog J 63 [v3, v5] h fun v6 h7 =>
Good prog J 81 [v6] h7 fun v8 h9 =>
SameB (some B) h h9 ∧ (cnd v8
(aIdx 1 (f.r 6) (f.r 7) fun v10 =>
aLoad false 1 v10 h9 fun v11 =>
retL n0 K f.ds [v11, (vint 0)] h9)
(aBin prog .add 3 (f.r 7) (vint 1) fun v12 =>
nx1 (RG.p (RG.p (RG.p (RG.p (RG.p (RG.p (RG.p (RG.p (RG.p (RG.p (RG.p (RG.p (RG.p (RG.p f 25 (f.r 7)) 26 (f.r 6)) 27 v1) 28 v2) 31 v3) 32 (f.r 6)) 33 (f.r 7)) 34 v4) 35 v5) 36 v6) 37 v8) 29 (f.r 7)) 30 v12) 7 v12) h9))))))
(aBin prog .add 3 (f.r 5) (vint 1) fun v13 =>
nx0 (RG.p (RG.p (RG.p (RG.p (RG.p (RG.p (RG.p f 25 (f.r 7)) 26 (f.r 6)) 27 v1) 28 v2) 18 (f.r 5)) 19 v13) 5 v13) h)) := sub_eq pok57 ct57 (by kernel_rfl)
theorem l57_2 (hJ : Closed prog main J) {nx0 : RG → List AObj → Prop} {S : Type} (μ : S → Nat) (I : S → RG → List AObj → Prop) (hI : ∀ s f h, I s f h → heapOk h → n0 ≤ h.length → W prog J 42 n0 57 (subC [1, 1, 0, 1, 0, 0, 1, 0, 0, 1, 1, 0, 0] (codeOf f57)) f h (thenK (Nx n0 μ I s) (contX pl57 prog J 42 n0 57 ct57 [1, 1, 0, 1, 0, 0, 1, 0, 0, 1, 1, 0] (codeOf f57) [nx0] (RetQ prog [.tmp 2, .tmp 3] n0 K))))
  {s : S} {f : RG} (hi : Gets n0 I s f h) : Sem J 42 n0 57 (subC [1, 1, 0, 1, 0, 0, 1, 0, 0, 1, 1, 0] (codeOf f57)) f h (contX pl57 prog J 42 n0 57 ct57 [1, 1, 0, 1, 0, 0, 1, 0, 0, 1, 1, 0] (codeOf f57) [nx0] (RetQ prog [.tmp 2, .tmp 3] n0 K)) :=
  loop_rule hJ mixed (b := subC [1, 1, 0, 1, 0, 0, 1, 0, 0, 1, 1, 0, 0] (codeOf f57)) (by kernel_rfl) μ I hI hi
theorem at58 : prog.funcs[58]? = some f58 := by kernel_rfl
theorem body58 : f58.body = some (codeOf f58) := by kernel_rfl
def pl58 : Plans := [(14, false, .take 0 (.take 1 (.take 2 (.take 3 (.take 4 (.last 5 false (.last 6 true (.take 7 (.fin)))))))))]
def ct58 : Cuts := .go
theorem pok58 : plansOk prog pl58 (codeOf f58) = true := by kernel_rfl
theorem e58 {a0 : Value} : W prog J 47 h.length 58 (codeOf f58) (RG.mk (regs [a0]) []) h (RetQ prog [.tmp 2, .tmp 3] h.length K) =
(aBox a0 h fun v1 h2 =>
aLoad true 6 v1 h2 fun v3 =>
Good prog J 52 [v3] h2 fun v4 h5 =>
aBin prog .neq 32 v4 (vint 0) fun v6 =>
cnd v6
(retL h.length K [] [(Value.slice none 0 0), v4] h5)
(aLoad true 6 v1 h5 fun v7 =>
Good prog J 81 [v7] h5 fun v8 h9 =>
cnd v8
(retL h.length K [] [(Value.slice none 0 0), (vint 11)] h9)
(Sem J 47 h.length 58 (subC [1, 1, 1, 1, 0, 1, 0] (codeOf f58)) (RG.p (RG.p (RG.p (RG.p (RG.p (RG.p (RG.p (RG.p (RG.p (RG.p (RG.p (RG.p (RG.mk (regs [a0]) []) 1 v1) 2 (Value.slice none 0 0)) 3 (vint 0)) 9 v3) 10 v4) 4 v4) 11 v4) 12 v6) 14 v7) 15 v8) 5 (Value.slice none 0 0)) 6 (vint 0)) h9 (contX pl58 prog J 47 h.length 58 ct58 [1, 1, 1, 1, 0, 1, 0] (codeOf f58) [] (RetQ prog [.tmp 2, .tmp 3] h.length K))))) := top_eq pok58 ct58 (by kernel_rfl)
theorem g58 (hJ : Closed prog main J) {a0 : Value} (hs : heapOk h → W prog J 47 h.length 58 (codeOf f58) (RG.mk (regs [a0]) []) h (RetQ prog [.tmp 2, .tmp 3] h.length K)) : Good prog J 58 [a0] h K :=
  good_of_W hJ mixed at58 body58 (by kernel_rfl) (Nat.le_of_ble_eq_true rfl) hs
theorem s58_1 {f : RG} {nx0 : RG → List AObj → Prop} : W prog J 47 n0 58 (subC [1, 1, 1, 1, 0, 1, 0, 0] (codeOf f58)) f h (thenK nx0 (contX pl58 prog J 47 n0 58 ct58 [1, 1, 1, 1, 0, 1, 0] (codeOf f58) [] (RetQ prog [.tmp 2, .tmp 3] n0 K))) =
(aOff (f.r 1) 5 fun v1 =>
aLoad false 1 v1 h fun v2 =>
aLenS v2 fun v3 =>
aBin prog .leq 3 (f.r 6) v3 fun v4 =>
cnd v4
(aOff (f.r 1) 5 fun v5 =>
aLoad false 1 v5 h fun v6 =>
aLenS v6 fun v7 =>
Good prog J 89 [(vint 0), v7, (f.r 6)] h fun v8 h9 =>
Sem J 47 n0 58 (subC [1, 1, 1, 1, 0, 1, 0, 0, 1, 0, 0, 1, 1, 0] (codeOf f58)) (RG.p (RG.p (RG.p (RG.p (RG.p (RG.p (RG.p (RG.p (RG.p (RG.p (RG.p (RG.p f 16 (f.r 6)) 17 v1) 18 v2) 19 v3) 20 v4) 23 v5) 24 v6) 25 v7) 26 (f.r 6)) 27 v8) 7 v8) 8 (vint 0)) h9 (contX pl58 prog J 47 n0 58 ct58 [1, 1, 1, 1, 0, 1, 0, 0, 1, 0, 0, 1, 1, 0] (codeOf f58) [nx0] (RetQ prog [.tmp 2, .tmp 3] n0 K)))
(retL n0 K f.ds [(f.r 5), (vint 0)] h)) := sub_eq pok58 ct58 (by kernel_rfl)
theorem l58_1 (hJ : Closed prog main J) {S : Type} (μ : S → Nat) (I : S → RG → List AObj → Prop) (hI : ∀ s f h, I s f h → heapOk h → n0 ≤ h.length → W prog J 47 n0 58 (subC [1, 1, 1, 1, 0, 1, 0, 0] (codeOf f58)) f h (thenK (Nx n0 μ I s) (contX pl58 prog J 47 n0 58 ct58 [1, 1, 1, 1, 0, 1, 0] (codeOf f58) [] (RetQ prog [.tmp 2, .tmp 3] n0 K))))
  {s : S} {f : RG} (hi : Gets n0 I s f h) : Sem J 47 n0 58 (subC [1, 1, 1, 1, 0, 1, 0] (codeOf f58)) f h (contX pl58 prog J 47 n0 58 ct58 [1, 1, 1, 1, 0, 1, 0] (codeOf f58) [] (RetQ prog [.tmp 2, .tmp 3] n0 K)) :=
  loop_rule hJ mixed (b := subC [1, 1, 1, 1, 0, 1, 0, 0] (codeOf f58)) (by kernel_rfl) μ I hI hi
theorem s58_2 {f : RG} {nx0 nx1 : RG → List AObj → Prop} : W prog J 47 n0 58 (subC [1, 1, 1, 1, 0, 1, 0, 0, 1, 0, 0, 1, 1, 0, 0] (codeOf f58)) f h (thenK nx1 (contX pl58 prog J 47 n0 58 ct58 [1, 1, 1, 1, 0, 1, 0, 0, 1, 0, 0, 1, 1, 0] (codeOf f58) [nx0] (RetQ prog [.tmp 2, .tmp 3] n0 K))) =
(aLenS (f.r 7) fun v1 =>
aBin prog .lss 3 (f.r 8) v1 fun v2 =>
cnd v2
((∃ B, aLoad true 6 (f.r 1) h fun v3 =>
RdOk (some B) (ptrBlk (f.r 1)) ∧ (aIdx 1 (f.r 7) (f.r 8) fun v4 =>
aLoad false 1 v4 h fun v5 =>
RdOk (some B) (ptrBlk v4) ∧ (Good prog J 36 [v3, v5] h fun v6 h7 =>
Good prog J 81 [v6] h7 fun v8 h9 =>
SameB (some B) h h9 ∧ (aUn .not v8 fun v10 =>
cnd v10
(aIdx 1 (f.r 7) (f.r 8) fun v11 =>
aLoad false 1 v11 h9 fun v12 =>
retL n0 K f.ds [v12, (vint 0)] h9)
(aBin prog .add 3 (f.r 8) (vint 1) fun v13 =>
nx1 (RG.p (RG.p (RG.p (RG.p (RG.p (RG.p (RG.p (RG.p (RG.p (RG.p (RG.p (RG.p (RG.p (RG.p (RG.p f 28 (f.r 8)) 29 (f.r 7)) 30 v1) 31 v2) 34 v3) 35 (f.r 7)) 36 (f.r 8)) 37 v4) 38 v5) 39 v6) 40 v8) 41 v10) 32 (f.r 8)) 33 v13) 8 v13) h9))))))
(aBin prog .add 3 (f.r 6) (vint 1) fun v14 =>
nx0 (RG.p (RG.p (RG.p (RG.p (RG.p (RG.p (RG.p f 28 (f.r 8)) 29 (f.r 7)) 30 v1) 31 v2) 21 (f.r 6)) 22 v14) 6 v14) h)) := sub_eq pok58 ct58 (by kernel_rfl)
theorem l58_2 (hJ : Closed prog main J) {nx0 : RG → List AObj → Prop} {S : Type} (μ : S → Nat) (I : S → RG → List AObj → Prop) (hI : ∀ s f h, I s f h → heapOk h → n0 ≤ h.length → W prog J 47 n0 58 (subC [1, 1, 1, 1, 0, 1, 0, 0, 1, 0, 0, 1, 1, 0, 0] (codeOf f58)) f h (thenK (Nx n0 μ I s) (contX pl58 prog J 47 n0 58 ct58 [1, 1, 1, 1, 0, 1, 0, 0, 1, 0, 0, 1, 1, 0] (codeOf f58) [nx0] (RetQ prog [.tmp 2, .tmp 3] n0 K))))
  {s : S} {f : RG} (hi : Gets n0 I s f h) : Sem J 47 n0 58 (subC [1, 1, 1, 1, 0, 1, 0, 0, 1, 0, 0, 1, 1, 0] (codeOf f58)) f h (contX pl58 prog J 47 n0 58 ct58 [1, 1, 1, 1, 0, 1, 0, 0, 1, 0, 0, 1, 1, 0] (codeOf f58) [nx0] (RetQ prog [.tmp 2, .tmp 3] n0 K)) :=
  loop_rule hJ mixed (b := subC [1, 1, 1, 1, 0, 1, 0, 0, 1, 0, 0, 1, 1, 0, 0] (codeOf f58)) (by kernel_rfl) μ I hI hi
theorem at60 : prog.funcs[60]? = some f60 := by kernel_rfl
theorem body60 : f60.body = some (codeOf f60) := by kernel_rfl
def pl60 : Plans := [(22, false, .take 0 (.take 1 (.take 2 (.last 3 true (.last 4 true (.last 5 true (.fin)))))))]
def ct60 : Cuts := .go
theorem pok60 : plansOk prog pl60 (codeOf f60) = true := by kernel_rfl
theorem e60 {a0 : Value} : W prog J 72 h.length 60 (codeOf f60) (RG.mk (regs [a0]) []) h (RetQ prog [.tmp 2, .tmp 3] h.length K) =
(aBox a0 h fun v1 h2 =>
aLoad true 6 v1 h2 fun v3 =>
Good prog J 52 [v3] h2 fun v4 h5 =>
aBin prog .neq 32 v4 (vint 0) fun v6 =>
cnd v6
(retL h.length K [] [(Value.slice none 0 0), v4] h5)
(Sem J 72 h.length 60 (subC [1, 1, 1, 0, 1, 0] (codeOf f60)) (RG.p (RG.p (RG.p (RG.p (RG.p (RG.p (RG.p (RG.p (RG.p (RG.p (RG.mk (regs [a0]) []) 1 v1) 2 (Value.slice none 0 0)) 3 (vint 0)) 12 v3) 13 v4) 4 v4) 14 v4) 15 v6) 5 (Value.slice none 0 0)) 6 (vint 1)) h5 (contX pl60 prog J 72 h.length 60 ct60 [1, 1, 1, 0, 1, 0] (codeOf f60) [] (RetQ prog [.tmp 2, .tmp 3] h.length K)))) := top_eq pok60 ct60 (by kernel_rfl)
theorem g60 (hJ : Closed prog main J) {a0 : Value} (hs : heapOk h → W prog J 72 h.length 60 (codeOf f60) (RG.mk (regs [a0]) []) h (RetQ prog [.tmp 2, .tmp 3] h.length K)) : Good prog J 60 [a0] h K :=
  good_of_W hJ mixed at60 body60 (by kernel_rfl) (Nat.le_of_ble_eq_true rfl) hs
theorem s60_1 {f : RG} {nx0 : RG → List AObj → Prop} : W prog J 72 n0 60 (subC [1, 1, 1, 0, 1, 0, 0] (codeOf f60)) f h (thenK nx0 (contX pl60 prog J 72 n0 60 ct60 [1, 1, 1, 0, 1, 0] (codeOf f60) [] (RetQ prog [.tmp 2, .tmp 3] n0 K))) =
(aBin prog .leq 3 (f.r 6) (vint 9) fun v1 =>
cnd v1
(aLoad true 6 (f.r 1) h fun v2 =>
(((1 * 1 : Nat) ≤ 16777216 ∧ (1 : Nat) ≤ 16777216 ∧ List.length [(vint 0)] = 1) ∧ aFill (zrep [(vint 0)] 1) [(0, 1, (f.r 6))] fun c3 =>
aNewS 1 c3 h fun v4 h5 =>
Good prog J 64 [v2, v4] h5 fun v6 h7 =>
aLenS v6 fun v8 =>
aBin prog .gtr 3 v8 (vint 0) fun v9 =>
cnd v9
((((1 * 1 : Nat) ≤ 16777216 ∧ (1 : Nat) ≤ 16777216 ∧ List.length [(vint 0)] = 1) ∧ aFill (zrep [(vint 0)] 1) [(0, 1, (f.r 6))] fun c10 =>
aNewS 1 c10 h7 fun v11 h12 =>
((List.length [(vint 0)] = 1 ∧ 0 < (1 : Nat) ∧ 0 < (8 : Nat) ∧ (8 : Nat) ≤ 1024) ∧ aApp 1 (f.r 5) v11 h12 fun v13 h14 =>
aBin prog .add 3 (f.r 6) (vint 1) fun v15 =>
nx0 (RG.p (RG.p (RG.p (RG.p (RG.p (RG.p (RG.p (RG.p (RG.p (RG.p (RG.p (RG.p (RG.p (RG.p (RG.p (RG.p f 17 (f.r 6)) 18 v1) 21 v2) 22 (f.r 6)) 23 v4) 24 v6) 25 v8) 26 v9) 27 (f.r 5)) 28 (f.r 6)) 29 v11) 30 v13) 5 v13) 19 (f.r 6)) 20 v15) 6 v15) h14)))
(aBin prog .add 3 (f.r 6) (vint 1) fun v16 =>
nx0 (RG.p (RG.p (RG.p (RG.p (RG.p (RG.p (RG.p (RG.p (RG.p (RG.p (RG.p f 17 (f.r 6)) 18 v1) 21 v2) 22 (f.r 6)) 23 v4) 24 v6) 25 v8) 26 v9) 19 (f.r 6)) 20 v16) 6 v16) h7)))
(Sem J 72 n0 60 (subC [1, 1, 1, 1, 0, 1, 0] (codeOf f60)) (RG.p (RG.p (RG.p f 17 (f.r 6)) 18 v1) 7 (vint 0)) h (contX pl60 prog J 72 n0 60 ct60 [1, 1, 1, 1, 0, 1, 0] (codeOf f60) [] (RetQ prog [.tmp 2, .tmp 3] n0 K)))) := sub_eq pok60 ct60 (by kernel_rfl)
theorem l60_1 (hJ : Closed prog main J) {S : Type} (μ : S → Nat) (I : S → RG → List AObj → Prop) (hI : ∀ s f h, I s f h → heapOk h → n0 ≤ h.length → W prog J 72 n0 60 (subC [1, 1, 1, 0, 1, 0, 0] (codeOf f60)) f h (thenK (Nx n0 μ I s) (contX pl60 prog J 72 n0 60 ct60 [1, 1, 1, 0, 1, 0] (codeOf f60) [] (RetQ prog [.tmp 2, .tmp 3] n0 K))))
  {s : S} {f : RG} (hi : Gets n0 I s f h) : Sem J 72 n0 60 (subC [1, 1, 1, 0, 1, 0] (codeOf f60)) f h (contX pl60 prog J 72 n0 60 ct60 [1, 1, 1, 0, 1, 0] (codeOf f60) [] (RetQ prog [.tmp 2, .tmp 3] n0 K)) :=
  loop_rule hJ mixed (b := subC [1, 1, 1, 0, 1, 0, 0] (codeOf f60)) (by kernel_rfl) μ I hI hi
theorem s60_2 {f : RG} {nx0 : RG → List AObj → Prop} : W prog J 72 n0 60 (subC [1, 1, 1, 1, 0, 1, 0, 0] (codeOf f60)) f h (thenK nx0 (contX pl60 prog J 72 n0 60 ct60 [1, 1, 1, 1, 0, 1, 0] (codeOf f60) [] (RetQ prog [.tmp 2, .tmp 3] n0 K))) =
(aLenS (f.r 5) fun v1 =>
aBin prog .leq 3 (f.r 7) v1 fun v2 =>
cnd v2
(aLenS (f.r 5) fun v3 =>
Good prog J 89 [(vint 0), v3, (f.r 7)] h fun v4 h5 =>
Sem J 72 n0 60 (subC [1, 1, 1, 1, 0, 1, 0, 0, 1, 0, 0, 1, 1, 0] (codeOf f60)) (RG.p (RG.p (RG.p (RG.p (RG.p (RG.p (RG.p (RG.p (RG.p (RG.p f 31 (f.r 7)) 32 (f.r 5)) 33 v1) 34 v2) 37 (f.r 5)) 38 v3) 39 (f.r 7)) 40 v4) 8 v4) 9 (vint 0)) h5 (contX pl60 prog J 72 n0 60 ct60 [1, 1, 1, 1, 0, 1, 0, 0, 1, 0, 0, 1, 1, 0] (codeOf f60) [nx0] (RetQ prog [.tmp 2, .tmp 3] n0 K)))
(retL n0 K f.ds [(Value.slice none 0 0), (vint 11)] h)) := sub_eq pok60 ct60 (by kernel_rfl)
theorem l60_2 (hJ : Closed prog main J) {S : Type} (μ : S → Nat) (I : S → RG → List AObj → Prop) (hI : ∀ s f h, I s f h → heapOk h → n0 ≤ h.length → W prog J 72 n0 60 (subC [1, 1, 1, 1, 0, 1, 0, 0] (codeOf f60)) f h (thenK (Nx n0 μ I s) (contX pl60 prog J 72 n0 60 ct60 [1, 1, 1, 1, 0, 1, 0] (codeOf f60) [] (RetQ prog [.tmp 2, .tmp 3] n0 K))))
  {s : S} {f : RG} (hi : Gets n0 I s f h) : Sem J 72 n0 60 (subC [1, 1, 1, 1, 0, 1, 0] (codeOf f60)) f h (contX pl60 prog J 72 n0 60 ct60 [1, 1, 1, 1, 0, 1, 0] (codeOf f60) [] (RetQ prog [.tmp 2, .tmp 3] n0 K)) :=
  loop_rule hJ mixed (b := subC [1, 1, 1, 1, 0, 1, 0, 0] (codeOf f60)) (by kernel_rfl) μ I hI hi
theorem s60_3 {f : RG} {nx0 nx1 : RG → List AObj → Prop} : W prog J 72 n0 60 (subC [1, 1, 1, 1, 0, 1, 0, 0, 1, 0, 0, 1, 1, 0, 0] (codeOf f60)) f h (thenK nx1 (contX pl60 prog J 72 n0 60 ct60 [1, 1, 1, 1, 0, 1, 0, 0, 1, 0, 0, 1, 1, 0] (codeOf f60) [nx0] (RetQ prog [.tmp 2, .tmp 3] n0 K))) =
(aLenS (f.r 8) fun v1 =>
aBin prog .lss 3 (f.r 9) v1 fun v2 =>
cnd v2
(Sem J 72 n0 60 (subC [1, 1, 1, 1, 0, 1, 0, 0, 1, 0, 0, 1, 1, 0, 0, 1, 0, 0, 1, 0, 1, 0] (codeOf f60)) (RG.p (RG.p (RG.p (RG.p (RG.p (RG.p f 41 (f.r 9)) 42 (f.r 8)) 43 v1) 44 v2) 10 (Value.slice none 0 0)) 11 (vint 0)) h (contX pl60 prog J 72 n0 60 ct60 [1, 1, 1, 1, 0, 1, 0, 0, 1, 0, 0, 1, 1, 0, 0, 1, 0, 0, 1, 0, 1, 0] (codeOf f60) [nx0, nx1] (RetQ prog [.tmp 2, .tmp 3] n0 K)))
(aBin prog .add 3 (f.r 7) (vint 1) fun v3 =>
nx0 (RG.p (RG.p (RG.p (RG.p (RG.p (RG.p (RG.p f 41 (f.r 9)) 42 (f.r 8)) 43 v1) 44 v2) 35 (f.r 7)) 36 v3) 7 v3) h)) := sub_eq pok60 ct60 (by kernel_rfl)
theorem l60_3 (hJ : Closed prog main J) {nx0 : RG → List AObj → Prop} {S : Type} (μ : S → Nat) (I : S → RG → List AObj → Prop) (hI : ∀ s f h, I s f h → heapOk h → n0 ≤ h.length → W prog J 72 n0 60 (subC [1, 1, 1, 1, 0, 1, 0, 0, 1, 0, 0, 1, 1, 0, 0] (codeOf f60)) f h (thenK (Nx n0 μ I s) (contX pl60 prog J 72 n0 60 ct60 [1, 1, 1, 1, 0, 1, 0, 0, 1, 0, 0, 1, 1, 0] (codeOf f60) [nx0] (RetQ prog [.tmp 2, .tmp 3] n0 K))))
  {s : S} {f : RG} (hi : Gets n0 I s f h) : Sem J 72 n0 60 (subC [1, 1, 1, 1, 0, 1, 0, 0, 1, 0, 0, 1, 1, 0] (codeOf f60)) f h (contX pl60 prog J 72 n0 60 ct60 [1, 1, 1, 1, 0, 1, 0, 0, 1, 0, 0, 1, 1, 0] (codeOf f60) [nx0] (RetQ prog [.tmp 2, .tmp 3] n0 K)) :=
  loop_rule hJ mixed (b := subC [1, 1, 1, 1, 0, 1, 0, 0, 1, 0, 0, 1, 1, 0, 0] (codeOf f60)) (by kernel_rfl) μ I hI hi
theorem s60_4 {f : RG} {nx0 nx1 nx2 : RG → List AObj → Prop} : W prog J 72 n0 60 (subC [1, 1, 1, 1, 0, 1, 0, 0, 1, 0, 0, 1, 1, 0, 0, 1, 0, 0, 1, 0, 1, 0, 0] (codeOf f60)) f h (thenK nx2 (contX pl60 prog J 72 n0 60 ct60 [1, 1, 1, 1, 0, 1, 0, 0, 1, 0, 0, 1, 1, 0, 0, 1, 0, 0, 1, 0, 1, 0] (codeOf f60) [nx0, nx1] (RetQ prog [.tmp 2, .tmp 3] n0 K))) =
(aBin prog .lss 3 (f.r 11) (f.r 7) fun v1 =>
cnd v1
(aIdx 1 (f.r 8) (f.r 9) fun v2 =>
aLoad false 1 v2 h fun v3 =>
aIdx 1 v3 (f.r 11) fun v4 =>
aLoad false 1 v4 h fun v5 =>
aIdx 1 (f.r 5) v5 fun v6 =>
aLoad false 1 v6 h fun v7 =>
(((1 * 1 : Nat) ≤ 16777216 ∧ (1 : Nat) ≤ 16777216 ∧ List.length [(vint 0)] = 1) ∧ aFill (zrep [(vint 0)] 1) [(0, 1, v7)] fun c8 =>
aNewS 1 c8 h fun v9 h10 =>
((List.length [(vint 0)] = 1 ∧ 0 < (1 : Nat) ∧ 0 < (8 : Nat) ∧ (8 : Nat) ≤ 1024) ∧ aApp 1 (f.r 10) v9 h10 fun v11 h12 =>
aBin prog .add 3 (f.r 11) (vint 1) fun v13 =>
nx2 (RG.p (RG.p (RG.p (RG.p (RG.p (RG.p (RG.p (RG.p (RG.p (RG.p (RG.p (RG.p (RG.p (RG.p (RG.p (RG.p (RG.p (RG.p (RG.p (RG.p f 47 (f.r 11)) 48 (f.r 7)) 49 v1) 52 (f.r 10)) 53 (f.r 5)) 54 (f.r 8)) 55 (f.r 9)) 56 v2) 57 v3) 58 (f.r 11)) 59 v4) 60 v5) 61 v6) 62 v7) 63 v9) 64 v11) 10 v11) 50 (f.r 11)) 51 v13) 11 v13) h12)))
((∃ B, aLoad true 6 (f.r 1) h fun v14 =>
RdOk (some B) (ptrBlk (f.r 1)) ∧ (aLoad true 6 (f.r 1) h fun v15 =>
RdOk (some B) (ptrBlk (f.r 1)) ∧ (Good prog J 64 [v15, (f.r 10)] h fun v16 h17 =>
SameB (some B) h h17 ∧ (Good prog J 63 [v14, v16] h17 fun v18 h19 =>
SameB (some B) h h19 ∧ (Good prog J 81 [v18] h19 fun v20 h21 =>
SameB (some B) h h21 ∧ (cnd v20
(retL n0 K f.ds [(f.r 10), (vint 0)] h21)
(aBin prog .add 3 (f.r 9) (vint 1) fun v22 =>
nx1 (RG.p (RG.p (RG.p (RG.p (RG.p (RG.p (RG.p (RG.p (RG.p (RG.p (RG.p (RG.p f 47 (f.r 11)) 48 (f.r 7)) 49 v1) 65 v14) 66 v15) 67 (f.r 10)) 68 v16) 69 v18) 70 v20) 45 (f.r 9)) 46 v22) 9 v22) h21))))))))) := sub_eq pok60 ct60 (by kernel_rfl)
theorem l60_4 (hJ : Closed prog main J) {nx0 nx1 : RG → List AObj → Prop} {S : Type} (μ : S → Nat) (I : S → RG → List AObj → Prop) (hI : ∀ s f h, I s f h → heapOk h → n0 ≤ h.length → W prog J 72 n0 60 (subC [1, 1, 1, 1, 0, 1, 0, 0, 1, 0, 0, 1, 1, 0, 0, 1, 0, 0, 1, 0, 1, 0, 0] (codeOf f60)) f h (thenK (Nx n0 μ I s) (contX pl60 prog J 72 n0 60 ct60 [1, 1, 1, 1, 0, 1, 0, 0, 1, 0, 0, 1, 1, 0, 0, 1, 0, 0, 1, 0, 1, 0] (codeOf f60) [nx0, nx1] (RetQ prog [.tmp 2, .tmp 3] n0 K))))
  {s : S} {f : RG} (hi : Gets n0 I s f h) : Sem J 72 n0 60 (subC [1, 1, 1, 1, 0, 1, 0, 0, 1, 0, 0, 1, 1, 0, 0, 1, 0, 0, 1, 0, 1, 0] (codeOf f60)) f h (contX pl60 prog J 72 n0 60 ct60 [1, 1, 1, 1, 0, 1, 0, 0, 1, 0, 0, 1, 1, 0, 0, 1, 0, 0, 1, 0, 1, 0] (codeOf f60) [nx0, nx1] (RetQ prog [.tmp 2, .tmp 3] n0 K)) :=
  loop_rule hJ mixed (b := subC [1, 1, 1, 1, 0, 1, 0, 0, 1, 0, 0, 1, 1, 0, 0, 1, 0, 0, 1, 0, 1, 0, 0] (codeOf f60)) (by kernel_rfl) μ I hI hi
end
section
variable {main : Bool} {J : JT} {n0 : Nat} {h : List AObj} {K : Value → List AObj → Prop}
theorem at93 : prog.funcs[93]? = some f93 := by kernel_rfl
theorem body93 : f93.body = some (codeOf f93) := by kernel_rfl
def pl93 : Plans := []
def ct93 : Cuts := .go
theorem pok93 : plansOk prog pl93 (codeOf f93) = true := by kernel_rfl
theorem e93 {a0 a1 : Value} : W prog J 18 h.length 93 (codeOf f93) (RG.mk (regs [a0, a1]) []) h (RetQ prog [.tmp 4] h.length K) =
(Sem J 18 h.length 93 (subC [1, 0, 1, 0] (codeOf f93)) (RG.p (RG.p (RG.mk (regs [a0, a1]) []) 4 (Value.bool false)) 5 (vint 0)) h (contX pl93 prog J 18 h.length 93 ct93 [1, 0, 1, 0] (codeOf f93) [] (RetQ prog [.tmp 4] h.length K))) := top_eq pok93 ct93 (by kernel_rfl)
theorem g93 (hJ : Closed prog main J) {a0 a1 : Value} (hs : heapOk h → W prog J 18 h.length 93 (codeOf f93) (RG.mk (regs [a0, a1]) []) h (RetQ prog [.tmp 4] h.length K)) : Good prog J 93 [a0, a1] h K :=
  good_of_W hJ mixed at93 body93 (by kernel_rfl) (Nat.le_of_ble_eq_true rfl) hs
theorem s93_1 {f : RG} {nx0 : RG → List AObj → Prop} : W prog J 18 n0 93 (subC [1, 0, 1, 0, 0] (codeOf f93)) f h (thenK nx0 (contX pl93 prog J 18 n0 93 ct93 [1, 0, 1, 0] (codeOf f93) [] (RetQ prog [.tmp 4] n0 K))) =
(aLenS (f.r 0) fun v1 =>
aBin prog .lss 3 (f.r 5) v1 fun v2 =>
cnd v2
(aIdx 1 (f.r 0) (f.r 5) fun v3 =>
aLoad false 1 v3 h fun v4 =>
aBin prog .eql 3 v4 (f.r 1) fun v5 =>
cnd v5
(retL n0 K f.ds [(Value.bool true)] h)
(aBin prog .add 3 (f.r 5) (vint 1) fun v6 =>
nx0 (RG.p (RG.p (RG.p (RG.p (RG.p (RG.p (RG.p (RG.p (RG.p (RG.p (RG.p (RG.p (RG.p f 6 (f.r 5)) 7 (f.r 0)) 8 v1) 9 v2) 12 (f.r 0)) 13 (f.r 5)) 14 v3) 15 v4) 16 (f.r 1)) 17 v5) 10 (f.r 5)) 11 v6) 5 v6) h))
(retL n0 K f.ds [(Value.bool false)] h)) := sub_eq pok93 ct93 (by kernel_rfl)
theorem l93_1 (hJ : Closed prog main J) {S : Type} (μ : S → Nat) (I : S → RG → List AObj → Prop) (hI : ∀ s f h, I s f h → heapOk h → n0 ≤ h.length → W prog J 18 n0 93 (subC [1, 0, 1, 0, 0] (codeOf f93)) f h (thenK (Nx n0 μ I s) (contX pl93 prog J 18 n0 93 ct93 [1, 0, 1, 0] (codeOf f93) [] (RetQ prog [.tmp 4] n0 K))))
  {s : S} {f : RG} (hi : Gets n0 I s f h) : Sem J 18 n0 93 (subC [1, 0, 1, 0] (codeOf f93)) f h (contX pl93 prog J 18 n0 93 ct93 [1, 0, 1, 0] (codeOf f93) [] (RetQ prog [.tmp 4] n0 K)) :=
  loop_rule hJ mixed (b := subC [1, 0, 1, 0, 0] (codeOf f93)) (by kernel_rfl) μ I hI hi
theorem at63 : prog.funcs[63]? = some f63 := by kernel_rfl
theorem body63 : f63.body = some (codeOf f63) := by kernel_rfl
def pl63 : Plans := [(7, false, .take 0 (.take 1 (.take 2 (.take 3 (.take 4 (.take 5 (.last 6 true (.last 7 true (.take 8 (.last 9 false (.fin)))))))))))]
def ct63 : Cuts := .go
theorem pok63 : plansOk prog pl63 (codeOf f63) = true := by kernel_rfl
theorem e63 {a0 a1 : Value} : W prog J 30 h.length 63 (codeOf f63) (RG.mk (regs [a0, a1]) []) h (RetQ prog [.cell 4 42] h.length K) =
(aBox a0 h fun v1 h2 =>
aAlloc [(vint 0), (vint 0), (vint 0), (Value.slice none 0 0), (vint 0), (Value.slice none 0 0)] h2 fun v3 h4 =>
aOff v1 5 fun v5 =>
aLoad false 1 v5 h4 fun v6 =>
aOff v1 5 fun v7 =>
aStore 1 v7 (Value.slice none 0 0) h4 fun h8 =>
Sem J 30 h.length 63 (subC [1, 1, 1, 0, 1, 0] (codeOf f63)) (RG.p (RG.p (RG.p (RG.p (RG.p (RG.p (RG.p (RG.mk (regs [a0, a1]) []) 2 v1) 4 v3) 7 v5) 8 v6) 5 v6) 9 v7) 6 (vint 0)) h8 (contX pl63 prog J 30 h.length 63 ct63 [1, 1, 1, 0, 1, 0] (codeOf f63) [] (RetQ prog [.cell 4 42] h.length K))) := top_eq pok63 ct63 (by kernel_rfl)
theorem g63 (hJ : Closed prog main J) {a0 a1 : Value} (hs : heapOk h → W prog J 30 h.length 63 (codeOf f63) (RG.mk (regs [a0, a1]) []) h (RetQ prog [.cell 4 42] h.length K)) : Good prog J 63 [a0, a1] h K :=
  good_of_W hJ mixed at63 body63 (by kernel_rfl) (Nat.le_of_ble_eq_true rfl) hs
theorem s63_1 {f : RG} {nx0 : RG → List AObj → Prop} : W prog J 30 n0 63 (subC [1, 1, 1, 0, 1, 0, 0] (codeOf f63)) f h (thenK nx0 (contX pl63 prog J 30 n0 63 ct63 [1, 1, 1, 0, 1, 0] (codeOf f63) [] (RetQ prog [.cell 4 42] n0 K))) =
(aLenS (f.r 5) fun v1 =>
aBin prog .lss 3 (f.r 6) v1 fun v2 =>
cnd v2
(Good prog J 93 [(f.r 1), (f.r 6)] h fun v3 h4 =>
aUn .not v3 fun v5 =>
cnd v5
((∃ B, aOff (f.r 2) 5 fun v6 =>
aLoad false 1 v6 h4 fun v7 =>
RdOk (some B) (ptrBlk v6) ∧ (aIdx 4 (f.r 5) (f.r 6) fun v8 =>
aLoad true 4 v8 h4 fun v9 =>
RdOk (some B) (ptrBlk v8) ∧ ((((1 * 4 : Nat) ≤ 16777216 ∧ (1 : Nat) ≤ 16777216 ∧ List.length [(vint 0), (vint 0), (vint 0), (vint 0)] = 4) ∧ aFill (zrep [(vint 0), (vint 0), (vint 0), (vint 0)] 1) [(0, 4, v9)] fun c10 =>
aNewS 1 c10 h4 fun v11 h12 =>
SameB (some B) h4 h12 ∧ (((List.length [(vint 0), (vint 0), (vint 0), (vint 0)] = 4 ∧ 0 < (4 : Nat) ∧ 0 < (32 : Nat) ∧ (32 : Nat) ≤ 1024) ∧ aApp 4 v7 v11 h12 fun v13 h14 =>
SameB (some B) h4 h14 ∧ (aOff (f.r 2) 5 fun v15 =>
aStore 1 v15 v13 h14 fun h16 =>
aBin prog .add 3 (f.r 6) (vint 1) fun v17 =>
nx0 (RG.p (RG.p (RG.p (RG.p (RG.p (RG.p (RG.p (RG.p (RG.p (RG.p (RG.p (RG.p (RG.p (RG.p (RG.p (RG.p (RG.p (RG.p (RG.p (RG.p f 10 (f.r 6)) 11 (f.r 5)) 12 v1) 13 v2) 16 (f.r 1)) 17 (f.r 6)) 18 v3) 19 v5) 20 v6) 21 v7) 22 (f.r 5)) 23 (f.r 6)) 24 v8) 25 v9) 26 v11) 27 v13) 28 v15) 14 (f.r 6)) 15 v17) 6 v17) h16))))))))
(aBin prog .add 3 (f.r 6) (vint 1) fun v18 =>
nx0 (RG.p (RG.p (RG.p (RG.p (RG.p (RG.p (RG.p (RG.p (RG.p (RG.p (RG.p f 10 (f.r 6)) 11 (f.r 5)) 12 v1) 13 v2) 16 (f.r 1)) 17 (f.r 6)) 18 v3) 19 v5) 14 (f.r 6)) 15 v18) 6 v18) h4))
(aLoad true 6 (f.r 2) h fun v19 =>
aStore 6 (f.r 4) v19 h fun h20 =>
RetQ prog [.cell 4 42] n0 K .ret (RG.p (RG.p (RG.p (RG.p (RG.p f 10 (f.r 6)) 11 (f.r 5)) 12 v1) 13 v2) 29 v19) h20)) := sub_eq pok63 ct63 (by kernel_rfl)
theorem l63_1 (hJ : Closed prog main J) {S : Type} (μ : S → Nat) (I : S → RG → List AObj → Prop) (hI : ∀ s f h, I s f h → heapOk h → n0 ≤ h.length → W prog J 30 n0 63 (subC [1, 1, 1, 0, 1, 0, 0] (codeOf f63)) f h (thenK (Nx n0 μ I s) (contX pl63 prog J 30 n0 63 ct63 [1, 1, 1, 0, 1, 0] (codeOf f63) [] (RetQ prog [.cell 4 42] n0 K))))
  {s : S} {f : RG} (hi : Gets n0 I s f h) : Sem J 30 n0 63 (subC [1, 1, 1, 0, 1, 0] (codeOf f63)) f h (contX pl63 prog J 30 n0 63 ct63 [1, 1, 1, 0, 1, 0] (codeOf f63) [] (RetQ prog [.cell 4 42] n0 K)) :=
  loop_rule hJ mixed (b := subC [1, 1, 1, 0, 1, 0, 0] (codeOf f63)) (by kernel_rfl) μ I hI hi
theorem at64 : prog.funcs[64]? = some f64 := by kernel_rfl
theorem body64 : f64.body = some (codeOf f64) := by kernel_rfl
def pl64 : Plans := []
def ct64 : Cuts := .go
theorem pok64 : plansOk prog pl64 (codeOf f64) = true := by kernel_rfl
theorem e64 {a0 a1 : Value} : W prog J 27 h.length 64 (codeOf f64) (RG.mk (regs [a0, a1]) []) h (RetQ prog [.tmp 4] h.length K) =
(aBox a0 h fun v1 h2 =>
Sem J 27 h.length 64 (subC [1, 1, 0, 1, 0] (codeOf f64)) (RG.p (RG.p (RG.p (RG.p (RG.mk (regs [a0, a1]) []) 2 v1) 4 (Value.slice none 0 0)) 5 (Value.slice none 0 0)) 6 (vint 0)) h2 (contX pl64 prog J 27 h.length 64 ct64 [1, 1, 0, 1, 0] (codeOf f64) [] (RetQ prog [.tmp 4] h.length K))) := top_eq pok64 ct64 (by kernel_rfl)
theorem g64 (hJ : Closed prog main J) {a0 a1 : Value} (hs : heapOk h → W prog J 27 h.length 64 (codeOf f64) (RG.mk (regs [a0, a1]) []) h (RetQ prog [.tmp 4] h.length K)) : Good prog J 64 [a0, a1] h K :=
  good_of_W hJ mixed at64 body64 (by kernel_rfl) (Nat.le_of_ble_eq_true rfl) hs
theorem s64_1 {f : RG} {nx0 : RG → List AObj → Prop} : W prog J 27 n0 64 (subC [1, 1, 0, 1, 0, 0] (codeOf f64)) f h (thenK nx0 (contX pl64 prog J 27 n0 64 ct64 [1, 1, 0, 1, 0] (codeOf f64) [] (RetQ prog [.tmp 4] n0 K))) =
(aOff (f.r 2) 5 fun v1 =>
aLoad false 1 v1 h fun v2 =>
aLenS v2 fun v3 =>
aBin prog .lss 3 (f.r 6) v3 fun v4 =>
cnd v4
(aOff (f.r 2) 5 fun v5 =>
aLoad false 1 v5 h fun v6 =>
aIdx 4 v6 (f.r 6) fun v7 =>
aOff v7 1 fun v8 =>
aLoad false 1 v8 h fun v9 =>
Good prog J 93 [(f.r 1), v9] h fun v10 h11 =>
cnd v10
((((1 * 1 : Nat) ≤ 16777216 ∧ (1 : Nat) ≤ 16777216 ∧ List.length [(vint 0)] = 1) ∧ aFill (zrep [(vint 0)] 1) [(0, 1, (f.r 6))] fun c12 =>
aNewS 1 c12 h11 fun v13 h14 =>
((List.length [(vint 0)] = 1 ∧ 0 < (1 : Nat) ∧ 0 < (8 : Nat) ∧ (8 : Nat) ≤ 1024) ∧ aApp 1 (f.r 5) v13 h14 fun v15 h16 =>
aBin prog .add 3 (f.r 6) (vint 1) fun v17 =>
nx0 (RG.p (RG.p (RG.p (RG.p (RG.p (RG.p (RG.p (RG.p (RG.p (RG.p (RG.p (RG.p (RG.p (RG.p (RG.p (RG.p (RG.p (RG.p (RG.p (RG.p (RG.p f 7 (f.r 6)) 8 v1) 9 v2) 10 v3) 11 v4) 14 (f.r 1)) 15 v5) 16 v6) 17 (f.r 6)) 18 v7) 19 v8) 20 v9) 21 v10) 22 (f.r 5)) 23 (f.r 6)) 24 v13) 25 v15) 5 v15) 12 (f.r 6)) 13 v17) 6 v17) h16)))
(aBin prog .add 3 (f.r 6) (vint 1) fun v18 =>
nx0 (RG.p (RG.p (RG.p (RG.p (RG.p (RG.p (RG.p (RG.p (RG.p (RG.p (RG.p (RG.p (RG.p (RG.p (RG.p (RG.p f 7 (f.r 6)) 8 v1) 9 v2) 10 v3) 11 v4) 14 (f.r 1)) 15 v5) 16 v6) 17 (f.r 6)) 18 v7) 19 v8) 20 v9) 21 v10) 12 (f.r 6)) 13 v18) 6 v18) h11))
(retL n0 K f.ds [(f.r 5)] h)) := sub_eq pok64 ct64 (by kernel_rfl)
theorem l64_1 (hJ : Closed prog main J) {S : Type} (μ : S → Nat) (I : S → RG → List AObj → Prop) (hI : ∀ s f h, I s f h → heapOk h → n0 ≤ h.length → W prog J 27 n0 64 (subC [1, 1, 0, 1, 0, 0] (codeOf f64)) f h (thenK (Nx n0 μ I s) (contX pl64 prog J 27 n0 64 ct64 [1, 1, 0, 1, 0] (codeOf f64) [] (RetQ prog [.tmp 4] n0 K))))
  {s : S} {f : RG} (hi : Gets n0 I s f h) : Sem J 27 n0 64 (subC [1, 1, 0, 1, 0] (codeOf f64)) f h (contX pl64 prog J 27 n0 64 ct64 [1, 1, 0, 1, 0] (codeOf f64) [] (RetQ prog [.tmp 4] n0 K)) :=
  loop_rule hJ mixed (b := subC [1, 1, 0, 1, 0, 0] (codeOf f64)) (by kernel_rfl) μ I hI hi
theorem at89 : prog.funcs[89]? = some f89 := by kernel_rfl
theorem body89 : f89.body = some (codeOf f89) := by kernel_rfl
def pl89 : Plans := []
def ct89 : Cuts := .go
theorem pok89 : plansOk prog pl89 (codeOf f89) = true := by kernel_rfl
theorem e89 {a0 a1 a2 : Value} : W prog J 43 h.length 89 (codeOf f89) (RG.mk (regs [a0, a1, a2]) []) h (RetQ prog [.tmp 6] h.length K) =
(aBin prog .eql 3 a2 (vint 0) fun v1 =>
cnd v1
((((1 * 1 : Nat) ≤ 16777216 ∧ (1 : Nat) ≤ 16777216 ∧ List.length [(Value.slice none 0 0)] = 1) ∧ aFill (zrep [(Value.slice none 0 0)] 1) [(0, 1, (Value.slice none 0 0))] fun c2 =>
aNewS 1 c2 h fun v3 h4 =>
retL h.length K [] [v3] h4))
(Sem J 43 h.length 89 (subC [1, 1, 1, 0, 1, 0] (codeOf f89)) (RG.p (RG.p (RG.p (RG.p (RG.p (RG.p (RG.mk (regs [a0, a1, a2]) []) 6 (Value.slice none 0 0)) 11 a2) 12 v1) 7 (Value.slice none 0 0)) 14 a0) 8 a0) h (contX pl89 prog J 43 h.length 89 ct89 [1, 1, 1, 0, 1, 0] (codeOf f89) [] (RetQ prog [.tmp 6] h.length K)))) := top_eq pok89 ct89 (by kernel_rfl)
theorem g89 (hJ : Closed prog main J) {a0 a1 a2 : Value} (hs : heapOk h → W prog J 43 h.length 89 (codeOf f89) (RG.mk (regs [a0, a1, a2]) []) h (RetQ prog [.tmp 6] h.length K)) : Good prog J 89 [a0, a1, a2] h K :=
  good_of_W hJ mixed at89 body89 (by kernel_rfl) (Nat.le_of_ble_eq_true rfl) hs
theorem s89_1 {f : RG} {nx0 : RG → List AObj → Prop} : W prog J 43 n0 89 (subC [1, 1, 1, 0, 1, 0, 0] (codeOf f89)) f h (thenK nx0 (contX pl89 prog J 43 n0 89 ct89 [1, 1, 1, 0, 1, 0] (codeOf f89) [] (RetQ prog [.tmp 6] n0 K))) =
(aBin prog .lss 3 (f.r 8) (f.r 1) fun v1 =>
cnd v1
(aBin prog .add 3 (f.r 8) (vint 1) fun v2 =>
aBin prog .sub 3 (f.r 2) (vint 1) fun v3 =>
Good prog J 89 [v2, (f.r 1), v3] h fun v4 h5 =>
Sem J 43 n0 89 (subC [1, 1, 1, 0, 1, 0, 0, 1, 0, 0, 1, 1, 0] (codeOf f89)) (RG.p (RG.p (RG.p (RG.p (RG.p (RG.p (RG.p (RG.p (RG.p (RG.p (RG.p f 15 (f.r 8)) 16 (f.r 1)) 17 v1) 20 (f.r 8)) 21 v2) 22 (f.r 1)) 23 (f.r 2)) 24 v3) 25 v4) 9 v4) 10 (vint 0)) h5 (contX pl89 prog J 43 n0 89 ct89 [1, 1, 1, 0, 1, 0, 0, 1, 0, 0, 1, 1, 0] (codeOf f89) [nx0] (RetQ prog [.tmp 6] n0 K)))
(retL n0 K f.ds [(f.r 7)] h)) := sub_eq pok89 ct89 (by kernel_rfl)
theorem l89_1 (hJ : Closed prog main J) {S : Type} (μ : S → Nat) (I : S → RG → List AObj → Prop) (hI : ∀ s f h, I s f h → heapOk h → n0 ≤ h.length → W prog J 43 n0 89 (subC [1, 1, 1, 0, 1, 0, 0] (codeOf f89)) f h (thenK (Nx n0 μ I s) (contX pl89 prog J 43 n0 89 ct89 [1, 1, 1, 0, 1, 0] (codeOf f89) [] (RetQ prog [.tmp 6] n0 K))))
  {s : S} {f : RG} (hi : Gets n0 I s f h) : Sem J 43 n0 89 (subC [1, 1, 1, 0, 1, 0] (codeOf f89)) f h (contX pl89 prog J 43 n0 89 ct89 [1, 1, 1, 0, 1, 0] (codeOf f89) [] (RetQ prog [.tmp 6] n0 K)) :=
  loop_rule hJ mixed (b := subC [1, 1, 1, 0, 1, 0, 0] (codeOf f89)) (by kernel_rfl) μ I hI hi
theorem s89_2 {f : RG} {nx0 nx1 : RG → List AObj → Prop} : W prog J 43 n0 89 (subC [1, 1, 1, 0, 1, 0, 0, 1, 0, 0, 1, 1, 0, 0] (codeOf f89)) f h (thenK nx1 (contX pl89 prog J 43 n0 89 ct89 [1, 1, 1, 0, 1, 0, 0, 1, 0, 0, 1, 1, 0] (codeOf f89) [nx0] (RetQ prog [.tmp 6] n0 K))) =
(aLenS (f.r 9) fun v1 =>
aBin prog .lss 3 (f.r 10) v1 fun v2 =>
cnd v2
((((1 * 1 : Nat) ≤ 16777216 ∧ (1 : Nat) ≤ 16777216 ∧ List.length [(vint 0)] = 1) ∧ aFill (zrep [(vint 0)] 1) [(0, 1, (f.r 8))] fun c3 =>
aNewS 1 c3 h fun v4 h5 =>
aIdx 1 (f.r 9) (f.r 10) fun v6 =>
aLoad false 1 v6 h5 fun v7 =>
((List.length [(vint 0)] = 1 ∧ 0 < (1 : Nat) ∧ 0 < (8 : Nat) ∧ (8 : Nat) ≤ 1024) ∧ aApp 1 v4 v7 h5 fun v8 h9 =>
(((1 * 1 : Nat) ≤ 16777216 ∧ (1 : Nat) ≤ 16777216 ∧ List.length [(Value.slice none 0 0)] = 1) ∧ aFill (zrep [(Value.slice none 0 0)] 1) [(0, 1, v8)] fun c10 =>
aNewS 1 c10 h9 fun v11 h12 =>
((List.length [(Value.slice none 0 0)] = 1 ∧ 0 < (1 : Nat) ∧ 0 < (24 : Nat) ∧ (24 : Nat) ≤ 1024) ∧ aApp 1 (f.r 7) v11 h12 fun v13 h14 =>
aBin prog .add 3 (f.r 10) (vint 1) fun v15 =>
nx1 (RG.p (RG.p (RG.p (RG.p (RG.p (RG.p (RG.p (RG.p (RG.p (RG.p (RG.p (RG.p (RG.p (RG.p (RG.p (RG.p (RG.p (RG.p f 26 (f.r 10)) 27 (f.r 9)) 28 v1) 29 v2) 32 (f.r 7)) 33 (f.r 8)) 34 v4) 35 (f.r 9)) 36 (f.r 10)) 37 v6) 38 v7) 39 v8) 40 v11) 41 v13) 7 v13) 30 (f.r 10)) 31 v15) 10 v15) h14)))))
(aBin prog .add 3 (f.r 8) (vint 1) fun v16 =>
nx0 (RG.p (RG.p (RG.p (RG.p (RG.p (RG.p (RG.p f 26 (f.r 10)) 27 (f.r 9)) 28 v1) 29 v2) 18 (f.r 8)) 19 v16) 8 v16) h)) := sub_eq pok89 ct89 (by kernel_rfl)
theorem l89_2 (hJ : Closed prog main J) {nx0 : RG → List AObj → Prop} {S : Type} (μ : S → Nat) (I : S → RG → List AObj → Prop) (hI : ∀ s f h, I s f h → heapOk h → n0 ≤ h.length → W prog J 43 n0 89 (subC [1, 1, 1, 0, 1, 0, 0, 1, 0, 0, 1, 1, 0, 0] (codeOf f89)) f h (thenK (Nx n0 μ I s) (contX pl89 prog J 43 n0 89 ct89 [1, 1, 1, 0, 1, 0, 0, 1, 0, 0, 1, 1, 0] (codeOf f89) [nx0] (RetQ prog [.tmp 6] n0 K))))
  {s : S} {f : RG} (hi : Gets n0 I s f h) : Sem J 43 n0 89 (subC [1, 1, 1, 0, 1, 0, 0, 1, 0, 0, 1, 1, 0] (codeOf f89)) f h (contX pl89 prog J 43 n0 89 ct89 [1, 1, 1, 0, 1, 0, 0, 1, 0, 0, 1, 1, 0] (codeOf f89) [nx0] (RetQ prog [.tmp 6] n0 K)) :=
  loop_rule hJ mixed (b := subC [1, 1, 1, 0, 1, 0, 0, 1, 0, 0, 1, 1, 0, 0] (codeOf f89)) (by kernel_rfl) μ I hI hi
end
end Go.Proofs.Ytdgpacdknpahnaa
namespace Go.Proofs.Ytdgpacdknpahnaa
open Go.Conc Go.Proofs.Try
set_option maxRecDepth 100000
def outTo (l : List Int) (k : Nat) : List Int := ((List.range k).filter fun (i : Nat) => !l.contains (i : Int)).map Int.ofNat
theorem outTo_succ (l : List Int) (k : Nat) : outTo l (k + 1) = outTo l k ++ (bif l.contains (k : Int) then [] else [(k : Int)]) := by
  unfold outTo
  rw [List.range_succ, List.filter_append, List.map_append]
  congr 1
  rw [List.filter_cons, List.filter_nil]
  cases l.contains (k : Int) <;> rfl
theorem outTo_le (l : List Int) (k : Nat) : (outTo l k).length ≤ k := by
  unfold outTo
  rw [List.length_map]
  exact Nat.le_trans (List.length_filter_le _ _) (by simp)
theorem outTo_mem {l : List Int} {k : Nat} {x : Int} (h : x ∈ outTo l k) : 0 ≤ x ∧ x < k := by
  unfold outTo at h
  obtain ⟨i, hi, rfl⟩ := List.mem_map.1 h
  have := List.mem_range.1 (List.mem_filter.1 hi).1
  show 0 ≤ (i : Int) ∧ (i : Int) < k
  omega
def byTo (t : Tal) (l : List Int) (k : Nat) : List Int := ((List.range k).filter fun (i : Nat) => l.contains (cntAt t (i : Int)).man).map Int.ofNat
theorem byTo_succ (t : Tal) (l : List Int) (k : Nat) : byTo t l (k + 1) = byTo t l k ++ (bif l.contains (cntAt t (k : Int)).man then [(k : Int)] else []) := by
  unfold byTo
  rw [List.range_succ, List.filter_append, List.map_append]
  congr 1
  rw [List.filter_cons, List.filter_nil]
  cases l.contains (cntAt t (k : Int)).man <;> rfl
theorem byTo_le (t : Tal) (l : List Int) (k : Nat) : (byTo t l k).length ≤ k := by
  unfold byTo
  rw [List.length_map]
  exact Nat.le_trans (List.length_filter_le _ _) (by simp)
section
variable {main : Bool} {J : JT} {h H : List AObj} {K : Value → List AObj → Prop} {KV : Value → Prop} {HL : List AObj → Prop} {n0 : Nat}
theorem good89 (hJ : Closed prog main J) {n : Nat} (hn : n ≤ 7) : ∀ (m : Nat) {a : Nat} {H : List AObj} {K : Value → List AObj → Prop}, m ≤ 7 → a ≤ 100 →
    (∀ H' v o, SameX [] H H' → OwnL H.length H' v (picksR n m a) o → v ≠ unk → K v H') → Good prog J 89 [vint (a : Nat), vint (n : Nat), vint (m : Nat)] H K
  | 0, a, H, K, _, _, hK => by
    refine g89 hJ fun ok => ?_
    rw [e89]
    refine eqlI (cndI (fun _ => ?_) fun hx => absurd rfl hx)
    refine ⟨by decide, fill_one (l := [.slice none 0 0]) rfl rfl rfl (by decide) (fillI (qNew fun H1 p1 e1 S1 c1 l1 => retL_same (by simp [unk]) ?_))⟩
    have L := one_nil (lo := H.length) (p := p1) c1 (by omega)
    exact hK H1 _ _ S1 L L.nunk
  | m + 1, a, H, K, hm, ha, hK => by
    refine g89 hJ fun ok => ?_
    rw [e89]
    refine eqlI (cndI (fun hx => absurd hx (by omega)) fun _ => ?_)
    let hd : Nat → Int := fun k => ((a + k : Nat) : Int)
    let g : Nat → List (List Int) := fun k => picksR n m (a + k + 1)
    have gle : ∀ j, (g j).length ≤ 100 := fun j => picks_le hn (by omega) _
    refine l89_1 hJ (fun i : Nat => n - a - i) (fun i Fr H' => ∃ v o, SameX [] H H' ∧ i ≤ n - a ∧ OwnL H.length H' v (partG hd g i 0) o ∧ Fr.ds = [] ∧ Fr.r 1 = vint (n : Nat) ∧ Fr.r 2 = vint ((m + 1 : Nat) : Int) ∧ Fr.r 7 = v ∧ Fr.r 8 = vint ((a + i : Nat) : Int)) ?_ (s := 0)
      (.inl ⟨.slice none 0 0, none, SameX.refl, by omega, by rw [partG_zero]; exact OwnL.nil, rfl, rfl, rfl, rfl, rfl⟩)
    rintro i Fr Hc ⟨v, o, Sc, hi, Lc, ds, r1, r2, r7, r8⟩ okc hnc
    rw [s89_1, r1, r2, r7, r8, ds]
    refine lssI (cndI (fun hlt => ?_) fun hge => ?_)
    rotate_left
    · have : i = n - a := by omega
      subst this
      refine retL_same (by simpa using Lc.nunk) (hK Hc v o Sc ?_ Lc.nunk)
      rw [partG_zero] at Lc
      exact Lc
    have hSc := Sc.1
    refine addI (by omega) (subI (by omega) ?_)
    have e1 : ((a + i : Nat) : Int) + 1 = ((a + i + 1 : Nat) : Int) := by omega
    have e2 : ((m + 1 : Nat) : Int) - 1 = (m : Nat) := by omega
    rw [e1, e2]
    refine good89 hJ hn m (by omega) (by omega) fun H3 av ao S3 A3 _ => ?_
    have hS3 := S3.1
    have hlc := Lc.lt
    refine l89_2 hJ (fun k : Nat => (g i).length - k) (fun k Fr H' => ∃ v o, SameX [] H H' ∧ k ≤ (g i).length ∧ OwnL H.length H' v (partG hd g i k) o ∧ SameX (List.range Hc.length) H3 H' ∧ (∀ j, o = some j → j < Hc.length ∨ H3.length ≤ j) ∧ Fr.ds = [] ∧ Fr.r 1 = vint (n : Nat) ∧ Fr.r 2 = vint ((m + 1 : Nat) : Int) ∧ Fr.r 7 = v ∧ Fr.r 8 = vint ((a + i : Nat) : Int) ∧ Fr.r 9 = av ∧ Fr.r 10 = vint (k : Nat)) ?_ (s := 0)
      (.inl ⟨v, o, Sc.trans S3, by omega, Lc.keep S3, SameX.refl, fun j hj => by have := hlc j hj; omega, ds, r1, r2, r7, r8, rfl, rfl⟩)
    rintro k Fr Hd ⟨v, o, Sd, hk, Ld, Xd, hod, ds, r1, r2, r7, r8, r9, r10⟩ okd hnd
    have Ad := A3.keepX Xd (fun x hx => List.mem_range.1 hx)
    obtain ⟨ac, sA⟩ := Ad.sli
    have hgl : (g i).length = (picksR n m (a + i + 1)).length := rfl
    have hg100 := gle i
    rw [s89_2, r7, r8, r9, r10]
    refine lenI sA (lssI (cndI (fun hlt3 => ?_) fun hge3 => ?_))
    rotate_left
    · have hke : k = (g i).length := by omega
      subst hke
      refine addI (by omega) ⟨i + 1, by dsimp only; omega, .inl ⟨v, o, Sd, by omega, by rw [← partG_all]; exact Ld, ds, r1, r2, r7, by show vint _ = vint _; congr 1⟩⟩
    have hkl : k < (picksR n m (a + i + 1)).length := by omega
    obtain ⟨w, hw⟩ : ∃ w, (picksR n m (a + i + 1))[k]? = some w := ⟨_, List.getElem?_eq_getElem hkl⟩
    have hwl := (picksR_mem (List.mem_of_getElem? hw)).1
    have hSd := Sd.1
    have hXd := Xd.1
    have hld := Ld.lt
    refine ⟨by decide, fill_one (l := [vint ((a + i : Nat) : Int)]) rfl rfl rfl (by decide) (fillI (qNew fun He pe ee Se ce le => ?_))⟩
    have ce : He[pe]? = some (.cells [vint ((a + i : Nat) : Int)] true 0) := ce
    refine (Ad.keep Se).get hw fun q lv b Ob hb => ⟨by decide, ?_⟩
    refine app_cons ce (ownX_sli Ob) (by omega) fun Hf wv2 bf Sf Of hbf => ?_
    have hSe := Se.1
    have Tf : SameX [] Hd Hf := Se.thru Sf (by simp; omega)
    have hbfl := ownX_lt Of bf rfl
    have hbf2 : Hd.length ≤ bf := by omega
    obtain ⟨w1, w2, w3⟩ := ownX_val Of
    refine ⟨by decide, fill_one (l := [wv2]) (by rw [w1]) rfl (by simp [w2]) (by decide) (fillI (qNew fun Hg pg eg Sg cg lg => ⟨by decide, ?_⟩))⟩
    have cg : Hg[pg]? = some (.cells [wv2] true 0) := cg
    have Tg := Tf.trans Sg
    have hpl := partG_le (hd := hd) (g := g) (i := i) (k := k) gle
    have hmul : (i + 1) * 100 ≤ 800 := by omega
    refine ((Ld.keep Tg).more (by have := Tg.1; omega) (by omega) (ownX_keep Of Sg (by simp)) (by omega) (fun e => by have := hld bf e.symm; omega) (ownX_sli (ownX_new (s := 1) (n := 1) (l := [wv2]) cg rfl (by simp [kn]; exact w3))) fun v' Hh o' Sh Lh ho' _ => ?_)
    have Th : SameX o.toList Hd Hh := Tg.weak0.trans Sh
    have hTg := Tg.1
    refine addI (by omega) ⟨k + 1, by dsimp only; omega, .inl ⟨v', some o', Sd.thru Th (fun y hy => .inr (hld y (Option.mem_toList.1 hy)).1), by omega, ?_, ?_, fun j hj => by cases hj; omega, ds, r1, r2, rfl, r8, r9, by show vint _ = vint _; congr 1⟩⟩
    · rw [partG_succ (hd := hd) (g := g) (i := i) (w := w) hw]
      exact Lh
    · refine ⟨by have := Th.1; omega, fun x hx1 hx2 => ?_⟩
      rw [Th.2 x (by omega) (fun hm => ?_), Xd.2 x hx1 hx2]
      have := hod x (Option.mem_toList.1 hm)
      have : ¬ x < Hc.length := fun y => hx2 (List.mem_range.2 y)
      omega
theorem good93 (hJ : Closed prog main J) {lv : Value} {l : List Int} {x : Int} (hl : Sli H lv 1 l.length (l.map vint)) (hll : l.length ≤ 1000) (hK : K (.bool (l.contains x)) H) : Good prog J 93 [lv, vint x] H K := by
  refine g93 hJ fun ok => ?_
  rw [e93]
  refine l93_1 hJ (fun k : Nat => l.length - k) (fun k F H' => H' = H ∧ k ≤ l.length ∧ (∀ y ∈ l.take k, y ≠ x) ∧ F.ds = [] ∧ F.r 0 = lv ∧ F.r 1 = vint x ∧ F.r 5 = vint (k : Nat)) ?_ (s := 0)
    (.inl ⟨rfl, by omega, by simp, rfl, rfl, rfl, rfl⟩)
  rintro k F H ⟨rfl, hk, hno, ds, r0, r1, r5⟩ okc hnc
  rw [s93_1, r0, r1, r5, ds]
  refine lenI hl (lssI (cndI (fun hlt => ?_) fun hge => ?_))
  · have hkl : k < l.length := by omega
    have hx := List.getElem?_eq_getElem hkl
    refine idx_load hl ⟨by omega, by omega⟩ (x := vint l[k]) (by rw [Int.toNat_natCast, List.getElem?_map, hx]; rfl) fun q => eqlI (cndI (fun he => ?_) fun hne => ?_)
    · have e : l.contains x = true := by
        rw [List.contains_iff_mem]
        exact he ▸ List.getElem_mem hkl
      rw [e] at hK
      exact retL_same (by simp [unk]) hK
    · refine addI (by omega) ⟨k + 1, by dsimp only; omega, .inl ⟨rfl, by omega, fun y hy => ?_, ds, r0, r1, by show vint _ = vint _; congr 1⟩⟩
      rw [List.take_add_one, hx] at hy
      rcases List.mem_append.1 hy with hy | hy
      · exact hno y hy
      · have hy : y = l[k] := by simpa using hy
        rw [hy]
        exact hne
  · have hke : k = l.length := by omega
    rw [hke, List.take_length] at hno
    have e : l.contains x = false := by
      cases hc : l.contains x with
      | false => rfl
      | true =>
        rw [List.contains_iff_mem] at hc
        exact absurd rfl (hno x hc)
    rw [e] at hK
    exact retL_same (by simp [unk]) hK
theorem good64 (hJ : Closed prog main J) {v cv nv lv : Value} {t : Tal} {l : List Int} (ht : TalAt H v t cv nv) (hl : Sli H lv 1 l.length (l.map vint)) (hll : l.length ≤ 1000) (hcl : t.counts.length ≤ 100)
    (hK : ∀ H' w o, SameX [] H H' → OwnX H' 1 ((byTo t l t.counts.length).map vint) (byTo t l t.counts.length).length w o → K w H') : Good prog J 64 [v, lv] H K := by
  refine g64 hJ fun ok => ?_
  rw [e64, ht.val]
  refine qBox (tal_one ht) fun H1 p1 e1 S1 c1 l1 => ?_
  have t1 : TalAt H1 (.agg ⟨talCells t cv nv⟩) t cv nv := ⟨rfl, S1.sli ht.ch (by simp), S1.sli ht.co (by simp)⟩
  have kn : kn1 nv = true := (sli_one t1.co).2.2
  refine l64_1 hJ (fun k : Nat => t.counts.length - k) (fun k F H' => ∃ ov oo, SameX [] H1 H' ∧ k ≤ t.counts.length ∧ OwnX H' 1 ((byTo t l k).map vint) (byTo t l k).length ov oo ∧ (∀ j, oo = some j → H1.length ≤ j) ∧ F.ds = [] ∧ F.r 1 = lv ∧ F.r 2 = ptr p1 0 ∧ F.r 5 = ov ∧ F.r 6 = vint (k : Nat)) ?_ (s := 0)
    (.inl ⟨_, none, SameX.refl, by omega, ownX_nil, by simp, rfl, rfl, rfl, rfl, rfl⟩)
  rintro k F H' ⟨ov, oo, S, hk, O, ho, ds, r1, r2, r5, r6⟩ okc hnc
  have c1' := S.get c1 (by simp)
  have t' := talAt_same t1 S (by simp)
  have sl := (S1.trans S).sli hl (by simp)
  rw [s64_1, r1, r2, r5, r6, ds]
  refine offI (ldI (v := nv) c1' rfl kn (lenI t'.co (lssI (cndI (fun hlt => ?_) fun hge => ?_))))
  · have hkl : k < t.counts.length := by omega
    obtain ⟨b2, o2, cs2, w2, z2, hx2, hb2, hle2, hp2, hk2⟩ := sliE_elem cnt_len (by omega) t'.co hkl
    have hc : (cntAt t (k : Int)).man = t.counts[k].man := by
      unfold cntAt
      rw [Int.toNat_natCast, List.getD_eq_getElem?_getD, List.getElem?_eq_getElem hkl]
      rfl
    have hsu := byTo_succ t l k
    have hle := byTo_le t l k
    refine offI (ldI (v := nv) c1' rfl kn (hx2 _ (offI (ldI hb2 (part_get (j := 1) hp2 rfl) rfl (good93 hJ sl hll ?_)))))
    cases hh : l.contains t.counts[k].man with
    | true =>
      rw [hc, hh, cond_true] at hsu
      refine cnd_true.2 ⟨by decide, fill1 rfl rfl (by decide) (fillI (qNew fun H2 p2 e2 S2 c2 l2 => ⟨by decide, ?_⟩))⟩
      refine ownX_more (ownX_keep O S2 (by simp)) (by omega) (by omega) (ownX_sli (ownX_new (n := 1) (l := [vint (k : Nat)]) c2 rfl rfl)) fun v' H3 p3 e3 O3 S3 => addI (by omega) ⟨k + 1, by dsimp only; omega, .inl ⟨v', some p3, (S.trans S2).thru S3 (fun y hy => .inr (ho y (Option.mem_toList.1 hy))), by omega, ?_, fun j hj => ?_, ds, r1, r2, rfl, by show vint _ = vint _; congr 1⟩⟩
      · rw [hsu, List.map_append, List.length_append]
        exact O3
      · cases hj
        have := S.1
        have := S2.1
        omega
    | false =>
      rw [hc, hh, cond_false, List.append_nil] at hsu
      exact cnd_false.2 (addI (by omega) ⟨k + 1, by dsimp only; omega, .inl ⟨ov, oo, S, by omega, by rw [hsu]; exact O, ho, ds, r1, r2, r5, by show vint _ = vint _; congr 1⟩⟩)
  · have hke : k = t.counts.length := by omega
    subst hke
    refine retL_same (by
      intro y hy
      rw [List.mem_singleton.1 hy]
      have := (ownX_val O).2.2
      intro e
      rw [e] at this
      cases this) (hK H' ov oo (S1.trans S) O)
theorem good63 (hJ : Closed prog main J) {v cv nv lv : Value} {t : Tal} {l : List Int} (ht : TalAt H v t cv nv) (hl : Sli H lv 1 l.length (l.map vint)) (hll : l.length ≤ 1000) (hcl : t.counts.length ≤ 100)
    (hK : ∀ H' nv', SameX [] H H' → TalAt H' (.agg ⟨talCells (withT t (outTo l t.counts.length)) cv nv'⟩) (withT t (outTo l t.counts.length)) cv nv' → K (.agg ⟨talCells (withT t (outTo l t.counts.length)) cv nv'⟩) H') : Good prog J 63 [v, lv] H K := by
  refine g63 hJ fun ok => ?_
  rw [e63, ht.val]
  have kc : kn1 cv = true ∧ kn1 nv = true := ⟨(sli_one ht.ch).2.2, (sli_one ht.co).2.2⟩
  refine qBox (tal_one ht) fun H1 p1 e1 S1 b1 l1 => qAl fun H2 p2 e2 S2 b2 l2 => ?_
  have T2 := S1.trans S2
  have b12 := S2.get b1 (by simp)
  refine offI (ldI (v := nv) b12 rfl kc.2 (offI (qSt b12 (by rw [cs_val]; omega) rfl rfl fun H3 S3 c3 l3 => ?_)))
  have c3 : H3[p1]? = some (.cells (talCells (withT t []) cv (.slice none 0 0)) true 0) := c3
  have T3 : SameX [] H H3 := T2.thru S3 (by simp; omega)
  have c32 := S3.get b2 (by simp; omega)
  have hS1 := S1.1
  have hS2 := S2.1
  have lp1 := lt_of_get c3
  have lp2 := lt_of_get c32
  refine l63_1 hJ (fun k : Nat => t.counts.length - k) (fun k F H' => ∃ nv' o', SameX [p1] H3 H' ∧ k ≤ t.counts.length ∧ OwnX H' 4 (((outTo l k).map (cntAt t)).flatMap Cnt.cells) (outTo l k).length nv' o' ∧ (∀ j, o' = some j → H3.length ≤ j) ∧ H'[p1]? = some (.cells (talCells (withT t (outTo l k)) cv nv') true 0) ∧ F.ds = [] ∧ F.r 1 = lv ∧ F.r 2 = ptr p1 0 ∧ F.r 4 = ptr p2 0 ∧ F.r 5 = nv ∧ F.r 6 = vint (k : Nat)) ?_ (s := 0)
    (.inl ⟨_, none, SameX.refl, by omega, ⟨rfl, rfl, .inl ⟨rfl, rfl, rfl⟩⟩, by simp, c3, rfl, rfl, rfl, rfl, rfl, rfl⟩)
  rintro k F H' ⟨nv', o', S, hk, O, ho, c', ds, r1, r2, r4, r5, r6⟩ okc hnc
  have T' : SameX [] H H' := T3.thru S (by simp; omega)
  have sl := T'.sli hl (by simp)
  have sn := T'.sli ht.co (by simp)
  have kO := (ownX_val O).2.2
  have hle := outTo_le l k
  have hsu := outTo_succ l k
  rw [s63_1, r1, r2, r4, r5, r6]
  refine lenI sn (lssI (cndI (fun hlt => ?_) fun hge => ?_))
  · have hkl : k < t.counts.length := by omega
    refine good93 hJ sl hll (notI ?_)
    cases hh : l.contains (k : Int) with
    | true =>
      rw [hh, cond_true, List.append_nil] at hsu
      exact cnd_false.2 (addI (by omega) ⟨k + 1, by dsimp only; omega, .inl ⟨nv', o', S, by omega, by rw [hsu]; exact O, ho, by rw [hsu]; exact c', ds, r1, r2, r4, r5, by show vint _ = vint _; congr 1⟩⟩)
    | false =>
    rw [hh, cond_false] at hsu
    refine cnd_true.2 ?_
    obtain ⟨bn, on, cn, wn, zn, hidx, hbn0, hol, hft, hkn⟩ := sliE_elem (enc := Cnt.cells) (s := 4) (fun _ => rfl) (by omega) ht.co hkl
    have hbnl := lt_of_get hbn0
    have hbn := T'.get hbn0 (by simp)
    have hT := T3.1
    have hSS := S.1
    have sb : ∀ {Hn}, SameX o'.toList H' Hn → SameB (some [p1, bn]) H' Hn := fun S' x hx => S'.2 x (by simp at hx; rcases hx with rfl | rfl <;> omega) (fun hm => by
      have := ho x (Option.mem_toList.1 hm)
      simp at hx
      rcases hx with rfl | rfl <;> omega)
    refine ⟨[p1, bn], offI (ldI (v := nv') c' rfl kO ⟨by simp [RdOk, ptr, ptrBlk], ?_⟩)⟩
    refine hidx _ (load_part (c := t.counts[k].cells) hbn hol hft hkn ⟨by simp [RdOk, ptr, ptrBlk], ?_⟩)
    refine ⟨by decide, fill_one (l := t.counts[k].cells) rfl rfl rfl (by decide) (fillI (qNew fun He pe ee Se ce le => ⟨sb Se.weak0, by decide, ?_⟩))⟩
    have ce : He[pe]? = some (.cells t.counts[k].cells true 0) := ce
    have O1 := ownX_keep O Se (by simp)
    refine ownX_more O1 (by omega) (by omega) (ownX_sli (ownX_new (s := 4) (n := 1) (l := t.counts[k].cells) ce rfl rfl)) fun nv2 Hf pf ef Of Sf => ?_
    have Tf : SameX o'.toList H' Hf := Se.weak0.trans Sf
    have cf := Tf.get c' (fun hm => by have := ho p1 (Option.mem_toList.1 hm); omega)
    have hTf := Tf.1
    have hSe := Se.1
    refine ⟨sb Tf, offI (qSt cf (by rw [cs_val]; omega) (ownX_val Of).1 (ownX_val Of).2.1 fun Hg Sg cg lg => addI (by omega) ?_)⟩
    have eC : (outTo l (k + 1)).map (cntAt t) = (outTo l k).map (cntAt t) ++ [t.counts[k]] := by
      rw [hsu, List.map_append]
      congr 1
      show [cntAt t (k : Int)] = _
      unfold cntAt
      rw [Int.toNat_natCast, List.getD_eq_getElem?_getD, List.getElem?_eq_getElem hkl]
      rfl
    have cg : Hg[p1]? = some (.cells (talCells (withT t (outTo l (k + 1))) cv nv2) true 0) := cg
    refine ⟨k + 1, by dsimp only; omega, .inl ⟨nv2, some pf, ?_, by omega, ?_, fun j hj => by cases hj; omega, cg, ds, r1, r2, r4, r5, by show vint _ = vint _; congr 1⟩⟩
    · exact (S.thru Tf (fun y hy => .inr (ho y (Option.mem_toList.1 hy)))).thru Sg (by simp)
    · rw [eC, List.flatMap_append]
      have e1 : (outTo l (k + 1)).length = (outTo l k).length + 1 := by rw [hsu]; simp
      rw [e1]
      refine ownX_keep ?_ Sg (fun i hi => by cases hi; simp; omega)
      simpa using Of
  · have hke : k = t.counts.length := by omega
    subst hke
    have t' : TalAt H' (.agg ⟨talCells (withT t (outTo l t.counts.length)) cv nv'⟩) (withT t (outTo l t.counts.length)) cv nv' := ⟨rfl, T'.sli ht.ch (by simp), by
      have := ownX_sli O
      unfold SliE
      show Sli H' nv' 4 ((outTo l t.counts.length).map (cntAt t)).length _
      rw [List.length_map]
      exact this⟩
    refine load_part (c := talCells (withT t (outTo l t.counts.length)) cv nv') c' (by rw [cs_val]; omega) rfl (talAt_kc t') ?_
    refine qStA (c := talCells (withT t (outTo l t.counts.length)) cv nv') (S.get c32 (by simp; omega)) rfl rfl (tal_one t') fun Hg Sg cg lg => ?_
    refine retQ_same ds (resW_cell (gg := true) (s := 6) (by kernel_rfl) ?_)
    show aLoad true 6 (F.r 4) _ _
    rw [r4]
    have hSS := S.1
    have O2 := ownX_keep O Sg (fun i hi => by have := ho i hi; simp; omega)
    have Tg : SameX [] H Hg := T'.thru Sg (by simp; omega)
    have tg : TalAt Hg (.agg ⟨talCells (withT t (outTo l t.counts.length)) cv nv'⟩) (withT t (outTo l t.counts.length)) cv nv' := ⟨rfl, Tg.sli ht.ch (by simp), by
      have := ownX_sli O2
      unfold SliE
      show Sli Hg nv' 4 ((outTo l t.counts.length).map (cntAt t)).length _
      rw [List.length_map]
      exact this⟩
    exact load_part (c := talCells (withT t (outTo l t.counts.length)) cv nv') cg (by rw [cs_val]; omega) rfl (talAt_kc t') (resW_nil (hK Hg nv' Tg tg))
end
def Bits (u : Int) (p : Nat → Prop) : Prop := ∃ n : Nat, u = (n : Int) ∧ n < 2 ^ 64 ∧ ∀ i, i < 64 → (n.testBit i = true ↔ p i)
theorem wrapU_nat {n : Nat} (h : n < 2 ^ 64) : IntKind.u64.wrap (n : Int) = (n : Int) := by
  have h2 : n < 18446744073709551616 := h
  exact wrapU_id (by omega) (by omega)
theorem ofInt_nat {n : Nat} (h : n < 2 ^ 64) : (BitVec.ofInt 64 (n : Int)).toNat = n := by
  rw [BitVec.ofInt_natCast, BitVec.toNat_ofNat, Nat.mod_eq_of_lt h]
theorem or_nat {a b : Nat} (ha : a < 2 ^ 64) (hb : b < 2 ^ 64) : orU (a : Int) (b : Int) = ((a ||| b : Nat) : Int) := by
  unfold orU
  rw [BitVec.toNat_or, ofInt_nat ha, ofInt_nat hb]
  exact wrapU_nat (Nat.or_lt_two_pow ha hb)
theorem sh_nat {k : Nat} (hk : k < 64) : shU (k : Int) = ((2 ^ k : Nat) : Int) := by
  unfold shU
  rw [Int.toNat_natCast, Nat.min_eq_left (by omega), Int.one_mul]
  have : ((2 : Int) ^ k) = ((2 ^ k : Nat) : Int) := by simp
  rw [this]
  exact wrapU_nat (Nat.pow_lt_pow_right (by omega) hk)
theorem keep_nat {n i : Nat} (hi : i < 64) (hn : n < 2 ^ 64) : keepB (n : Int) i = !(n.testBit i) := by
  unfold keepB
  have e1 : ((n : Int).fdiv (2 ^ min i 64)) = ((n / 2 ^ i : Nat) : Int) := by
    rw [Nat.min_eq_left (by omega)]
    have : ((2 : Int) ^ i) = ((2 ^ i : Nat) : Int) := by simp
    rw [this, Int.fdiv_eq_ediv_of_nonneg _ (Int.natCast_nonneg _)]
    rfl
  have h2 : n / 2 ^ i < 2 ^ 64 := Nat.lt_of_le_of_lt (Nat.div_le_self _ _) hn
  have e2 : (BitVec.ofInt 64 (1 : Int)).toNat = 1 := rfl
  rw [e1, BitVec.toNat_and, ofInt_nat h2, e2, Nat.and_one_is_mod, wrapU_nat (by have := Nat.mod_lt (n / 2 ^ i) (show 0 < 2 by omega); omega)]
  have e3 : n.testBit i = decide ((n / 2 ^ i) % 2 = 1) := Nat.testBit_eq_decide_div_mod_eq
  rw [e3]
  have := Nat.mod_lt (n / 2 ^ i) (show 0 < 2 by omega)
  by_cases h : n / 2 ^ i % 2 = 1
  · rw [h]
    rfl
  · have h0 : n / 2 ^ i % 2 = 0 := by omega
    rw [h0]
    rfl
theorem bits_zero : Bits 0 fun _ => False := ⟨0, rfl, by decide, fun i _ => by simp⟩
theorem bits_sh {k : Nat} (hk : k < 64) : Bits (shU (k : Int)) (· = k) := ⟨2 ^ k, sh_nat hk, Nat.pow_lt_pow_right (by omega) hk, fun i _ => by rw [Nat.testBit_two_pow, decide_eq_true_iff]; exact eq_comm⟩
theorem Bits.or {a b : Int} {p q : Nat → Prop} (ha : Bits a p) (hb : Bits b q) : Bits (orU a b) fun i => p i ∨ q i := by
  obtain ⟨m, rfl, h1, h2⟩ := ha
  obtain ⟨n, rfl, h3, h4⟩ := hb
  exact ⟨m ||| n, or_nat h1 h3, Nat.or_lt_two_pow h1 h3, fun i hi => by rw [Nat.testBit_or, Bool.or_eq_true, h2 i hi, h4 i hi]⟩
theorem Bits.congr {a : Int} {p q : Nat → Prop} (h : Bits a p) (e : ∀ i, i < 64 → (p i ↔ q i)) : Bits a q := by
  obtain ⟨m, h0, h1, h2⟩ := h
  exact ⟨m, h0, h1, fun i hi => by rw [h2 i hi, e i hi]⟩
theorem Bits.keep {a : Int} {p : Nat → Prop} (h : Bits a p) {i : Nat} (hi : i < 64) : keepB a i = false ↔ p i := by
  obtain ⟨m, rfl, h1, h2⟩ := h
  rw [keep_nat hi h1, ← h2 i hi]
  cases m.testBit i <;> simp
theorem Bits.pos {a : Int} {p : Nat → Prop} (h : Bits a p) {i : Nat} (hi : i < 64) (hp : p i) : a > 0 := by
  obtain ⟨m, rfl, h1, h2⟩ := h
  have := (h2 i hi).2 hp
  have : m ≠ 0 := fun e => by rw [e] at this; simp at this
  omega
section
variable {t : Tal}
theorem cnt_get {k : Nat} (hk : k < t.counts.length) : (t.counts[k]?).getD ⟨0, 0, 0, 0⟩ = t.counts[k] ∧ cntAt t (k : Int) = t.counts[k] := by
  refine ⟨by rw [List.getElem?_eq_getElem hk]; rfl, ?_⟩
  unfold cntAt
  rw [Int.toNat_natCast, List.getD_eq_getElem?_getD, List.getElem?_eq_getElem hk]
  rfl
theorem setM_bits (hn : t.counts.length ≤ 7) (m : Int) : ∀ k, k ≤ t.counts.length → Bits (setM t m k) fun i => i < k ∧ (cntAt t (i : Int)).man = m
  | 0, _ => bits_zero.congr fun i _ => ⟨fun h => h.elim, fun h => absurd h.1 (by omega)⟩
  | k + 1, hk => by
    have ih := setM_bits hn m k (by omega)
    obtain ⟨e1, e2⟩ := cnt_get (t := t) (k := k) (by omega)
    unfold setM
    rw [e1]
    by_cases e : t.counts[k].man = m
    · rw [if_pos e]
      refine (ih.or (bits_sh (show k < 64 by omega))).congr fun i _ => ⟨?_, fun ⟨h1, h2⟩ => ?_⟩
      · rintro (⟨h1, h2⟩ | rfl)
        · exact ⟨by omega, h2⟩
        · exact ⟨by omega, by rw [e2]; exact e⟩
      · by_cases hi : i = k
        · exact .inr hi
        · exact .inl ⟨by omega, h2⟩
    · rw [if_neg e]
      refine ih.congr fun i _ => ⟨fun ⟨h1, h2⟩ => ⟨by omega, h2⟩, fun ⟨h1, h2⟩ => ⟨?_, h2⟩⟩
      by_cases hi : i = k
      · rw [hi, e2] at h2
        exact absurd h2 e
      · omega
theorem setA_bits (hn : t.counts.length ≤ 7) (m : Int) : Bits (setA t m) fun i => i < t.counts.length ∧ (cntAt t (i : Int)).man = m := setM_bits hn m _ (Nat.le_refl _)
theorem strU_bits {cs : List Int} {q : Int → Nat → Prop} (hq : ∀ x, Bits (cs.getD x.toNat 0) (q x)) (l : List Int) : Bits (strU cs l) fun i => ∃ x ∈ l, q x i := by
  have key : ∀ (l : List Int) (s : Int) (p : Nat → Prop), Bits s p → Bits (l.foldl (fun s k => orU s (cs.getD k.toNat 0)) s) fun i => p i ∨ ∃ x ∈ l, q x i := by
    intro l
    induction l with
    | nil =>
      intro s p hs
      exact hs.congr fun i _ => by simp
    | cons a l ih =>
      intro s p hs
      refine (ih _ _ (hs.or (hq a))).congr fun i _ => ?_
      simp only [List.mem_cons, exists_eq_or_imp, or_assoc]
  exact (key l 0 _ bits_zero).congr fun i _ => by simp
theorem setsR_get (x : Int) : (setsR t).getD x.toNat 0 = if x.toNat < (menR t).length then setA t ((menR t).getD x.toNat 0) else 0 := by
  unfold setsR
  rw [List.getD_eq_getElem?_getD, List.getElem?_map]
  by_cases h : x.toNat < (menR t).length
  · rw [if_pos h, List.getElem?_eq_getElem h, List.getD_eq_getElem?_getD, List.getElem?_eq_getElem h]
    rfl
  · rw [if_neg h, List.getElem?_eq_none (by omega)]
    rfl
theorem str_bits (hn : t.counts.length ≤ 7) {l : List Int} (hl : ∀ x ∈ l, 0 ≤ x ∧ x < (menR t).length) : Bits (strU (setsR t) l) fun i => i < t.counts.length ∧ (cntAt t (i : Int)).man ∈ l.map fun k => (menR t).getD k.toNat 0 := by
  have hq : ∀ x : Int, Bits ((setsR t).getD x.toNat 0) fun i => x.toNat < (menR t).length ∧ i < t.counts.length ∧ (cntAt t (i : Int)).man = (menR t).getD x.toNat 0 := fun x => by
    rw [setsR_get]
    by_cases h : x.toNat < (menR t).length
    · rw [if_pos h]
      exact (setA_bits hn _).congr fun i _ => ⟨fun y => ⟨h, y⟩, fun y => y.2⟩
    · rw [if_neg h]
      exact bits_zero.congr fun i _ => ⟨fun y => y.elim, fun y => absurd y.1 h⟩
  refine (strU_bits hq l).congr fun i _ => ⟨?_, ?_⟩
  · rintro ⟨x, hx, h1, h2, h3⟩
    exact ⟨h2, List.mem_map.2 ⟨x, hx, h3.symm⟩⟩
  · rintro ⟨h1, h2⟩
    obtain ⟨x, hx, h3⟩ := List.mem_map.1 h2
    have := hl x hx
    exact ⟨x, hx, by omega, h1, h3.symm⟩
theorem with_fine (f : TalFine t) {l : List Int} (hl : l.length ≤ 7) (hb : ∀ x ∈ l, 0 ≤ x ∧ x < t.counts.length) : TalFine (withT t l) where
  gates := f.gates
  chl := f.chl
  first := f.first
  ch := f.ch
  most := f.most
  few := by
    show (l.map (cntAt t)).length ≤ 7
    rw [List.length_map]
    exact hl
  co := fun c hc => by
    obtain ⟨x, hx, rfl⟩ := List.mem_map.1 hc
    have := hb x hx
    have hxl : x.toNat < t.counts.length := by omega
    have hm : cntAt t x ∈ t.counts := by
      unfold cntAt
      rw [List.getD_eq_getElem?_getD, List.getElem?_eq_getElem hxl]
      exact List.getElem_mem hxl
    exact f.co _ hm
theorem withU_lim {u : Int} {l : List Int} (hb : ((List.range t.counts.length).filter (keepB u)).map Int.ofNat = l) : limA (withT t l) 0 = limN u t.counts t.counts.length := by
  show limN 0 (withT t l).counts (withT t l).counts.length = _
  rw [limN_zero, limN_fold]
  congr 1
  show l.map (cntAt t) = _
  conv => lhs; rw [← hb]
  generalize hf : (List.range t.counts.length).filter (keepB u) = q
  have hq : ∀ i ∈ q, i < t.counts.length := fun i hi => by
    rw [← hf] at hi
    exact List.mem_range.1 (List.mem_filter.1 hi).1
  clear hf hb
  induction q with
  | nil => rfl
  | cons i q ih =>
    have hi := hq i (by simp)
    have hx := List.getElem?_eq_getElem hi
    rw [List.map_cons, List.map_cons, ih fun j hj => hq j (by simp [hj]), List.filterMap_cons, hx]
    show _ :: _ = _ :: _
    congr 1
    unfold cntAt
    rw [List.getD_eq_getElem?_getD, show (Int.ofNat i).toNat = i from rfl, hx]
    rfl
theorem withU_truth {u : Int} {l : List Int} (hb : ((List.range t.counts.length).filter (keepB u)).map Int.ofNat = l) : decide (TruthIs (withT t l) (limA (withT t l) 0)) = truthS t u := by
  rw [withU_lim hb]
  have h1 : ∀ (L : Nat → Rng) g, fwd (withT t l) L g = fwd t L g := by
    intro L g
    induction g with
    | zero => rfl
    | succ g ih =>
      show ((fwd (withT t l) L g).plus (stretchR (withT t l) g)).meet (L (g + 1)) = ((fwd t L g).plus (stretchR t g)).meet (L (g + 1))
      rw [ih]
      rfl
  unfold truthS
  refine decide_eq_decide.2 ⟨fun h g hg => ?_, fun h g hg => ?_⟩
  · have := h g hg
    rw [h1] at this
    exact this
  · rw [h1]
    exact h g hg
theorem out_truth {l : List Int} {u : Int} (h : ∀ i, i < t.counts.length → (keepB u i = false ↔ (i : Int) ∈ l)) : decide (TruthIs (withT t (outTo l t.counts.length)) (limA (withT t (outTo l t.counts.length)) 0)) = truthS t u := by
  refine withU_truth ?_
  unfold outTo
  congr 1
  refine List.filter_congr fun i hi => ?_
  have := h i (List.mem_range.1 hi)
  cases hk : keepB u i with
  | false =>
    have hc : l.contains (i : Int) = true := List.contains_iff_mem.2 (this.1 hk)
    rw [hc]
    rfl
  | true =>
    have hc : l.contains (i : Int) = false := by
      cases hc : l.contains (i : Int) with
      | false => rfl
      | true =>
        have := this.2 (List.contains_iff_mem.1 hc)
        rw [hk] at this
        cases this
    rw [hc]
    rfl
theorem without_truth (hn : t.counts.length ≤ 7) {m : Nat} (hm : m ≤ 7) {l : List Int} (hl : l ∈ picksR t.counts.length m 0) : decide (TruthIs (withT t (outTo l t.counts.length)) (limA (withT t (outTo l t.counts.length)) 0)) = truthS t (setF 0 l) := by
  refine out_truth fun i hi => ?_
  have hb := (bits1 _ (List.mem_range.2 (show t.counts.length < 8 by omega)) m (List.mem_range.2 (by omega)) l hl).2 i (List.mem_range.2 hi)
  rw [hb, ← List.contains_iff_mem]
  cases l.contains (i : Int) <;> simp
theorem by_mem {l : List Int} {i : Nat} (hi : i < t.counts.length) : (i : Int) ∈ byTo t l t.counts.length ↔ (cntAt t (i : Int)).man ∈ l := by
  unfold byTo
  constructor
  · intro h
    obtain ⟨j, hj, e⟩ := List.mem_map.1 h
    have : j = i := by
      have e : (j : Int) = (i : Int) := e
      omega
    subst this
    exact List.contains_iff_mem.1 (List.mem_filter.1 hj).2
  · intro h
    exact List.mem_map.2 ⟨i, List.mem_filter.2 ⟨List.mem_range.2 hi, List.contains_iff_mem.2 h⟩, rfl⟩
theorem men_truth (hn : t.counts.length ≤ 7) {ms : List Int} {u : Int} (hu : Bits u fun i => i < t.counts.length ∧ (cntAt t (i : Int)).man ∈ ms) : decide (TruthIs (withT t (outTo (byTo t ms t.counts.length) t.counts.length)) (limA (withT t (outTo (byTo t ms t.counts.length) t.counts.length)) 0)) = truthS t u := by
  refine out_truth fun i hi => ?_
  rw [hu.keep (by omega), by_mem hi]
  exact ⟨fun h => h.2, fun h => ⟨hi, h⟩⟩
theorem by_some (hn : t.counts.length ≤ 7) {m : Int} : (0 < (byTo t [m] t.counts.length).length) ↔ setA t m > 0 := by
  constructor
  · intro h
    obtain ⟨x, hx⟩ := List.exists_mem_of_length_pos h
    unfold byTo at hx
    obtain ⟨i, hi, rfl⟩ := List.mem_map.1 hx
    have hi' := List.mem_range.1 (List.mem_filter.1 hi).1
    have := List.contains_iff_mem.1 (List.mem_filter.1 hi).2
    exact (setA_bits hn m).pos (i := i) (by omega) ⟨hi', by simpa using this⟩
  · intro h
    obtain ⟨j, h1, h2⟩ := setM_some (t := t) (m := m) t.counts.length (by unfold setA at h; omega)
    obtain ⟨e1, e2⟩ := cnt_get (t := t) (k := j) h1
    rw [e1] at h2
    have := (by_mem (t := t) (l := [m]) h1).2 (by rw [e2, h2]; simp)
    exact List.length_pos_of_mem this
theorem keep127 : ∀ i, i < 7 → keepB 127 i = false := fun i hi => by
  have : ∀ i ∈ List.range 7, keepB 127 i = false := of_decide_eq_true (by kernel_rfl)
  exact this i (List.mem_range.2 hi)
theorem truth_all (hn : t.counts.length ≤ 7) {u : Int} (h : truthS t u = true) : truthS t 127 = true := truthS_more (fun i hi hk => by rw [keep127 i (by omega)] at hk; cases hk) h
theorem men_full (hn : t.counts.length ≤ 7) (hman : ∀ c ∈ t.counts, 1 ≤ c.man ∧ c.man ≤ 9) (h : truthS t 127 = true) : menO t ≠ none := by
  intro e
  unfold menO at e
  have hlen := menR_few (t := t)
  generalize hN : (menR t).length = n at *
  have h1 := firstN_nil e n (by omega)
  -- the whole list
  have hfull : ∃ l ∈ picksR n n 0, ∀ k ∈ List.range n, (k : Int) ∈ l := by
    have key : ∀ n ∈ List.range 8, ∃ l ∈ picksR n n 0, ∀ k ∈ List.range n, (k : Int) ∈ l := of_decide_eq_true (by kernel_rfl)
    exact key n (List.mem_range.2 (by omega))
  obtain ⟨l, hl, hall⟩ := hfull
  have := List.find?_eq_none.1 h1 l hl
  refine this ?_
  have hm := picksR_mem hl
  refine truthS_more (u := 127) (fun i hi hk => ?_) h
  exfalso
  have hb := str_bits hn (l := l) (fun x hx => by have := hm.2 x hx; omega)
  have hne : ¬ keepB (strU (setsR t) l) i = false := by rw [hk]; decide
  refine hne ((hb.keep (by omega)).2 ⟨hi, ?_⟩)
  obtain ⟨_, e2⟩ := cnt_get (t := t) (k := i) hi
  have hc := hman _ (List.getElem_mem hi)
  rw [← e2] at hc
  have hin : (cntAt t (i : Int)).man ∈ menR t := by
    refine List.mem_filter.2 ⟨List.mem_map.2 ⟨((cntAt t (i : Int)).man - 1).toNat, List.mem_range.2 (by omega), by omega⟩, decide_eq_true ?_⟩
    exact (setA_bits hn _).pos (i := i) (by omega) ⟨hi, rfl⟩
  obtain ⟨k, hk2, e3⟩ := List.mem_iff_getElem.1 hin
  refine List.mem_map.2 ⟨(k : Int), hall k (List.mem_range.2 (by omega)), ?_⟩
  rw [Int.toNat_natCast, List.getD_eq_getElem?_getD, List.getElem?_eq_getElem hk2]
  exact e3
theorem wrong_any (hn : t.counts.length ≤ 7) {w : List Int} (h : wrongO t = some w) : truthS t 127 = true := by
  unfold wrongO at h
  rw [pickP_find] at h
  obtain ⟨k, _, _, h3⟩ := firstN_iff h
  exact truth_all (u := setF 0 w) hn (by simpa using List.find?_some h3)
theorem men_any (hn : t.counts.length ≤ 7) {w : List Int} (h : menO t = some w) : truthS t 127 = true := by
  unfold menO at h
  obtain ⟨k, _, _, h3⟩ := firstN_iff h
  exact truth_all (u := strU (setsR t) w) hn (by simpa using List.find?_some h3)
end
theorem wrongP_find {t : Tal} : wrongO t = firstN (fun m => (picksR t.counts.length m 0).find? fun r => truthS t (setF 0 r)) (t.counts.length + 1) := by
  unfold wrongO
  exact pickP_find
theorem clashP_find {t : Tal} : clashO t = firstN (fun m => (picksR t.counts.length m 0).find? fun r => !truthS t (andU 127 (setF 0 r))) (t.counts.length + 1) := by
  unfold clashO
  exact pickP_find
theorem find_at {α : Type} {p : α → Bool} {l : List α} {i : Nat} {x : α} (hx : l[i]? = some x) (hno : ∀ j y, j < i → l[j]? = some y → p y = false) (h : p x = true) : l.find? p = some x := by
  obtain ⟨hi, rfl⟩ := List.getElem?_eq_some_iff.1 hx
  rw [List.find?_eq_some_iff_getElem]
  exact ⟨h, i, hi, rfl, fun j hj => by rw [hno j _ hj (List.getElem?_eq_getElem (by omega))]; rfl⟩
theorem find_no {α : Type} {p : α → Bool} {l : List α} (hno : ∀ (j : Nat) y, l[j]? = some y → p y = false) : l.find? p = none := by
  rw [List.find?_eq_none]
  intro x hx
  obtain ⟨j, hj⟩ := List.getElem?_of_mem hx
  rw [hno j x hj]
  decide
section
variable {main : Bool} {J : JT} {h H : List AObj} {K : Value → List AObj → Prop} {n0 : Nat}
theorem good57 (hJ : Closed prog main J) {v cv nv : Value} {t : Tal} (ht : TalAt H v t cv nv) (hK : ∀ H' w, SameX [] H H' → Sli H' w 1 (wrongL t).length ((wrongL t).map vint) → K (.tuple ⟨[w, vint (wrongE t)]⟩) H') : Good prog J 57 [v] H K := by
  refine g57 hJ fun ok => ?_
  rw [e57, ht.val]
  have kn : kn1 nv = true := (sli_one ht.co).2.2
  refine qBox (tal_one ht) fun H1 p1 e1 S1 c1 l1 => ?_
  have t1 : TalAt H1 (.agg ⟨talCells t cv nv⟩) t cv nv := ⟨rfl, S1.sli ht.ch (by simp), S1.sli ht.co (by simp)⟩
  have nil : ∀ {H' : List AObj} {e : Int} {n1 : Nat}, n1 = H.length → SameX [] H H' → wrongE t = e → e ≠ 0 → retL n1 K [] [.slice none 0 0, vint e] H' := fun {H' e n1} hn S he h0 => by
    subst he hn
    refine retL_same (by simp [unk]) (hK H' _ S ?_)
    unfold wrongL
    rw [if_neg h0]
    exact ⟨none, 0, rfl, ⟨rfl, rfl⟩, .inl ⟨rfl, rfl⟩⟩
  refine load_part (c := talCells t cv nv) c1 (by rw [cs_val]; omega) rfl (talAt_kc t1) (good52 hJ t1 ?_)
  refine neqI (cndI (fun h0 => nil rfl S1 (by unfold wrongE; rw [if_pos h0]) h0) fun h0 => ?_)
  have h0 : talErr t = 0 := Classical.not_not.1 h0
  have fine := talErr_fine h0
  have hfew := fine.few
  refine l57_1 hJ (fun m : Nat => t.counts.length + 1 - m) (fun m F H' => SameX [] H1 H' ∧ m ≤ t.counts.length + 1 ∧ (∀ i, i < m → (picksR t.counts.length i 0).find? (fun r => truthS t (setF 0 r)) = none) ∧ F.ds = [] ∧ F.r 1 = ptr p1 0 ∧ F.r 5 = vint (m : Nat)) ?_ (s := 0)
    (.inl ⟨SameX.refl, by omega, fun i hi => absurd hi (Nat.not_lt_zero _), rfl, rfl, rfl⟩)
  rintro m F H' ⟨S, hm, hno, ds, r1, r5⟩ okc hnc
  have c' := S.get c1 (by simp)
  have t' := talAt_same t1 S (by simp)
  rw [s57_1, r1, r5, ds]
  refine offI (ldI (v := nv) c' rfl kn (lenI t'.co (leqI (cndI (fun hle => ?_) fun hgt => ?_))))
  rotate_left
  · have hO : wrongO t = none := by
      rw [wrongP_find]
      exact firstN_none fun i hi => hno i (by omega)
    have hz : truthS t 127 = false := by
      cases h2 : truthS t 127 with
      | false => rfl
      | true =>
        obtain ⟨w, hw, _⟩ := wrong_some hfew h2
        rw [hO] at hw
        cases hw
    exact nil rfl (S1.trans S) (by unfold wrongE; rw [if_neg (not_not_intro h0), hz]; rfl) (by decide)
  refine offI (ldI (v := nv) c' rfl kn (lenI t'.co ?_))
  refine good89 (a := 0) hJ hfew m (by omega) (by omega) fun H2 av o S2 L _ => ?_
  have hlen := picks_le hfew (show m ≤ 7 by omega) 0
  refine l57_2 hJ (fun i : Nat => (picksR t.counts.length m 0).length - i) (fun i F H' => SameX [] H2 H' ∧ i ≤ (picksR t.counts.length m 0).length ∧ (∀ j l', j < i → (picksR t.counts.length m 0)[j]? = some l' → truthS t (setF 0 l') = false) ∧ F.ds = [] ∧ F.r 1 = ptr p1 0 ∧ F.r 5 = vint (m : Nat) ∧ F.r 6 = av ∧ F.r 7 = vint (i : Nat)) ?_ (s := 0)
    (.inl ⟨SameX.refl, by omega, fun j l' hj => absurd hj (Nat.not_lt_zero _), ds, r1, r5, rfl, rfl⟩)
  clear ds r1 r5 okc hnc
  rintro i F H3 ⟨S3, hi, hni, ds, r1, r5, r6, r7⟩ okc hnc
  have L' := L.keep S3
  obtain ⟨lc, sL⟩ := L'.sli
  rw [s57_2, r1, r5, r6, r7, ds]
  refine lenI sL (lssI (cndI (fun hlt => ?_) fun hge => ?_))
  rotate_left
  · refine addI (by omega) ⟨m + 1, by dsimp only; omega, .inl ⟨(S.trans S2).trans S3, by omega, fun j hj => ?_, ds, r1, by show vint _ = vint _; congr 1⟩⟩
    by_cases e : j = m
    · rw [e]
      exact find_no fun k y hy => hni k y (by have := (List.getElem?_eq_some_iff.1 hy).1; omega) hy
    · exact hno j (by omega)
  have hil : i < (picksR t.counts.length m 0).length := by omega
  obtain ⟨l, hl⟩ : ∃ l, (picksR t.counts.length m 0)[i]? = some l := ⟨_, List.getElem?_eq_getElem hil⟩
  have hlm := List.mem_of_getElem? hl
  obtain ⟨hll, hlb⟩ := picksR_mem hlm
  have T3 : SameX [] H' H3 := S2.trans S3
  have c3 := T3.get c' (by simp)
  have t3 := talAt_same t' T3 (by simp)
  obtain ⟨b0, hb0⟩ : ∃ b0, o = some b0 := by
    obtain ⟨_, cs0, ⟨_, _, ⟨h0, _⟩ | ⟨b0, c0, sz0, he, _⟩⟩, _⟩ := L'
    · omega
    · exact ⟨b0, he⟩
  have lp := lt_of_get c3
  have lb0 := (L'.lt b0 hb0).2
  refine ⟨[p1, b0], load_part (c := talCells t cv nv) c3 (by rw [cs_val]; omega) rfl (talAt_kc t3) ⟨by simp [RdOk, ptr, ptrBlk], ?_⟩⟩
  refine L'.get' hl fun b1 off ev bw hb1 _ Ow _ => ⟨?_, ?_⟩
  · rw [hb0] at hb1
    injection hb1 with hb1
    subst hb1
    simp [RdOk, ptr, ptrBlk]
  have hol := outTo_le l t.counts.length
  have wf := with_fine fine (l := outTo l t.counts.length) (by omega) (fun x hx => outTo_mem hx)
  refine good63 hJ t3 (ownX_sli Ow) (by omega) (by omega) fun H4 nv2 S4 T4 => good81 hJ T4 wf ⟨fun x hx => S4.2 x (by simp at hx; rcases hx with rfl | rfl <;> omega) (by simp), ?_⟩
  rw [without_truth hfew (by omega) hlm]
  have T34 := (S1.trans S).trans (T3.trans S4)
  cases hT : truthS t (setF 0 l) with
  | true =>
    have hO : wrongO t = some l := by
      rw [wrongP_find]
      exact firstN_some (k := m) (by omega) hno (find_at (p := fun r => truthS t (setF 0 r)) hl hni hT)
    have hE : wrongE t = 0 := by unfold wrongE; rw [if_neg (not_not_intro h0), wrong_any hfew hO]; rfl
    have hL : wrongL t = l := by unfold wrongL; rw [if_pos hE, hO]; rfl
    refine cnd_true.2 ((L'.keep S4).get hl fun q ev2 b2 Ob _ => retL_same (nu2 (own_nunk Ob) (by simp [unk])) ?_)
    have := hK H4 ev2 T34 (by rw [hL]; exact ownX_sli Ob)
    rw [hE] at this
    exact this
  | false =>
    refine cnd_false.2 (addI (by omega) ⟨i + 1, by dsimp only; omega, .inl ⟨S3.trans S4, by omega, fun j l' hj hjl => ?_, ds, r1, r5, r6, by show vint _ = vint _; congr 1⟩⟩)
    by_cases e : j = i
    · rw [e, hl] at hjl
      injection hjl with hjl
      rw [← hjl]
      exact hT
    · exact hni j l' (by omega) hjl
theorem good58 (hJ : Closed prog main J) {v cv nv : Value} {t : Tal} (ht : TalAt H v t cv nv) (hK : ∀ H' w, SameX [] H H' → Sli H' w 1 (clashL t).length ((clashL t).map vint) → K (.tuple ⟨[w, vint (clashE t)]⟩) H') : Good prog J 58 [v] H K := by
  refine g58 hJ fun ok => ?_
  rw [e58, ht.val]
  have kn : kn1 nv = true := (sli_one ht.co).2.2
  refine qBox (tal_one ht) fun H1 p1 e1 S1 c1 l1 => ?_
  have t1 : TalAt H1 (.agg ⟨talCells t cv nv⟩) t cv nv := ⟨rfl, S1.sli ht.ch (by simp), S1.sli ht.co (by simp)⟩
  have nil : ∀ {H' : List AObj} {e : Int} {n1 : Nat}, n1 = H.length → SameX [] H H' → clashE t = e → clashL t = [] → retL n1 K [] [.slice none 0 0, vint e] H' := fun {H' e n1} hn S he hL => by
    subst he hn
    refine retL_same (by simp [unk]) (hK H' _ S ?_)
    rw [hL]
    exact ⟨none, 0, rfl, ⟨rfl, rfl⟩, .inl ⟨rfl, rfl⟩⟩
  have nilE : ∀ e : Int, clashE t = e → e ≠ 0 → clashL t = [] := fun e he h0 => by unfold clashL; rw [if_neg (by rw [he]; exact h0)]
  refine load_part (c := talCells t cv nv) c1 (by rw [cs_val]; omega) rfl (talAt_kc t1) (good52 hJ t1 ?_)
  refine neqI (cndI (fun h0 => ?_) fun h0 => ?_)
  · have he : clashE t = talErr t := by unfold clashE; rw [if_pos h0]
    exact nil rfl S1 he (nilE _ he h0)
  have h0 : talErr t = 0 := Classical.not_not.1 h0
  have fine := talErr_fine h0
  have hfew := fine.few
  refine load_part (c := talCells t cv nv) c1 (by rw [cs_val]; omega) rfl (talAt_kc t1) (good81 hJ t1 fine ?_)
  have eT : decide (TruthIs t (limA t 0)) = truthS t 0 := rfl
  rw [eT]
  cases hz : truthS t 0 with
  | true =>
    have he : clashE t = 11 := by unfold clashE; rw [if_neg (not_not_intro h0), hz]; rfl
    exact cnd_true.2 (nil rfl S1 he (nilE _ he (by decide)))
  | false =>
  have hE : clashE t = 0 := by unfold clashE; rw [if_neg (not_not_intro h0), hz]; rfl
  refine cnd_false.2 ?_
  refine l58_1 hJ (fun m : Nat => t.counts.length + 1 - m) (fun m F H' => SameX [] H1 H' ∧ m ≤ t.counts.length + 1 ∧ (∀ i, i < m → (picksR t.counts.length i 0).find? (fun r => !truthS t (andU 127 (setF 0 r))) = none) ∧ F.ds = [] ∧ F.r 1 = ptr p1 0 ∧ F.r 5 = .slice none 0 0 ∧ F.r 6 = vint (m : Nat)) ?_ (s := 0)
    (.inl ⟨SameX.refl, by omega, fun i hi => absurd hi (Nat.not_lt_zero _), rfl, rfl, rfl, rfl⟩)
  rintro m F H' ⟨S, hm, hno, ds, r1, r5, r6⟩ okc hnc
  have c' := S.get c1 (by simp)
  have t' := talAt_same t1 S (by simp)
  rw [s58_1, r1, r5, r6, ds]
  refine offI (ldI (v := nv) c' rfl kn (lenI t'.co (leqI (cndI (fun hle => ?_) fun hgt => ?_))))
  rotate_left
  · have hO : clashO t = none := by
      rw [clashP_find]
      exact firstN_none fun i hi => hno i (by omega)
    exact nil rfl (S1.trans S) hE (by unfold clashL; rw [if_pos hE, hO]; rfl)
  refine offI (ldI (v := nv) c' rfl kn (lenI t'.co ?_))
  refine good89 (a := 0) hJ hfew m (by omega) (by omega) fun H2 av o S2 L _ => ?_
  have hlen := picks_le hfew (show m ≤ 7 by omega) 0
  refine l58_2 hJ (fun i : Nat => (picksR t.counts.length m 0).length - i) (fun i F H' => SameX [] H2 H' ∧ i ≤ (picksR t.counts.length m 0).length ∧ (∀ j l', j < i → (picksR t.counts.length m 0)[j]? = some l' → (!truthS t (andU 127 (setF 0 l'))) = false) ∧ F.ds = [] ∧ F.r 1 = ptr p1 0 ∧ F.r 5 = .slice none 0 0 ∧ F.r 6 = vint (m : Nat) ∧ F.r 7 = av ∧ F.r 8 = vint (i : Nat)) ?_ (s := 0)
    (.inl ⟨SameX.refl, by omega, fun j l' hj => absurd hj (Nat.not_lt_zero _), ds, r1, r5, r6, rfl, rfl⟩)
  clear ds r1 r5 r6 okc hnc
  rintro i F H3 ⟨S3, hi, hni, ds, r1, r5, r6, r7, r8⟩ okc hnc
  have L' := L.keep S3
  obtain ⟨lc, sL⟩ := L'.sli
  rw [s58_2, r1, r6, r7, r8, ds]
  refine lenI sL (lssI (cndI (fun hlt => ?_) fun hge => ?_))
  rotate_left
  · refine addI (by omega) ⟨m + 1, by dsimp only; omega, .inl ⟨(S.trans S2).trans S3, by omega, fun j hj => ?_, ds, r1, r5, by show vint _ = vint _; congr 1⟩⟩
    by_cases e : j = m
    · rw [e]
      exact find_no fun k y hy => hni k y (by have := (List.getElem?_eq_some_iff.1 hy).1; omega) hy
    · exact hno j (by omega)
  have hil : i < (picksR t.counts.length m 0).length := by omega
  obtain ⟨l, hl⟩ : ∃ l, (picksR t.counts.length m 0)[i]? = some l := ⟨_, List.getElem?_eq_getElem hil⟩
  have hlm := List.mem_of_getElem? hl
  obtain ⟨hll, hlb⟩ := picksR_mem hlm
  have T3 : SameX [] H' H3 := S2.trans S3
  have c3 := T3.get c' (by simp)
  have t3 := talAt_same t' T3 (by simp)
  obtain ⟨b0, hb0⟩ : ∃ b0, o = some b0 := by
    obtain ⟨_, cs0, ⟨_, _, ⟨h0, _⟩ | ⟨b0, c0, sz0, he, _⟩⟩, _⟩ := L'
    · omega
    · exact ⟨b0, he⟩
  have lp := lt_of_get c3
  have lb0 := (L'.lt b0 hb0).2
  refine ⟨[p1, b0], load_part (c := talCells t cv nv) c3 (by rw [cs_val]; omega) rfl (talAt_kc t3) ⟨by simp [RdOk, ptr, ptrBlk], ?_⟩⟩
  refine L'.get' hl fun b1 off ev bw hb1 _ Ow _ => ⟨?_, ?_⟩
  · rw [hb0] at hb1
    injection hb1 with hb1
    subst hb1
    simp [RdOk, ptr, ptrBlk]
  have wf := with_fine fine (l := l) (by omega) (fun x hx => by have := hlb x hx; omega)
  refine good36 hJ t3 (ownX_sli Ow) (fun x hx => by have := hlb x hx; omega) (by omega) fun H4 nv2 S4 T4 => good81 hJ T4 wf ⟨fun x hx => S4.2 x (by simp at hx; rcases hx with rfl | rfl <;> omega) (by simp), ?_⟩
  rw [with_truth hfew (by omega) hlm]
  have T34 := (S1.trans S).trans (T3.trans S4)
  refine notI ?_
  cases hT : truthS t (andU 127 (setF 0 l)) with
  | false =>
    have hO : clashO t = some l := by
      rw [clashP_find]
      exact firstN_some (k := m) (by omega) hno (find_at (p := fun r => !truthS t (andU 127 (setF 0 r))) hl hni (by rw [hT]; rfl))
    have hL : clashL t = l := by unfold clashL; rw [if_pos hE, hO]; rfl
    refine cnd_true.2 ((L'.keep S4).get hl fun q ev2 b2 Ob _ => retL_same (nu2 (own_nunk Ob) (by simp [unk])) ?_)
    have := hK H4 ev2 T34 (by rw [hL]; exact ownX_sli Ob)
    rw [hE] at this
    exact this
  | true =>
    refine cnd_false.2 (addI (by omega) ⟨i + 1, by dsimp only; omega, .inl ⟨S3.trans S4, by omega, fun j l' hj hjl => ?_, ds, r1, r5, r6, r7, by show vint _ = vint _; congr 1⟩⟩)
    by_cases e : j = i
    · rw [e, hl] at hjl
      injection hjl with hjl
      rw [← hjl, hT]
      rfl
    · exact hni j l' (by omega) hjl
theorem good60 (hJ : Closed prog main J) {v cv nv : Value} {t : Tal} (ht : TalAt H v t cv nv) (hK : ∀ H' w, SameX [] H H' → Sli H' w 1 (menL t).length ((menL t).map vint) → K (.tuple ⟨[w, vint (wrongE t)]⟩) H') : Good prog J 60 [v] H K := by
  refine g60 hJ fun ok => ?_
  rw [e60, ht.val]
  have kn : kn1 nv = true := (sli_one ht.co).2.2
  refine qBox (tal_one ht) fun H1 p1 e1 S1 c1 l1 => ?_
  have t1 : TalAt H1 (.agg ⟨talCells t cv nv⟩) t cv nv := ⟨rfl, S1.sli ht.ch (by simp), S1.sli ht.co (by simp)⟩
  have nil : ∀ {H' : List AObj} {e : Int} {n1 : Nat}, n1 = H.length → SameX [] H H' → wrongE t = e → e ≠ 0 → retL n1 K [] [.slice none 0 0, vint e] H' := fun {H' e n1} hn S he h0 => by
    subst he hn
    refine retL_same (by simp [unk]) (hK H' _ S ?_)
    unfold menL
    rw [if_neg h0]
    exact ⟨none, 0, rfl, ⟨rfl, rfl⟩, .inl ⟨rfl, rfl⟩⟩
  refine load_part (c := talCells t cv nv) c1 (by rw [cs_val]; omega) rfl (talAt_kc t1) (good52 hJ t1 ?_)
  refine neqI (cndI (fun h0 => nil rfl S1 (by unfold wrongE; rw [if_pos h0]) h0) fun h0 => ?_)
  have h0 : talErr t = 0 := Classical.not_not.1 h0
  have fine := talErr_fine h0
  have hfew := fine.few
  refine l60_1 hJ (fun m : Nat => 9 - m) (fun m F H' => ∃ ov oo, SameX [] H1 H' ∧ m ≤ 9 ∧ OwnX H' 1 ((menTo t m).map vint) (menTo t m).length ov oo ∧ (∀ j, oo = some j → H1.length ≤ j) ∧ F.ds = [] ∧ F.r 1 = ptr p1 0 ∧ F.r 5 = ov ∧ F.r 6 = vint ((m + 1 : Nat) : Int)) ?_ (s := 0)
    (.inl ⟨_, none, SameX.refl, by omega, ownX_nil, by simp, rfl, rfl, rfl, rfl⟩)
  rintro m F H' ⟨ov, oo, S, hm, O, ho, ds, r1, r5, r6⟩ okc hnc
  have c' := S.get c1 (by simp)
  have t' := talAt_same t1 S (by simp)
  have hml := menTo_le t m
  have hsu := menTo_succ t m
  rw [s60_1, r1, r5, r6]
  refine leqI (cndI (fun hle => ?_) fun hgt => ?_)
  · refine load_part (c := talCells t cv nv) c' (by rw [cs_val]; omega) rfl (talAt_kc t') ⟨by decide, fill1 rfl rfl (by decide) (fillI (qNew fun H2 p2 e2 S2 c2 l2 => ?_))⟩
    have c2 : H2[p2]? = some (.cells ([((m + 1 : Nat) : Int)].map vint) true 0) := c2
    refine good64 hJ (talAt_same t' S2 (by simp)) (ownX_sli (ownX_new (n := 1) c2 rfl rfl)) (by simp) (by omega) fun H3 w o3 S3 O3 => lenI (ownX_sli O3) (gtrI ?_)
    have hbs := by_some (t := t) hfew (m := ((m + 1 : Nat) : Int))
    have T3 := S2.trans S3
    refine cndI (fun hpos => ⟨by decide, fill1 rfl rfl (by decide) (fillI (qNew fun H4 p4 e4 S4 c4 l4 => ⟨by decide, ?_⟩))⟩) fun hnp => ?_
    · rw [decide_eq_true (hbs.1 (by omega)), cond_true] at hsu
      refine ownX_more (ownX_keep O (T3.trans S4) (by simp)) (by omega) (by omega) (ownX_sli (ownX_new (n := 1) (l := [vint ((m + 1 : Nat) : Int)]) c4 rfl rfl)) fun v' H5 p5 e5 O5 S5 => addI (by omega) ⟨m + 1, by dsimp only; omega, .inl ⟨v', some p5, (S.trans (T3.trans S4)).thru S5 (fun y hy => .inr (ho y (Option.mem_toList.1 hy))), by omega, ?_, fun j hj => ?_, ds, r1, rfl, by show vint _ = vint _; congr 1⟩⟩
      · rw [hsu, List.map_append, List.length_append]
        exact O5
      · cases hj
        have := S.1
        have := T3.1
        have := S4.1
        omega
    · rw [decide_eq_false (fun y => hnp (by have := hbs.2 y; omega)), cond_false, List.append_nil] at hsu
      exact addI (by omega) ⟨m + 1, by dsimp only; omega, .inl ⟨ov, oo, S.trans T3, by omega, by rw [hsu]; exact ownX_keep O T3 (by simp), ho, ds, r1, r5, by show vint _ = vint _; congr 1⟩⟩
  have hm9 : m = 9 := by omega
  subst hm9
  have O : OwnX H' 1 ((menR t).map vint) (menR t).length ov oo := O
  have hwf := menR_few (t := t)
  generalize hn : (menR t).length = n at *
  refine l60_2 hJ (fun m : Nat => n + 1 - m) (fun m F H2 => SameX [] H' H2 ∧ m ≤ n + 1 ∧ (∀ i, i < m → (picksR n i 0).find? (fun r => truthS t (strU (setsR t) r)) = none) ∧ F.ds = [] ∧ F.r 1 = ptr p1 0 ∧ F.r 5 = ov ∧ F.r 7 = vint (m : Nat)) ?_ (s := 0)
    (.inl ⟨SameX.refl, by omega, fun i hi => absurd hi (Nat.not_lt_zero _), ds, r1, r5, rfl⟩)
  clear ds r1 r5 r6 okc hnc
  rintro m F H2 ⟨S2, hm', hno, ds, r1, r5, r7⟩ okc hnc
  have c2 := S2.get c' (by simp)
  have t2 := talAt_same t' S2 (by simp)
  have O2 := ownX_keep O S2 (by simp)
  rw [s60_2, r5, r7, ds]
  refine lenI (ownX_sli O2) (leqI (cndI (fun hle => lenI (ownX_sli O2) ?_) fun hgt => ?_))
  rotate_left
  · have hO : menO t = none := by
      unfold menO
      rw [hn]
      exact firstN_none fun i hi => hno i (by omega)
    have hz : truthS t 127 = false := by
      cases h2 : truthS t 127 with
      | false => rfl
      | true => exact absurd hO (men_full hfew (fun c hc => (fine.co c hc).2.1) h2)
    exact nil rfl ((S1.trans S).trans S2) (by unfold wrongE; rw [if_neg (not_not_intro h0), hz]; rfl) (by decide)
  refine good89 (a := 0) hJ (show n ≤ 7 by omega) m (by omega) (by omega) fun H3 av o S3 L _ => ?_
  have hlen := picks_le (show n ≤ 7 by omega) (show m ≤ 7 by omega) 0
  refine l60_3 hJ (fun i : Nat => (picksR n m 0).length - i) (fun i F H4 => SameX [] H3 H4 ∧ i ≤ (picksR n m 0).length ∧ (∀ j l', j < i → (picksR n m 0)[j]? = some l' → truthS t (strU (setsR t) l') = false) ∧ F.ds = [] ∧ F.r 1 = ptr p1 0 ∧ F.r 5 = ov ∧ F.r 7 = vint (m : Nat) ∧ F.r 8 = av ∧ F.r 9 = vint (i : Nat)) ?_ (s := 0)
    (.inl ⟨SameX.refl, by omega, fun j l' hj => absurd hj (Nat.not_lt_zero _), ds, r1, r5, r7, rfl, rfl⟩)
  clear ds r1 r5 r7 okc hnc
  rintro i F H4 ⟨S4, hi, hni, ds, r1, r5, r7, r8, r9⟩ okc hnc
  have L' := L.keep S4
  obtain ⟨lc, sL⟩ := L'.sli
  rw [s60_3, r7, r8, r9]
  refine lenI sL (lssI (cndI (fun hlt => ?_) fun hge => ?_))
  rotate_left
  · refine addI (by omega) ⟨m + 1, by dsimp only; omega, .inl ⟨(S2.trans S3).trans S4, by omega, fun j hj => ?_, ds, r1, r5, by show vint _ = vint _; congr 1⟩⟩
    by_cases e : j = m
    · rw [e]
      exact find_no fun k y hy => hni k y (by have := (List.getElem?_eq_some_iff.1 hy).1; omega) hy
    · exact hno j (by omega)
  have hil : i < (picksR n m 0).length := by omega
  obtain ⟨l, hl⟩ : ∃ l, (picksR n m 0)[i]? = some l := ⟨_, List.getElem?_eq_getElem hil⟩
  have hlm := List.mem_of_getElem? hl
  obtain ⟨hll, hlb⟩ := picksR_mem hlm
  have T4 : SameX [] H2 H4 := S3.trans S4
  have c4 := T4.get c2 (by simp)
  have t4 := talAt_same t2 T4 (by simp)
  have O4 := ownX_keep O2 T4 (by simp)
  refine l60_4 hJ (fun k : Nat => m - k) (fun k F H5 => ∃ mv mo, SameX [] H4 H5 ∧ k ≤ m ∧ OwnX H5 1 (((l.take k).map fun k => (menR t).getD k.toNat 0).map vint) k mv mo ∧ (∀ j, mo = some j → H4.length ≤ j) ∧ F.ds = [] ∧ F.r 1 = ptr p1 0 ∧ F.r 5 = ov ∧ F.r 7 = vint (m : Nat) ∧ F.r 8 = av ∧ F.r 9 = vint (i : Nat) ∧ F.r 10 = mv ∧ F.r 11 = vint (k : Nat)) ?_ (s := 0)
    (.inl ⟨_, none, SameX.refl, by omega, ownX_nil, by simp, ds, r1, r5, r7, r8, r9, rfl, rfl⟩)
  clear ds r1 r5 r7 r8 r9 okc hnc
  rintro k F H5 ⟨mv, mo, S5, hk, Om, hmo, ds, r1, r5, r7, r8, r9, r10, r11⟩ okc hnc
  have c5 := S5.get c4 (by simp)
  have t5 := talAt_same t4 S5 (by simp)
  rw [s60_4, r1, r5, r7, r8, r9, r10, r11, ds]
  refine lssI (cndI (fun hlt2 => ?_) fun hge2 => ?_)
  · have hkl : k < l.length := by omega
    have hx := List.getElem?_eq_getElem hkl
    have hb := hlb _ (List.getElem_mem hkl)
    refine (L'.keep S5).get hl fun q ev b Ob _ => idx_load (ownX_sli Ob) ⟨by omega, by omega⟩ (x := vint l[k]) (by rw [Int.toNat_natCast, List.getElem?_map, hx]; rfl) fun q2 => ?_
    refine idx_load (ownX_sli (ownX_keep O4 S5 (by simp))) ⟨by omega, by omega⟩ (x := vint ((menR t).getD l[k].toNat 0)) (by
      rw [List.getElem?_map, List.getD_eq_getElem?_getD, List.getElem?_eq_getElem (show l[k].toNat < (menR t).length by omega)]
      rfl) fun q3 => ⟨by decide, fill1 rfl rfl (by decide) (fillI (qNew fun H7 p7 e7 S7 c7 l7 => ⟨by decide, ?_⟩))⟩
    refine ownX_more (ownX_keep Om S7 (by simp)) (by omega) (by omega) (ownX_sli (ownX_new (n := 1) (l := [vint ((menR t).getD l[k].toNat 0)]) c7 rfl rfl)) fun v8 H8 p8 e8 O8 S8 => addI (by omega) ⟨k + 1, by dsimp only; omega, .inl ⟨v8, some p8, (S5.trans S7).thru S8 (fun y hy => .inr (hmo y (Option.mem_toList.1 hy))), by omega, ?_, fun y hy => ?_, ds, r1, r5, r7, r8, r9, rfl, by show vint _ = vint _; congr 1⟩⟩
    · rw [List.take_add_one, hx, List.map_append, List.map_append]
      exact O8
    · cases hy
      have := S5.1
      have := S7.1
      omega
  · have hke : k = l.length := by omega
    subst hke
    rw [List.take_length] at Om
    have hml : (l.map fun k => (menR t).getD k.toNat 0).length = l.length := by rw [List.length_map]
    have Om' : OwnX H5 1 ((l.map fun k => (menR t).getD k.toNat 0).map vint) (l.map fun k => (menR t).getD k.toNat 0).length mv mo := by rw [hml]; exact Om
    have lp5 := lt_of_get c5
    refine ⟨[p1], load_part (c := talCells t cv nv) c5 (by rw [cs_val]; omega) rfl (talAt_kc t5) ⟨by simp [RdOk, ptr, ptrBlk], load_part (c := talCells t cv nv) c5 (by rw [cs_val]; omega) rfl (talAt_kc t5) ⟨by simp [RdOk, ptr, ptrBlk], ?_⟩⟩⟩
    have sb : ∀ {Hn}, SameX [] H5 Hn → SameB (some [p1]) H5 Hn := fun S' x hx => S'.2 x (by simp at hx; omega) (by simp)
    refine good64 hJ t5 (ownX_sli Om') (by omega) (by omega) fun H6 w o6 S6 O6 => ⟨sb S6, ?_⟩
    have hbl := byTo_le t (l.map fun k => (menR t).getD k.toNat 0) t.counts.length
    refine good63 hJ (talAt_same t5 S6 (by simp)) (ownX_sli O6) (by omega) (by omega) fun H7 nv7 S7 T7 => ⟨sb (S6.trans S7), ?_⟩
    have hol := outTo_le (byTo t (l.map fun k => (menR t).getD k.toNat 0) t.counts.length) t.counts.length
    have wf := with_fine fine (l := outTo (byTo t (l.map fun k => (menR t).getD k.toNat 0) t.counts.length) t.counts.length) (by omega) (fun x hx => outTo_mem hx)
    refine good81 hJ T7 wf ⟨sb (S6.trans S7), ?_⟩
    have hbits := str_bits hfew (l := l) (fun x hx => by have := hlb x hx; omega)
    rw [men_truth hfew hbits]
    have T67 : SameX [] H4 H7 := S5.trans (S6.trans S7)
    have TT : SameX [] H H7 := (((S1.trans S).trans S2).trans T4).trans T67
    cases hT : truthS t (strU (setsR t) l) with
    | true =>
      have hO : menO t = some l := by
        unfold menO
        rw [hn]
        exact firstN_some (k := m) (by omega) hno (find_at (p := fun r => truthS t (strU (setsR t) r)) hl hni hT)
      have hE : wrongE t = 0 := by unfold wrongE; rw [if_neg (not_not_intro h0), men_any hfew hO]; rfl
      have hL : menL t = l.map fun k => (menR t).getD k.toNat 0 := by unfold menL; rw [if_pos hE, hO]; rfl
      refine cnd_true.2 (retL_same (nu2 (own_nunk Om) (by simp [unk])) ?_)
      have := hK H7 mv TT (by
        rw [hL]
        exact (S6.trans S7).sli (ownX_sli Om') (by simp))
      rw [hE] at this
      exact this
    | false =>
      refine cnd_false.2 (addI (by omega) ⟨i + 1, by dsimp only; omega, .inl ⟨S4.trans T67, by omega, fun j l' hj hjl => ?_, ds, r1, r5, r7, r8, by show vint _ = vint _; congr 1⟩⟩)
      by_cases e : j = i
      · rw [e, hl] at hjl
        injection hjl with hjl
        rw [← hjl]
        exact hT
      · exact hni j l' (by omega) hjl
end
abbrev TV := Tal × Value × Value
def tvC (x : TV) : List Value := talCells x.1 x.2.1 x.2.2
theorem tvC_len (x : TV) : (tvC x).length = 6 := rfl
theorem tvC_flat : ∀ xs : List TV, (xs.flatMap tvC).length = xs.length * 6
  | [] => rfl
  | x :: xs => by rw [List.flatMap_cons, List.length_append, tvC_flat xs, tvC_len, List.length_cons]; omega
theorem addR {t : TypeId} {x : Value} {a b : Int} {KV : Value → Prop} (hx : x = vint a) (h : -9223372036854775808 ≤ a + b ∧ a + b < 9223372036854775808) (hk : KV (vint (a + b))) : aBin prog .add t x (vint b) KV := by
  subst hx
  exact addI h hk
theorem w4 {z a b c d : Value} : wrAt (wrAt (wrAt (wrAt (zrep [z] 4) 0 [a]) 1 [b]) 2 [c]) 3 [d] = [a, b, c, d] := by kernel_rfl
theorem w18 {z0 z1 z2 z3 z4 z5 a0 a1 a2 a3 a4 a5 b0 b1 b2 b3 b4 b5 c0 c1 c2 c3 c4 c5 : Value} :
    wrAt (wrAt (wrAt (zrep [z0, z1, z2, z3, z4, z5] 3) 0 [a0, a1, a2, a3, a4, a5]) 6 [b0, b1, b2, b3, b4, b5]) 12 [c0, c1, c2, c3, c4, c5] =
      [a0, a1, a2, a3, a4, a5, b0, b1, b2, b3, b4, b5, c0, c1, c2, c3, c4, c5] := by kernel_rfl
theorem z18 {z0 z1 z2 z3 z4 z5 : Value} : (zrep [z0, z1, z2, z3, z4, z5] 3).length = 18 := by kernel_rfl
theorem fill18 {x y z : TV} {KL : List Value → Prop} (hx : (tvC x).all one = true) (hy : (tvC y).all one = true) (hz : (tvC z).all one = true) (hk : KL ([x, y, z].flatMap tvC)) :
    aFill (zrep [vint 0, vint 0, vint 0, .slice none 0 0, vint 0, .slice none 0 0] 3) [(0, 6, .agg ⟨tvC x⟩), (6, 6, .agg ⟨tvC y⟩), (12, 6, .agg ⟨tvC z⟩)] KL := by
  unfold aFill
  refine ⟨rfl, hx, by rw [z18]; decide, ?_⟩
  unfold aFill
  refine ⟨rfl, hy, by rw [wrAt_length, z18]; decide, ?_⟩
  unfold aFill
  refine ⟨rfl, hz, by rw [wrAt_length, wrAt_length, z18]; decide, ?_⟩
  unfold aFill
  show KL (wrAt (wrAt (wrAt _ 0 (tvC x)) 6 (tvC y)) 12 (tvC z))
  unfold tvC talCells
  rw [w18]
  exact hk
theorem find_len {t : Tal} {n N : Nat} {p : Nat → List Int → Bool} {l : List Int} (h : firstN (fun m => (picksR n m 0).find? (p m)) N = some l) : l.length < N := by
  obtain ⟨k, hk, _, hf⟩ := firstN_iff h
  have := (picksR_mem (List.mem_of_find?_eq_some hf)).1
  omega
theorem opt_len {o : Option (List Int)} {N : Nat} (h : ∀ l, o = some l → l.length < N) : (o.getD []).length ≤ N := by
  cases o with
  | none => exact Nat.zero_le _
  | some l => exact Nat.le_of_lt (h l rfl)
theorem wrongL_len (t : Tal) : (wrongL t).length ≤ t.counts.length + 1 := by
  unfold wrongL
  split
  · exact opt_len fun l hl => by
      rw [wrongP_find] at hl
      exact find_len (t := t) hl
  · exact Nat.zero_le _
theorem clashL_len (t : Tal) : (clashL t).length ≤ t.counts.length + 1 := by
  unfold clashL
  split
  · exact opt_len fun l hl => by
      rw [clashP_find] at hl
      exact find_len (t := t) hl
  · exact Nat.zero_le _
theorem menL_len (t : Tal) : (menL t).length ≤ t.counts.length + 1 := by
  unfold menL
  split
  · rw [List.length_map]
    have := menR_few (t := t)
    have := opt_len (o := menO t) (N := (menR t).length + 1) fun l hl => by
      unfold menO at hl
      exact find_len (t := t) hl
    omega
  · exact Nat.zero_le _
section
variable {W0 : World} {Post : Value → World → Prop} {h : List AObj} {K : Value → List AObj → Prop} {n0 : Nat}
theorem same27 {main : Bool} {J : JT} (hJ : Closed prog main J) {H : List AObj} {av bv : Value} {l : List Int} (ha : Sli H av 1 l.length (l.map vint)) (hb : Sli H bv 1 l.length (l.map vint)) (hl : l.length < 1000000) (hK : K (.bool true) H) : Good prog J 27 [av, bv] H K :=
  good27 hJ ha hb (by omega) (by rw [decide_eq_true rfl]; exact hK)
theorem loop15 {H0 : List AObj} {p9 : Nat} {xs : List TV} {F : RG}
    (t0 : F.ds = []) (t9 : F.r 9 = .slice (some ⟨p9, 0, none⟩) 3 3) (t10 : F.r 10 = vint (0 : Nat))
    (h9 : H0[p9]? = some (.cells (xs.flatMap tvC) true 0))
    (lx : xs.length = 3) (hx : ∀ x ∈ xs, TalAt H0 (.agg ⟨tvC x⟩) x.1 x.2.1 x.2.2 ∧ x.1.changes.length < 900 ∧ x.1.counts.length < 900)
    (fin : ∀ H, Good prog (J1 prog W0 Post) 18 [] H fun v h' => retL n0 K [] [v] h') :
    Sem (J1 prog W0 Post) 145 n0 15 (subC [1, 1, 1, 1, 1, 1, 0, 1, 0] (codeOf f15)) F H0 (contX pl15 prog (J1 prog W0 Post) 145 n0 15 ct15 [1, 1, 1, 1, 1, 1, 0, 1, 0] (codeOf f15) [] (RetQ prog [.tmp 6] n0 K)) := by
  have hJ := J1.closed prog W0 Post
  refine l15_2 hJ (fun i : Nat => 3 - i) (fun i f H => Sm H0 H ∧ i ≤ 3 ∧ f.ds = [] ∧ f.r 9 = .slice (some ⟨p9, 0, none⟩) 3 3 ∧ f.r 10 = vint (i : Nat)) ?_ (s := 0)
    (.inl ⟨Sm.refl, by omega, t0, t9, t10⟩)
  rintro i f H ⟨S, hi, hds, r9, r10⟩ ok' hn'
  rw [s15_2, r9, r10, hds, lenS]
  refine lssI (cndI (fun hlt => ?_) fun hge => fin _)
  have hi3 : i < 3 := by omega
  obtain ⟨tx, lx1, lx2⟩ := hx xs[i] (List.getElem_mem (by omega))
  have hft := flat_take tvC_len xs i (by omega)
  have hfl : (xs.flatMap tvC).length = 18 := by rw [tvC_flat, lx]
  generalize xs[i] = x at *
  have kx : kn (tvC x) = true := talAt_kc tx
  have idx : ∀ {H' : List AObj} {KI : Value → Value → Prop}, Sm H0 H' → (KI (ptr p9 (i * 6)) (.agg ⟨tvC x⟩)) → aIdx 6 (.slice (some ⟨p9, 0, none⟩) 3 3) (vint (i : Nat)) fun v => aLoad true 6 v H' (KI v) := fun S' hk => by
    refine idxI ⟨by omega, by omega⟩ ?_
    rw [Int.toNat_natCast, Nat.zero_add]
    exact load_part (c := tvC x) (S'.at h9) (by omega) hft kx hk
  refine idx S (good38 hJ (S.tal tx) ⟨by omega, by omega⟩ fun H1 cv' nv' o1 o2 S1 O1 O2 _ _ _ => ?_)
  have ta1 : TalAt H1 (.agg ⟨talCells x.1 cv' nv'⟩) x.1 cv' nv' := ⟨rfl, ownX_sli O1, ownX_sli O2⟩
  refine qAl fun H2 p11 e2 S2 c2 l2 => qStA (c := talCells x.1 cv' nv') c2 rfl rfl (tal_one ta1) fun H3 S3 c3 l3 => ?_
  have S13 : SameX [] H1 H3 := (SameX.refl.trans S2).thru S3 (by simp; omega)
  have M3 : Sm H0 H3 := S.trans (Sm.of (S1.trans S13))
  have ta3 := talAt_same ta1 S13 (by simp)
  have lw := wrongL_len x.1
  have lc := clashL_len x.1
  have lm := menL_len x.1
  refine load_part (c := talCells x.1 cv' nv') c3 (by rw [cs_val]; omega) rfl (talAt_kc ta3) (good33 hJ ta3 fun H4 wa S4 Wa => ext0 (ext1 ?_))
  refine idx (M3.trans (Sm.of S4)) (good57 hJ ((M3.trans (Sm.of S4)).tal tx) fun H5 wb S5 Wb => ext0 (ext1 ?_))
  have S35 := S4.trans S5
  refine load_part (c := talCells x.1 cv' nv') (S35.get c3 (by simp)) (by rw [cs_val]; omega) rfl (talAt_kc ta3) (good32 hJ (talAt_same ta3 S35 (by simp)) fun H6 ca S6 Ca => ext0 (ext1 ?_))
  have S36 := S35.trans S6
  refine idx (M3.trans (Sm.of S36)) (good58 hJ ((M3.trans (Sm.of S36)).tal tx) fun H7 cb S7 Cb => ext0 (ext1 ?_))
  have S37 := S36.trans S7
  refine load_part (c := talCells x.1 cv' nv') (S37.get c3 (by simp)) (by rw [cs_val]; omega) rfl (talAt_kc ta3) (good59 (talAt_same ta3 S37 (by simp)) fun H8 ma M8 Ma => ext0 (ext1 ?_))
  have M38 : Sm H3 H8 := (Sm.of S37).trans M8
  refine idx (M3.trans M38) (good60 hJ ((M3.trans M38).tal tx) fun H9 mb S9 Mb => ext0 (ext1 ?_))
  have M89 := Sm.of S9
  have M79 : Sm H7 H9 := M8.trans M89
  have M39 := M38.trans M89
  have Wa9 := (((Sm.of S5).trans (Sm.of S6)).trans ((Sm.of S7).trans M79)).sli Wa
  have Wb9 := ((Sm.of S6).trans ((Sm.of S7).trans M79)).sli Wb
  have Ca9 := ((Sm.of S7).trans M79).sli Ca
  have Cb9 := M79.sli Cb
  have Ma9 := M89.sli Ma
  have d9 := (M3.trans M39).at h9
  have d11 := M39.at c3
  have ta9 := M39.tal ta3
  have tx9 := (M3.trans M39).tal tx
  refine ⟨[p11, p9], neqI (cndI (fun hx => absurd rfl hx) fun _ => neqI (cndI (fun hx => absurd rfl hx) fun _ => neqI (cndI (fun hx => absurd rfl hx) fun _ => ?_)))⟩
  refine same27 hJ Wa9 Wb9 (by omega) ⟨fun _ _ => rfl, notI (cnd_false.2 ?_)⟩
  refine same27 hJ Ca9 Cb9 (by omega) ⟨fun _ _ => rfl, notI (cnd_false.2 ?_)⟩
  refine same27 hJ Ma9 Mb (by omega) ⟨fun _ _ => rfl, notI (cnd_false.2 ?_)⟩
  refine load_part (c := talCells x.1 cv' nv') d11 (by rw [cs_val]; omega) rfl (talAt_kc ta9) ⟨by simp [RdOk, ptr, ptrBlk], ?_⟩
  refine idx (M3.trans M39) ⟨by simp [RdOk, ptr, ptrBlk], ?_⟩
  refine good48 hJ ta9 tx9 ⟨by omega, by omega⟩ (notI (hold.2 ?_))
  rw [s15_3]
  show cnd (.bool false) _ _
  refine cnd_false.2 ?_
  show aBin prog .add 3 (f.r 10) (vint 1) _
  refine addR (a := (i : Int)) r10 (by omega) ?_
  exact ⟨i + 1, by dsimp only; omega, .inl ⟨M3.trans M39, by omega, hds, r9, by show vint _ = vint _; congr 1⟩⟩
theorem rest15 {F : RG} {b : Bool} {nv ct nt : Value} {p5 p6 : Nat} {t : Tal} {c : Cnt} {ns : List Int} (sn : Sli h nv 1 ns.length (ns.map vint)) (hln : ns.length < 4611686018427387904)
    (hs : b = false → t.changes.length ≤ 20 ∧ t.counts.length ≤ 20) (ht : TalAt h (.agg ⟨talCells t ct nt⟩) t ct nt) (c5 : h[p5]? = some (.cells (talCells t ct nt) true 0)) (c6 : h[p6]? = some (.cells c.cells true 0))
    (f0 : F.ds = []) (f2 : F.r 2 = nv) (f3 : F.r 3 = ptr p5 0) (f4 : F.r 4 = ptr p6 0) (f37 : F.r 37 = .bool b)
    (fin : ∀ H, Good prog (J1 prog W0 Post) 18 [] H fun v h' => retL n0 K [] [v] h') :
    W prog (J1 prog W0 Post) 145 n0 15 (subC [1, 0, 1] (codeOf f15)) F h (contX pl15 prog (J1 prog W0 Post) 145 n0 15 ct15 [1, 0, 1] (codeOf f15) [] (RetQ prog [.tmp 6] n0 K)) := by
  have hJ := J1.closed prog W0 Post
  rw [s15_1, f0, f2, f3, f4, f37]
  cases b with
  | true => exact cnd_true.2 (fin _)
  | false =>
  have hsm := hs rfl
  refine cnd_false.2 (newX hJ sn hln fun H0 a0 => talX hJ a0 (by omega) (by omega) (by omega) fun t2 cv co H1 T S1 a1 ta => ?_)
  have fine := T.fine (by omega) (by omega)
  have hchl := fine.chl
  have hcol := fine.few
  have hg := fine.gates
  have hla0 := a0.lt
  have hS1 := S1.1
  refine qAl fun H2 p7 e2 S2 c2 l2 => qStA (c := talCells t2 cv co) c2 rfl rfl (tal_one ta) fun H3 S3 c3 l3 => ?_
  have S13 : SameX [] H1 H3 := (SameX.refl.trans S2).thru S3 (by simp; omega)
  have ta3 := talAt_same ta S13 (by simp)
  have a3 := a1.same S13 (by simp)
  refine load_part (c := talCells t2 cv co) c3 (by rw [cs_val]; omega) rfl (talAt_kc ta3) (good38 hJ ta3 ⟨by omega, by omega⟩ fun H4 cv4 nv4 o1 o2 S4 O1 O2 o12 ho1 ho2 => ?_)
  have ta4 : TalAt H4 (.agg ⟨talCells t2 cv4 nv4⟩) t2 cv4 nv4 := ⟨rfl, ownX_sli O1, ownX_sli O2⟩
  refine qAl fun H5 p8 e5 S5 c5' l5 => qStA (c := talCells t2 cv4 nv4) c5' rfl rfl (tal_one ta4) fun H6 S6 c6' l6 => ?_
  have S46 : SameX [] H4 H6 := (SameX.refl.trans S5).thru S6 (by simp; omega)
  have S36 : SameX [] H3 H6 := S4.trans S46
  have hS4 := S4.1
  have b06 : SameX [] h H6 := (a3.same S36 (by simp)).pre
  have kc4 : kn1 cv4 = true ∧ kn1 nv4 = true := ⟨(sli_one ta4.ch).2.2, (sli_one ta4.co).2.2⟩
  refine offI (ldI (v := nv4) c6' rfl kc4.2 ?_)
  have d6 := b06.get c6 (by simp)
  refine load_part (c := c.cells) d6 (by simp [Cnt.cells]) rfl rfl ?_
  refine ⟨by decide, fill_four (l := c.cells) rfl rfl rfl (by decide) (fillI (qNew fun H7 pc e7 S7 c7 l7 => ⟨by decide, ?_⟩))⟩
  have c7 : H7[pc]? = some (.cells c.cells true 0) := c7
  have S47 : SameX [] H4 H7 := S46.trans S7
  refine ownX_more (ownX_keep O2 S47 (by simp)) (by omega) (by omega) (ownX_sli (ownX_new (s := 4) (n := 1) (l := c.cells) c7 rfl rfl)) fun nv8 H8 q8 e8 O8 S8 => offI ?_
  have hS7 := S7.1
  have hS5 := S5.1
  have hS36 := S36.1
  have l8 : h.length < H3.length := by have := a3.lt; omega
  have ho2' := ownX_lt O2 o2 rfl
  have ho1' := ownX_lt O1 o1 rfl
  have S38 : SameX [] H3 H8 := (S36.trans S7).thru S8 (fun y hy => .inr (by
    have hy : y = o2 := by simpa using hy
    omega))
  have c8 : H8[p8]? = some (.cells (talCells t2 cv4 nv4) true 0) := S8.get (S7.get c6' (by simp)) (by simp; omega)
  refine qSt c8 (by rw [cs_val]; omega) (ownX_val O8).1 (ownX_val O8).2.1 fun H9 S9 c9 l9 => ?_
  have c9 : H9[p8]? = some (.cells (talCells (addT t2 c) cv4 nv8) true 0) := c9
  have O9 := ownX_keep O8 S9 (fun i hi => by cases hi; simp; omega)
  have S39 : SameX [] H3 H9 := S38.thru S9 (by simp; omega)
  have b09 := (a3.same S39 (by simp)).pre
  have ch9 := ownX_keep (ownX_keep (ownX_keep O1 S47 (by simp)) S8 (fun i hi => by cases hi; simp; omega)) S9 (fun i hi => by cases hi; simp; omega)
  have tc9 : TalAt H9 (.agg ⟨talCells (addT t2 c) cv4 nv8⟩) (addT t2 c) cv4 nv8 := ⟨rfl, ownX_sli ch9, by have := ownX_sli O9; simpa [addT, SliE] using this⟩
  have t9 := talAt_same ht b09 (by simp)
  have ta9 := talAt_same ta3 S39 (by simp)
  have d3 := S39.get c3 (by simp)
  refine load_part (c := talCells t ct nt) (b09.get c5 (by simp)) (by rw [cs_val]; omega) rfl (talAt_kc t9) ?_
  refine load_part (c := talCells t2 cv co) d3 (by rw [cs_val]; omega) rfl (talAt_kc ta9) ?_
  refine load_part (c := talCells (addT t2 c) cv4 nv8) c9 (by rw [cs_val]; omega) rfl (talAt_kc tc9) ?_
  refine ⟨by decide, fill18 (x := (t, ct, nt)) (y := (t2, cv, co)) (z := (addT t2 c, cv4, nv8)) (tal_one t9) (tal_one ta9) (tal_one tc9) (qNew fun Hc pc ec Sc cc lc => ?_)⟩
  refine loop15 (xs := [(t, ct, nt), (t2, cv, co), (addT t2 c, cv4, nv8)]) f0 rfl rfl cc rfl (fun x hx => ?_) fin
  have hcl : (addT t2 c).counts.length = t2.counts.length + 1 := by simp [addT]
  have hch : (addT t2 c).changes.length = t2.changes.length := rfl
  simp only [List.mem_cons, List.not_mem_nil, or_false] at hx
  rcases hx with rfl | rfl | rfl
  · exact ⟨talAt_same t9 Sc (by simp), by show t.changes.length < 900; omega, by show t.counts.length < 900; omega⟩
  · exact ⟨talAt_same ta9 Sc (by simp), by show t2.changes.length < 900; omega, by show t2.counts.length < 900; omega⟩
  · exact ⟨talAt_same tc9 Sc (by simp), by show (addT t2 c).changes.length < 900; omega, by show (addT t2 c).counts.length < 900; omega⟩
theorem walk15 {tv ct nt nv : Value} {t : Tal} {c : Cnt} {ns : List Int} (ht : TalAt h tv t ct nt) (sn : Sli h nv 1 ns.length (ns.map vint)) (hln : ns.length < 4611686018427387904) (hK : ∀ h', K (.bool true) h') :
    W prog (J1 prog W0 Post) 145 h.length 15 (codeOf f15) (RG.mk (regs [tv, c.val, nv]) []) h (RetQ prog [.tmp 6] h.length K) := by
  have hJ := J1.closed prog W0 Post
  rw [e15, ht.val]
  have fin : ∀ {n0 : Nat} (H : List AObj), Good prog (J1 prog W0 Post) 18 [] H fun v h' => retL n0 K [] [v] h' := fun H => good18 hJ (retL_same (by simp [unk]) (hK _))
  refine qBox (tal_one ht) fun Ha p5 ea Sa ca la => ?_
  show aBox (.agg ⟨c.cells⟩) Ha _
  refine qBox rfl fun Hb p6 eb Sb cb lb => ?_
  have Sab := Sa.trans Sb
  have cab := Sb.get ca (by simp)
  have tb : TalAt Hb (.agg ⟨talCells t ct nt⟩) t ct nt := ⟨rfl, Sab.sli ht.ch (by simp), Sab.sli ht.co (by simp)⟩
  have kc : kn1 ct = true ∧ kn1 nt = true := ⟨(sli_one ht.ch).2.2, (sli_one ht.co).2.2⟩
  have snb := Sab.sli sn (by simp)
  refine load_part (c := talCells t ct nt) cab (by rw [cs_val]; omega) rfl (talAt_kc tb) ?_
  refine good43 hJ tb (cndI (fun _ => hold.2 (rest15 (b := true) snb hln (fun h => by cases h) tb cab cb rfl rfl rfl rfl rfl fin)) fun hsm => ?_)
  refine offI (ldI (v := nt) cab rfl kc.2 (lenI tb.co (gtrI (cndI (fun _ => ?_) fun _ => ?_))))
  · refine offI (ldI (v := nt) cab rfl kc.2 (lenI tb.co (leqI (hold.2 (rest15 snb hln (fun _ => by omega) tb cab cb rfl rfl rfl rfl rfl fin)))))
  · exact hold.2 (rest15 (b := false) snb hln (fun _ => by omega) tb cab cb rfl rfl rfl rfl rfl fin)
end
end Go.Proofs.Ytdgpacdknpahnaa
namespace Go.Proofs.Ytdgpacdknpahnaa
open Go.Conc
section
variable {P : Program} {W0 : World} {Post : Value → World → Prop} {ρ : Env} {h : List AObj} {FC : Frm} {w : World} {ft : Foot} {f : RG} {a : Act} {b : FB} {K : Value → List AObj → Prop} {n0 : Nat}
theorem leave_top {fn : Func} (hk : b.kind = .normal) (hf : P.funcs[b.fn]? = some fn) (hin : P.inits.idxOf? b.fn = none)
    (hc : ∀ v h' ρ' w' ft' cv, K v h' → HRel ρ' h' FC w' ft' → Env.upto n0 ρ ρ' → n0 ≤ h'.length → VRel h'.length ρ' v cv → Base W0 w' → Post cv w') :
    ∀ (ds : List Nat) (h : List AObj) (w : World) (ft : Foot) (a : Act) (fr : Frame), fr.fn = b.fn → fr.kind = .normal → fr.mode = .returning → fr.tmps = a.tmps → fr.defers = ds.map (fun d => { target := .collected (ρ.blk d), args := #[] }) → RegRel h.length ρ f.r a.tmps → HRel ρ h FC w ft → n0 ≤ h.length →
      takeW ds h (fun h => resW P fn.results.toList f.r h fun vs => K (pack vs) h ∨ ∃ σ h' v, GC n0 σ h h' ∧ pack vs = sub σ v ∧ VOk h'.length v ∧ K v h') → J1 P W0 Post (G fr []) w ft
  | [], h, w, ft, a, fr, e1, e2, e3, e4, e5, hr, H, hn, hq => by
    obtain ⟨fn', tmps, todo, defers, mode, kind, ro⟩ := fr
    simp only at e1 e2 e3 e4 e5
    subst e1 e2 e3 e4 e5
    refine J1.both rfl fun w₁ h₁ hbase => .inr ?_
    have H₁ := H.rely h₁
    have hrun : RunsTo P (EvOk ft) (results fn a.tmps) w₁ fun cv w' => w' = w₁ ∧ ∃ vs, cv = ren ρ (pack vs) ∧ (∀ v ∈ vs, VOk h.length v) ∧ (K (pack vs) h ∨ ∃ σ h' v, GC n0 σ h h' ∧ pack vs = sub σ v ∧ VOk h'.length v ∧ K v h') := by
      unfold results
      have : (fn.results.mapM (resF a.tmps)) = List.toArray <$> fn.results.toList.mapM (resF a.tmps) := by
        rw [Array.mapM_eq_mapM_toList]
      show RunsTo P (EvOk ft) (do
        let vs ← fn.results.mapM (resF a.tmps)
        pure (if h : vs.size = 1 then vs[0] else .tuple vs)) w₁ _
      rw [this]
      refine RunsTo.bind (RunsTo.map (res_run (n := 0) H₁ hr fn.results.toList hq fun vs hvs hok => RunsTo.pure ⟨rfl, vs, ?_, hok, hvs⟩))
      exact pack_ren vs
    obtain ⟨cv, w', es, hr', he, rfl, vs, rfl, hvok, hvs⟩ := hrun #[] (by simp)
    have hes : ∀ e ∈ seen P b.fn es, EvOk ft e := fun e hm => he e (mem_seen hm)
    refine ⟨ren ρ (pack vs), seen P b.fn es, ?_, hes, ?_⟩
    · simp only [G, stepG, unwind, List.map_nil, hf, hr']
      simp [doReturn, GStep.after, hin]
    · rcases hvs with hK | ⟨σ, h', v, g, hp, hok, hK⟩
      · exact hc _ h _ w' ft _ hK H₁ (Env.upto_refl _ _) hn (.inr ⟨pack_ok hvok, rfl⟩) hbase
      · rw [hp, ren_sub]
        exact hc v h' _ w' ft _ hK (g.rel H₁) g.upto g.le (.inr ⟨hok, rfl⟩) hbase
  | d :: ds, h, w, ft, a, fr, e1, e2, e3, e4, e5, hr, H, hn, hq => by
    obtain ⟨fn', tmps, todo, defers, mode, kind, ro⟩ := fr
    simp only at e1 e2 e3 e4 e5
    subst e1 e2 e3 e4 e5
    obtain ⟨hd, hq⟩ := hq
    refine (J1.closed P W0 Post).step rfl fun w₁ h₁ => ?_
    have H₁ := H.rely h₁
    obtain ⟨cv, w', es, hr', he, rfl, H', hst, hsz⟩ := take_run (P := P) H₁ hd (Q := fun l w' => l = [] ∧ HRel ρ (h.set d .dead) FC w' ft ∧ Stays ft w₁ w' ∧ w'.heap.size = w₁.heap.size) (fun w' a1 a2 a3 => ⟨rfl, a1, a2, a3⟩) #[] (by simp)
    have hes : ∀ e ∈ seen P b.fn es, EvOk ft e := fun e hm => he e (mem_seen hm)
    refine ⟨G { fn := b.fn, tmps := a.tmps, todo := todo, defers := ds.map (fun d => { target := .collected (ρ.blk d), args := #[] }), mode := .returning, kind := .normal, roundOf := ro } [], w', seen P b.fn es, ?_, rfl, hst.guar hes, ?_⟩
    · simp only [G, stepG, unwind, List.map_cons, hr']
      simp [GStep.after]
    · rw [hsz, Foot.ext_self]
      exact leave_top hk hf hin hc ds _ w' ft a _ rfl rfl rfl rfl rfl (by rw [List.length_set]; exact hr) H' (by rw [List.length_set]; exact hn) hq
theorem top_of_W (hm : P.follows .mixedOrders = true) {g : FuncId} {fn : Func} (hf : P.funcs[g]? = some fn) {c : Code} (hb : fn.body = some c) (hin : P.inits.idxOf? g = none) {args : List Value} {cargs : Array Value} (ha : args.length ≤ fn.ntmps) (hl : cargs.size = args.length)
    (hr : ∀ i : Nat, VRel h.length ρ (args.getD i unk) (cargs.toList.getD i undef)) (H : HRel ρ h FC w ft)
    (hs : W P (J1 P W0 Post) fn.ntmps h.length g c ⟨regs args, []⟩ h (RetQ P fn.results.toList h.length K))
    (hc : ∀ v h' ρ' w' ft' cv, K v h' → HRel ρ' h' FC w' ft' → Env.upto h.length ρ ρ' → h.length ≤ h'.length → VRel h'.length ρ' v cv → Base W0 w' → Post cv w') : J1 P W0 Post (G (Frame.enter P g cargs .normal) []) w ft := by
  have hJ := J1.closed P W0 Post
  obtain ⟨cargs⟩ := cargs
  simp only at hl hr
  have he : Frame.enter P g ⟨cargs⟩ .normal = FB.at ⟨g, .normal, none⟩ ⟨⟨cargs⟩ ++ Array.replicate (fn.ntmps - cargs.length) undef, []⟩ [.code c] := by
    simp [Frame.enter, FB.at, hf, hb]
  rw [he]
  have A : ActRel h.length ρ fn.ntmps ⟨regs args, []⟩ ⟨⟨cargs⟩ ++ Array.replicate (fn.ntmps - cargs.length) undef, []⟩ := by
    refine ⟨fun t => ?_, by simp at hl ⊢; omega, rfl, by simp⟩
    have := hr t
    have ht : ((⟨cargs⟩ : Array Value) ++ Array.replicate (fn.ntmps - cargs.length) undef).getD t undef = cargs.getD t undef := by
      rw [Array.getD_eq_getD_getElem?, List.getD_eq_getElem?_getD]
      by_cases hx : t < cargs.length
      · rw [Array.getElem?_append_left (by simpa using hx)]
        simp
      · rw [Array.getElem?_append_right (by simp; omega), List.getElem?_eq_none (by omega)]
        simp only [Array.getElem?_replicate]
        split <;> rfl
    rw [ht]
    exact this
  have last : ∀ f' h' ρ' w' ft' a' todo, RetQ P fn.results.toList h.length K .ret f' h' → ActRel h'.length ρ' fn.ntmps f' a' → HRel ρ' h' FC w' ft' → Env.upto h.length ρ ρ' → h.length ≤ h'.length →
      J1 P W0 Post (G { (FB.at ⟨g, .normal, none⟩ a' todo) with mode := .returning } []) w' ft' := by
    intro f' h' ρ' w' ft' a' todo q A' H' hu hl
    exact leave_top (b := ⟨g, .normal, none⟩) (f := f') (n0 := h.length) (ρ := ρ') rfl hf hin (fun v h2 ρ2 w2 ft2 cv k H2 u2 l2 v2 => hc v h2 ρ2 w2 ft2 cv k H2 (Env.upto_trans hu u2) l2 v2) f'.ds h' w' ft' a' _ rfl rfl rfl rfl A'.defers A'.regs H' hl q
  refine W_sound hJ hm c hs ⟨g, .normal, none⟩ _ [] [] (fun jump a w ft => jump = some .ret ∧ ∀ todo, J1 P W0 Post (G { (FB.at ⟨g, .normal, none⟩ a todo) with mode := .returning } []) w ft) ρ FC w ft rfl (by simp) ?_ A H (Nat.le_refl _) ?_
  · rintro jump a w ft todo ⟨rfl, hj⟩ hh
    rcases hh with ⟨_, k, rfl⟩ | ⟨id, k, e, _⟩ | ⟨e, _⟩
    · exact hJ.ctrl rfl rfl (fun w => by simp [G, stepG, stepG.exec, FB.at]) (hj (.code .ret :: k))
    · cases e
    · cases e
  · intro e f' h' ρ' w' ft' a' q A' H' hu hl
    cases e with
    | normal => exact hJ.ctrl rfl rfl (fun w => by simp [G, stepG, stepG.exec, FB.at]) (last f' h' ρ' w' ft' a' [] q A' H' hu hl)
    | ret => exact ⟨rfl, fun todo => last f' h' ρ' w' ft' a' todo q A' H' hu hl⟩
    | exit id => exact q.elim
    | goto l => exact q.elim
    | panic l => exact q.elim
    | outgrown => exact q.elim
theorem run_of_J1 {g : Goroutine} {w : World} {ft : Foot} (h : J1 P W0 Post g w ft) (hb : ∀ b, ft.rd b → b < w.heap.size) (hs : ∀ b, ft.wr b → ft.rd b) (hw : W0 = w) : Ends P Post (solo g w) #[] := by
  rw [solo_eq_crowd]
  exact h #[g] w none #[] (fun _ => 0) hb hs (RelyW.refl _ _) (by subst hw; exact ⟨rfl, rfl, rfl, Nat.le_refl _⟩) rfl (leavers_one P g) (past_nil.mono (Nat.zero_le _))
end
end Go.Proofs.Ytdgpacdknpahnaa
namespace Go.Proofs.Ytdgpacdknpahnaa
open Go.Conc Go.RowKit
def idEnv : Env := ⟨fun b => b, fun _ => 0⟩
def startFt (w : World) : Foot := ⟨fun b => b < w.heap.size, fun _ => False⟩
def startFC (w : World) : Frm := ⟨fun b => w.heap[b]?, fun _ => False⟩
def Fine (n : Nat) (v : Value) : Prop := VOk n v ∧ one v = true ∧ ren idEnv v = v
open Classical in
noncomputable def clean (n : Nat) (v : Value) : Value := if Fine n v then v else unk
noncomputable def absO (n : Nat) : Obj → AObj
  | .cells c _ _ => .cells (c.toList.map (clean n)) false 0
  | _ => .dead
noncomputable def absH (w : World) : List AObj := w.heap.toList.map (absO w.heap.size)
section
variable {w w' : World} {n : Nat}
theorem clean_fine {v : Value} (h : Fine n v) : clean n v = v := by simp [clean, h]
theorem absH_len : (absH w).length = w.heap.size := by simp [absH]
theorem absH_get {b : Nat} : (absH w)[b]? = (w.heap[b]?).map (absO w.heap.size) := by simp [absH]
theorem absO_wrt (x : Obj) : (absO n x).wrt = false := by cases x <;> rfl
theorem start_rel (w : World) : HRel idEnv (absH w) (startFC w) w (startFt w) where
  obj := fun b o hb => by
    rw [absH_get] at hb
    obtain ⟨x, hx, rfl⟩ := Option.map_eq_some_iff.1 hb
    show ORel (absH w).length idEnv b (absO w.heap.size x) w.heap[b]?
    rw [absH_len, hx]
    cases x with
    | cells c ty fr =>
      refine ⟨fun i v hv => ?_, fun _ => by simp, fun hz => absurd rfl hz, fun e => by cases e⟩
      rw [List.getElem?_map] at hv
      obtain ⟨u, hu, rfl⟩ := Option.map_eq_some_iff.1 hv
      by_cases hf : Fine w.heap.size u
      · rw [clean_fine hf]
        exact .inr ⟨hf.1, hf.2.1, by rw [hf.2.2]; simpa using hu⟩
      · exact .inl ⟨by simp [clean, hf], rfl⟩
    | _ => trivial
  inj := fun b b' o o' _ _ _ _ e => e
  rd := fun b o hb _ => by
    have : b < (absH w).length := (List.getElem?_eq_some_iff.1 hb).1
    rw [absH_len] at this
    exact this
  wr := fun b o hb hw => by
    rw [absH_get] at hb
    obtain ⟨x, hx, rfl⟩ := Option.map_eq_some_iff.1 hb
    rw [absO_wrt] at hw
    cases hw
  lt := fun b hb => hb
  sub := fun b hb => hb.elim
  kept := fun b o hb => by
    refine ⟨hb, ?_, fun a oa ha hw => ?_⟩
    · exact (Array.getElem?_eq_some_iff.1 hb).1
    · rw [absH_get] at ha
      obtain ⟨x, hx, rfl⟩ := Option.map_eq_some_iff.1 ha
      rw [absO_wrt] at hw
      cases hw
  keptW := fun b hb => hb.elim
theorem absH_cell {b o : Nat} {v : Value} (hc : w.cell? ⟨b, o, none⟩ = some v) (hf : Fine w.heap.size v) : ∃ c, (absH w)[b]? = some (.cells c false 0) ∧ c[o]? = some v := by
  unfold World.cell? at hc
  simp only at hc
  split at hc
  · rename_i c ty fr hx
    refine ⟨c.toList.map (clean w.heap.size), by rw [absH_get, hx]; rfl, ?_⟩
    have hc' : c[o]? = some v := by simpa using hc
    rw [List.getElem?_map, Array.getElem?_toList, hc']
    simp [clean_fine hf]
  · cases hc
theorem below_of {ρ' : Env} {h' : List AObj} {ft' : Foot} (H : HRel ρ' h' (startFC w) w' ft') (B : Base w w') : Below w.heap.size w w' :=
  ⟨B.os, B.tape, B.output, B.size, fun k hk => by
    have : (startFC w).ob k = some w.heap[k] := by simp [startFC, hk]
    rw [(H.kept k _ this).1, Array.getElem?_eq_getElem hk]⟩
end
end Go.Proofs.Ytdgpacdknpahnaa
namespace Go.Proofs.Ytdgpacdknpahnaa
open Go.Conc Go.ChangeShapes Go.WideShapes Go.ChangeAt Go.RowKit Go.Proofs.Try
set_option maxRecDepth 100000
theorem own : ownKnob prog.godebug = none := by kernel_rfl
theorem laidOut : laidOutB prog = true := by kernel_rfl
def ArgOk (W : World) (v : Value) : Prop := VOk W.heap.size v ∧ ren idEnv v = v
theorem law_run1 {g : FuncId} {fn : Func} {c : Code} (hf : prog.funcs[g]? = some fn) (hb : fn.body = some c) (hin : prog.inits.idxOf? g = none) (W₀ : World) (args : List Value) (ha : args.length ≤ fn.ntmps) (hok : ∀ v ∈ args, ArgOk W₀ v)
    (walk : ∀ Post, W prog (J1 prog W₀ Post) fn.ntmps (absH W₀).length g c ⟨regs args, []⟩ (absH W₀) (RetQ prog fn.results.toList (absH W₀).length fun v _ => v = .bool true)) :
    Ends prog (fun v w' => v = .bool true ∧ Below W₀.heap.size W₀ w') (solo (G (Frame.enter prog g ⟨args⟩ .normal) []) W₀) #[] := by
  refine run_of_J1 (W0 := W₀) (ft := startFt W₀) (top_of_W mixed hf hb hin ha rfl (fun i => ?_) (start_rel W₀) (walk _) ?_) (fun b hb => hb) (fun b hb => hb.elim) rfl
  · show VRel (absH W₀).length idEnv (args.getD i unk) (args.getD i undef)
    simp only [List.getD_eq_getElem?_getD]
    cases hi : args[i]? with
    | none => exact .inl rfl
    | some v =>
      obtain ⟨h1, h2⟩ := hok v (List.mem_of_getElem? hi)
      exact .inr ⟨by rw [absH_len]; exact h1, h2.symm⟩
  · intro v h' ρ' w' ft' cv hv H' _ _ hcv hB
    subst hv
    refine ⟨?_, below_of H' hB⟩
    rcases hcv with e | ⟨_, e⟩
    · cases e
    · rw [e]
      rfl
theorem argOk_int {W : World} {k : IntKind} {n : Int} : ArgOk W (.int k n) := ⟨by simp [VOk], by simp [ren]⟩
section
variable {H : Type} {enc : TypeId × Value → H}
theorem arg_ints {t e : TypeId} (ht : prog.underlying t = some (.slice e)) (he : prog.underlying e = some (.int .i64)) (hc : prog.cellsOf e = 1) {W : World} {base : Nat} {v : Value} {d : DataW H} {ps : List MemPlace}
    (hval : Value.okWide prog W .any base t v) (hd : DataW.Trod enc prog W 0 (fun _ => true) true t v d ps) :
    ∃ zs : List Int, Sli (absH W) v 1 zs.length (zs.map vint) ∧ ArgOk W v ∧ (zs = [] ∨ ∃ es sp, d = .slice es sp ∧ zs.length ≤ es.length + sp.length) := by
  obtain ⟨a0, len, cap, rfl⟩ := okWide_slice ht hval
  obtain ⟨fuel, hf⟩ := hd
  rcases open_ints ht he hc hf with ⟨hcs, hx⟩ | ⟨a, len', cap', zs, hcs, _, hl, hm, hz, hx, hcell, hwz⟩
  · simp [Value.cells] at hcs
    obtain ⟨rfl, rfl, rfl⟩ := hcs
    exact ⟨[], sli_nil, ⟨by simp [VOk], by simp [ren]⟩, .inl rfl⟩
  · simp [Value.cells] at hcs
    obtain ⟨rfl, rfl, rfl⟩ := hcs
    simp only [Prod.mk.injEq] at hx
    obtain ⟨rfl, rfl⟩ := hx
    simp only [if_true] at hz
    simp only [Value.okWide, ht, Cell.okWide, Cell.ok, World.has] at hval
    obtain ⟨_, _, _, hspot, row, cells, hshape, _⟩ := hval
    obtain ⟨b, o, spot⟩ := a
    simp only at hspot hshape
    subst hspot
    have hb : b < W.heap.size := by
      unfold World.shape? at hshape
      split at hshape
      · rename_i h
        exact (Array.getElem?_eq_some_iff.1 h).1
      · cases hshape
    have hlen : (zs.take len).length = len := by simp; omega
    have hcell' : ∀ i, i < zs.length → W.cell? ⟨b, o + i, none⟩ = some (vint (zs.getD i 0)) := by
      intro i hi
      have := hcell i hi
      unfold Addr.add at this
      by_cases h0 : i = 0
      · subst h0; simpa using this
      · simpa [h0] using this
    have hmax : cap < fz := by
      simp only [maxLen] at hm
      unfold fz
      omega
    refine ⟨zs.take len, ?_, ⟨by simp only [VOk, AddrOk]; exact ⟨hb, trivial⟩, ?_⟩, .inr ⟨_, _, rfl, ?_⟩⟩
    · refine ⟨some ⟨b, o, none⟩, cap, by rw [hlen], ⟨by simp, kn_ints _⟩, .inr ⟨b, o, rfl, ?_⟩⟩
      rw [hlen]
      by_cases h0 : len = 0
      · exact .inl h0
      · right
        have fine : ∀ n : Int, Fine W.heap.size (vint n) := fun n => ⟨by simp [VOk], rfl, by simp [ren]⟩
        obtain ⟨c, hc1, hc2⟩ := absH_cell (hcell' 0 (by omega)) (fine _)
        refine ⟨c, false, 0, hc1, ?_⟩
        apply List.ext_getElem?
        intro i
        rw [Nat.mul_one]
        by_cases hi : i < len
        · obtain ⟨c', hc1', hc2'⟩ := absH_cell (hcell' i (by omega)) (fine _)
          rw [hc1] at hc1'
          cases hc1'
          rw [List.getElem?_take, if_pos hi, List.getElem?_drop, hc2']
          have hzi : i < zs.length := by omega
          simp [hi, hzi]
        · rw [List.getElem?_take, if_neg hi, List.getElem?_eq_none (by simp; omega)]
    · have hnf : ¬ fz ≤ cap := by omega
      simp [ren, renAddr, renCap, idEnv, hnf]
    · simp only [lits, List.length_map, List.length_take, List.length_drop]
      omega
end
theorem flat_get {α : Type} {enc : α → List Value} {s : Nat} (hen : ∀ x, (enc x).length = s) (xs : List α) {i j : Nat} (hi : i < xs.length) (hj : j < s) : (xs.flatMap enc)[i * s + j]? = (enc xs[i])[j]? := by
  have := flat_take hen xs i hi
  rw [← this, List.getElem?_take, if_pos hj, List.getElem?_drop]
theorem flat_len {α : Type} {enc : α → List Value} {s : Nat} (hen : ∀ x, (enc x).length = s) : ∀ xs : List α, (xs.flatMap enc).length = xs.length * s
  | [] => by simp
  | x :: xs => by rw [List.flatMap_cons, List.length_append, flat_len hen xs, hen, List.length_cons, Nat.succ_mul]; omega
theorem flat_kn {α : Type} {enc : α → List Value} (hk : ∀ x, kn (enc x) = true) : ∀ xs : List α, kn (xs.flatMap enc) = true
  | [] => rfl
  | x :: xs => by
    have h1 := hk x
    have h2 := flat_kn hk xs
    unfold kn at *
    rw [List.flatMap_cons, List.all_append, h1, h2]
    rfl
theorem trodAll_cons {H : Type} {enc : TypeId × Value → H} {P : Program} {w : World} {base : Nat} {spare : Nat → Bool} {held : Bool} {t : TypeId} {ts : List TypeId} {vs : List Value} {ds : List (DataW H)} {ps : List MemPlace}
    (h : DataW.TrodAll enc P w base spare held (t :: ts) vs ds ps) : ∃ v vs' d ds' p q, vs = v :: vs' ∧ ds = d :: ds' ∧ ps = p ++ q ∧ DataW.Trod enc P w base spare held t v d p ∧ DataW.TrodAll enc P w base spare held ts vs' ds' q := by
  match vs, ds, h with
  | v :: vs, d :: ds, ⟨p, q, h1, h2, h3⟩ => exact ⟨v, vs, d, ds, p, q, rfl, rfl, h3, h1, h2⟩
theorem trodAll_nil {H : Type} {enc : TypeId × Value → H} {P : Program} {w : World} {base : Nat} {spare : Nat → Bool} {held : Bool} {vs : List Value} {ds : List (DataW H)} {ps : List MemPlace}
    (h : DataW.TrodAll enc P w base spare held [] vs ds ps) : vs = [] ∧ ds = [] ∧ ps = [] := by
  match vs, ds, h with
  | [], [], h => exact ⟨rfl, rfl, h⟩
theorem trodAll_mkc {H : Type} {enc : TypeId × Value → H} {P : Program} {w : World} {base : Nat} {spare : Nat → Bool} {held : Bool} {t : TypeId} {ts : List TypeId} {v : Value} {vs : List Value} {d : DataW H} {ds : List (DataW H)} {p q : List MemPlace}
    (h1 : DataW.Trod enc P w base spare held t v d p) (h2 : DataW.TrodAll enc P w base spare held ts vs ds q) : DataW.TrodAll enc P w base spare held (t :: ts) (v :: vs) (d :: ds) (p ++ q) := ⟨p, q, h1, h2, rfl⟩
section
variable {H : Type} {enc : TypeId × Value → H}
theorem arg_sliE {α : Type} [Inhabited α] {encE : α → List Value} {t e : TypeId} {s : Nat} (ht : prog.underlying t = some (.slice e)) (hc : prog.cellsOf e = s) (hs : 0 < s) {W : World} {base n : Nat} {v : Value} {x : DataW H × List MemPlace}
    (hlen : ∀ x, (encE x).length = s) (hkn : ∀ x, kn (encE x) = true) (hfine : ∀ x, ∀ y ∈ encE x, ∀ m, Fine m y)
    (dec : ∀ n cs r, DataW.trod enc prog W 0 (fun _ => true) true n e cs = some r → ∃ x, cs = encE x)
    (hval : Cell.okWide prog W .any base t v) (hf : DataW.trod enc prog W 0 (fun _ => true) true n t v.cells.toList = some x) :
    ∃ xs : List α, SliE (absH W) v s encE xs ∧ ArgOk W v := by
  have hval' : Value.okWide prog W .any base t v := by
    unfold Value.okWide
    rw [ht]
    exact hval
  obtain ⟨a0, len0, cap0, rfl⟩ := okWide_slice ht hval'
  clear hval'
  rcases Deep.open_slice ht hf with ⟨hcs, hx⟩ | ⟨a, len, cap, m, n', D, Pl, hcs, _, hl, hm, hmm, hx, hel⟩
  · simp [Value.cells] at hcs
    obtain ⟨rfl, rfl, rfl⟩ := hcs
    exact ⟨[], ⟨none, 0, rfl, ⟨by simp, rfl⟩, .inl ⟨rfl, rfl⟩⟩, ⟨by simp [VOk], by simp [ren]⟩⟩
  · simp [Value.cells] at hcs
    obtain ⟨rfl, rfl, rfl⟩ := hcs
    simp only [if_true] at hmm
    subst hmm
    simp only [ht, Cell.okWide, Cell.ok, World.has] at hval
    obtain ⟨_, _, _, hspot, row, cells, hshape, _⟩ := hval
    obtain ⟨b, o, spot⟩ := a
    simp only at hspot hshape
    subst hspot
    have hb : b < W.heap.size := by
      unfold World.shape? at hshape
      split at hshape
      · rename_i h
        exact (Array.getElem?_eq_some_iff.1 h).1
      · cases hshape
    have hmax : m < fz := by
      simp only [maxLen] at hm
      unfold fz
      omega
    obtain ⟨f, hfx⟩ := Deep.choose_lt (α := α) (p := fun i x => W.cells? 0 ((⟨b, o, none⟩ : Addr).add (i * prog.cellsOf e)) (prog.cellsOf e) = some (encE x)) (fun i (hi : i < m) => by
      obtain ⟨cs', h1, h2⟩ := hel i hi
      obtain ⟨x, rfl⟩ := dec _ _ _ h2
      exact ⟨x, h1⟩)
    rw [hc] at hfx
    have hcell : ∀ i j, i < m → j < s → W.cell? ⟨b, o + (i * s + j), none⟩ = (encE (f i))[j]? := fun i j hi hj => by
      have := (World.cells?_some (hfx i hi)).2.2 j hj
      rw [Deep.add_add] at this
      revert this
      generalize i * s + j = k
      intro this
      unfold Addr.add at this
      by_cases h0 : k = 0
      · subst h0
        simpa using this
      · simpa [h0] using this
    have hxl : ((List.range len0).map f).length = len0 := by simp
    refine ⟨(List.range len0).map f, ?_, ⟨by simp only [VOk, AddrOk]; exact ⟨hb, trivial⟩, ?_⟩⟩
    · refine ⟨some ⟨b, o, none⟩, m, by rw [hxl], ⟨flat_len hlen _, flat_kn hkn _⟩, .inr ⟨b, o, rfl, ?_⟩⟩
      rw [hxl]
      by_cases h0 : len0 = 0
      · exact .inl h0
      · right
        have key : ∀ i j, i < len0 → j < s → ∃ c, (absH W)[b]? = some (.cells c false 0) ∧ c[o + (i * s + j)]? = (encE (f i))[j]? := fun i j hi hj => by
          have h1 := hcell i j (by omega) hj
          have h2 : j < (encE (f i)).length := by rw [hlen]; exact hj
          rw [List.getElem?_eq_getElem h2] at h1 ⊢
          exact absH_cell h1 (hfine _ _ (List.getElem_mem h2) _)
        obtain ⟨c, hc1, _⟩ := key 0 0 (by omega) hs
        refine ⟨c, false, 0, hc1, ?_⟩
        apply List.ext_getElem?
        intro k
        by_cases hk : k < len0 * s
        · have hq : k / s < len0 := Nat.div_lt_of_lt_mul (by rw [Nat.mul_comm]; exact hk)
          have hr : k % s < s := Nat.mod_lt _ hs
          have hkk : k / s * s + k % s = k := by rw [Nat.mul_comm]; exact Nat.div_add_mod k s
          obtain ⟨c', hc1', hc2'⟩ := key _ _ hq hr
          rw [hc1] at hc1'
          cases hc1'
          rw [List.getElem?_take, if_pos hk, List.getElem?_drop]
          rw [hkk] at hc2'
          rw [hc2']
          have := flat_get hlen ((List.range len0).map f) (i := k / s) (j := k % s) (by rw [hxl]; exact hq) hr
          rw [hkk] at this
          rw [this]
          simp
        · rw [List.getElem?_take, if_neg hk, List.getElem?_eq_none (by rw [flat_len hlen, hxl]; omega)]
    · have hnf : ¬ fz ≤ m := by omega
      simp [ren, renAddr, renCap, idEnv, hnf]
theorem fine_int {m : Nat} {n : Int} : Fine m (vint n) := ⟨by simp [VOk], rfl, by simp [ren]⟩
theorem trod_vint {W : World} {n : Nat} {cs : List Value} {r : DataW H × List MemPlace} {t : TypeId} (u : prog.underlying t = some (.int .i64)) (h : DataW.trod enc prog W 0 (fun _ => true) true n t cs = some r) : ∃ z, cs = [vint z] := by
  obtain ⟨z, h1, _⟩ := DataW.trod_int u h
  exact ⟨z, h1⟩
end
instance : Inhabited Rng := ⟨⟨0, 0⟩⟩
instance : Inhabited Cnt := ⟨⟨0, 0, 0, 0⟩⟩
section
variable {H : Type} {enc : TypeId × Value → H} {W : World} {n base : Nat} {cs : List Value} {r : DataW H × List MemPlace}
def structOf : Option TypeDesc → Option (List (TypeId × Nat))
  | some (.struct fs) => some (fs.toList.map fun f => (f.type, f.offset))
  | _ => none
theorem trod_fields {t : TypeId} {l : List (TypeId × Nat)} (hs : structOf (prog.underlying t) = some l) (h : DataW.trod enc prog W 0 (fun _ => true) true n t cs = some r) :
    cs.length = prog.cellsOf t ∧ ∃ n' : Nat, ∀ (i : Nat) (ty : TypeId) (off : Nat), l[i]? = some (ty, off) → ∃ r', DataW.trod enc prog W 0 (fun _ => true) true n' ty ((cs.drop off).take (prog.cellsOf ty)) = some r' := by
  unfold structOf at hs
  split at hs
  · rename_i fs hu
    cases hs
    obtain ⟨xs, n', _, rfl, hl, hxl, hf⟩ := DataW.trod_struct hu h
    refine ⟨hl, n', fun i ty off hi => ?_⟩
    rw [List.getElem?_map, Option.map_eq_some_iff] at hi
    obtain ⟨f, hfi, he⟩ := hi
    cases he
    have hfi' : fs[i]? = some f := by simpa using hfi
    have hil : i < xs.length := by rw [hxl]; exact (Array.getElem?_eq_some_iff.1 hfi').1
    exact ⟨xs[i], by rw [hf i f hfi', List.getElem?_eq_getElem hil]⟩
  · cases hs
theorem dec_rng (h : DataW.trod enc prog W 0 (fun _ => true) true n 38 cs = some r) : ∃ x : Rng, cs = x.cells := by
  have u3 : prog.underlying 3 = some (.int .i64) := by kernel_rfl
  have c3 : prog.cellsOf 3 = 1 := by kernel_rfl
  have c38 : prog.cellsOf 38 = 2 := by kernel_rfl
  obtain ⟨hl, n', hf⟩ := trod_fields (l := [(3, 0), (3, 1)]) (by kernel_rfl) h
  rw [c38] at hl
  obtain ⟨a, b, rfl⟩ : ∃ a b, cs = [a, b] := by
    match cs, hl with
    | [a, b], _ => exact ⟨a, b, rfl⟩
  obtain ⟨_, g0⟩ := hf 0 3 0 rfl
  obtain ⟨_, g1⟩ := hf 1 3 1 rfl
  rw [c3] at g0 g1
  obtain ⟨z0, w0⟩ := trod_vint u3 g0
  obtain ⟨z1, w1⟩ := trod_vint u3 g1
  simp at w0 w1
  exact ⟨⟨z0, z1⟩, by rw [w0, w1]; rfl⟩
theorem dec_cnt (h : DataW.trod enc prog W 0 (fun _ => true) true n 61 cs = some r) : ∃ x : Cnt, cs = x.cells := by
  have u3 : prog.underlying 3 = some (.int .i64) := by kernel_rfl
  have c3 : prog.cellsOf 3 = 1 := by kernel_rfl
  have c61 : prog.cellsOf 61 = 4 := by kernel_rfl
  obtain ⟨hl, n', hf⟩ := trod_fields (l := [(3, 0), (3, 1), (3, 2), (3, 3)]) (by kernel_rfl) h
  rw [c61] at hl
  obtain ⟨a, b, c, d, rfl⟩ : ∃ a b c d, cs = [a, b, c, d] := by
    match cs, hl with
    | [a, b, c, d], _ => exact ⟨a, b, c, d, rfl⟩
  obtain ⟨_, g0⟩ := hf 0 3 0 rfl
  obtain ⟨_, g1⟩ := hf 1 3 1 rfl
  obtain ⟨_, g2⟩ := hf 2 3 2 rfl
  obtain ⟨_, g3⟩ := hf 3 3 3 rfl
  rw [c3] at g0 g1 g2 g3
  obtain ⟨z0, w0⟩ := trod_vint u3 g0
  obtain ⟨z1, w1⟩ := trod_vint u3 g1
  obtain ⟨z2, w2⟩ := trod_vint u3 g2
  obtain ⟨z3, w3⟩ := trod_vint u3 g3
  simp at w0 w1 w2 w3
  exact ⟨⟨z0, z1, z2, z3⟩, by rw [w0, w1, w2, w3]; rfl⟩
theorem fine_rng (x : Rng) : ∀ y ∈ x.cells, ∀ m, Fine m y := fun y hy m => by
  simp only [Rng.cells, List.mem_cons, List.not_mem_nil, or_false] at hy
  rcases hy with rfl | rfl <;> exact fine_int
theorem fine_cnt (x : Cnt) : ∀ y ∈ x.cells, ∀ m, Fine m y := fun y hy m => by
  simp only [Cnt.cells, List.mem_cons, List.not_mem_nil, or_false] at hy
  rcases hy with rfl | rfl | rfl | rfl <;> exact fine_int
theorem lok_of : ∀ {l : List Value} {m : Nat}, (∀ v ∈ l, VOk m v) → LOk m l
  | [], _, _ => by simp [LOk]
  | v :: l, m, h => by
    simp only [LOk]
    exact ⟨h v (by simp), lok_of fun u hu => h u (by simp [hu])⟩
theorem argOk_agg {l : List Value} (h : ∀ v ∈ l, ArgOk W v) : ArgOk W (.agg ⟨l⟩) := by
  refine ⟨?_, ?_⟩
  · simp only [VOk, AOk]
    exact lok_of fun v hv => (h v hv).1
  · simp only [ren, renA, renL_eq]
    congr 2
    rw [List.map_congr_left (g := id) fun v hv => (h v hv).2, List.map_id]
theorem argOk_fine {v : Value} (h : ∀ m, Fine m v) : ArgOk W v := ⟨(h _).1, (h 0).2.2⟩
theorem agg_of {t : TypeId} {l : List (TypeId × Nat)} {v : Value} (hs : structOf (prog.underlying t) = some l) (hval : Value.okWide prog W .any base t v) : ∃ cs, v = .agg cs ∧ Row.okWide prog W .any base t cs := by
  unfold structOf at hs
  split at hs
  · rename_i fs hu
    simp only [Value.okWide, hu] at hval
    obtain ⟨cs, h1, _, h3⟩ := hval
    exact ⟨cs, h1, h3⟩
  · cases hs
theorem arg_cnt {v : Value} {d : DataW H} {ps : List MemPlace} (hval : Value.okWide prog W .any base 61 v) (hd : DataW.Trod enc prog W 0 (fun _ => true) true 61 v d ps) : ∃ c : Cnt, v = c.val ∧ ArgOk W v := by
  obtain ⟨fuel, hf⟩ := hd
  obtain ⟨⟨cs⟩, rfl, _⟩ := agg_of (l := [(3, 0), (3, 1), (3, 2), (3, 3)]) (by kernel_rfl) hval
  obtain ⟨c, hc⟩ := dec_cnt hf
  have : cs = c.cells := by simpa [Value.cells] using hc
  subst this
  exact ⟨c, rfl, argOk_agg fun v hv => argOk_fine fun m => fine_cnt c v hv m⟩
theorem arg_tal {v : Value} {d : DataW H} {ps : List MemPlace} (hval : Value.okWide prog W .any base 42 v) (hd : DataW.Trod enc prog W 0 (fun _ => true) true 42 v d ps) : ∃ (t : Tal) (cv nv : Value), TalAt (absH W) v t cv nv ∧ ArgOk W v := by
  have u3 : prog.underlying 3 = some (.int .i64) := by kernel_rfl
  have u39 : prog.underlying 39 = some (.slice 38) := by kernel_rfl
  have u40 : prog.underlying 40 = some (.slice 61) := by kernel_rfl
  have c3 : prog.cellsOf 3 = 1 := by kernel_rfl
  have c38 : prog.cellsOf 38 = 2 := by kernel_rfl
  have c39 : prog.cellsOf 39 = 1 := by kernel_rfl
  have c40 : prog.cellsOf 40 = 1 := by kernel_rfl
  have c61 : prog.cellsOf 61 = 4 := by kernel_rfl
  have c42 : prog.cellsOf 42 = 6 := by kernel_rfl
  have hst : structOf (prog.underlying 42) = some [(3, 0), (38, 1), (39, 3), (3, 4), (40, 5)] := by kernel_rfl
  have hct : prog.cellTypes prog.depth 42 = some [3, 3, 3, 39, 3, 40] := by kernel_rfl
  obtain ⟨fuel, hf⟩ := hd
  obtain ⟨⟨cs⟩, rfl, ts, hts, _, hrow⟩ := agg_of hst hval
  rw [hct] at hts
  cases hts
  have hf' : DataW.trod enc prog W 0 (fun _ => true) true fuel 42 cs = some (d, ps) := by simpa [Value.cells] using hf
  obtain ⟨hl, n', hfl⟩ := trod_fields hst hf'
  rw [c42] at hl
  obtain ⟨x0, x1, x2, x3, x4, x5, rfl⟩ : ∃ a b c d e f, cs = [a, b, c, d, e, f] := by
    match cs, hl with
    | [a, b, c, d, e, f], _ => exact ⟨a, b, c, d, e, f, rfl⟩
  obtain ⟨_, g0⟩ := hfl 0 3 0 rfl
  obtain ⟨_, g1⟩ := hfl 1 38 1 rfl
  obtain ⟨y3, g3⟩ := hfl 2 39 3 rfl
  obtain ⟨_, g4⟩ := hfl 3 3 4 rfl
  obtain ⟨y5, g5⟩ := hfl 4 40 5 rfl
  rw [c3] at g0 g4
  rw [c38] at g1
  rw [c39] at g3
  rw [c40] at g5
  obtain ⟨z0, w0⟩ := trod_vint u3 g0
  obtain ⟨z4, w4⟩ := trod_vint u3 g4
  obtain ⟨fr, w1⟩ := dec_rng g1
  simp at w0 w4
  simp [Rng.cells] at w1
  obtain ⟨w1, w2⟩ := w1
  subst w0 w4 w1 w2
  obtain ⟨u, hu, k3⟩ := hrow 3 x3 rfl
  cases hu
  obtain ⟨u, hu, k5⟩ := hrow 5 x5 rfl
  cases hu
  have v3 : x3.cells.toList = [x3] := by
    obtain ⟨a0, a1, a2, rfl⟩ := okWide_slice u39 (show Value.okWide prog W .any base 39 x3 by unfold Value.okWide; rw [u39]; exact k3)
    rfl
  have v5 : x5.cells.toList = [x5] := by
    obtain ⟨a0, a1, a2, rfl⟩ := okWide_slice u40 (show Value.okWide prog W .any base 40 x5 by unfold Value.okWide; rw [u40]; exact k5)
    rfl
  obtain ⟨chs, s3, ok3⟩ := arg_sliE (encE := Rng.cells) (n := n') (x := y3) u39 c38 (by omega) (fun _ => rfl) (fun _ => rfl) fine_rng (fun _ _ _ h => dec_rng h) k3 (by rw [v3]; exact g3)
  obtain ⟨cos, s5, ok5⟩ := arg_sliE (encE := Cnt.cells) (n := n') (x := y5) u40 c61 (by omega) (fun _ => rfl) (fun _ => rfl) fine_cnt (fun _ _ _ h => dec_cnt h) k5 (by rw [v5]; exact g5)
  refine ⟨⟨z0, fr, chs, z4, cos⟩, x3, x5, ⟨rfl, s3, s5⟩, argOk_agg fun v hv => ?_⟩
  simp only [List.mem_cons, List.not_mem_nil, or_false] at hv
  rcases hv with rfl | rfl | rfl | rfl | rfl | rfl
  · exact argOk_int
  · exact argOk_int
  · exact argOk_int
  · exact ok3
  · exact argOk_int
  · exact ok5
end
theorem lifted15 (os : Os) (started : os.Started) (H : Type) (enc : TypeId × Value → H) :
    ReturnsInLeavingWide {} checked os 15 .any (Rows.tallyWrongsSpec.pre6 enc prog f15 Rows.tallyWrongsRow.domain false) (Rows.tallyWrongsSpec.post enc prog f15 false true false false) := by
  refine returnsInLeavingWide_of_change_sized (C := checked) own started at15
    (ChangeSpec.witness6 (enc := enc) (C := checked) false ⟨#[], #[.agg #[.int .i64 0, .int .i64 0, .int .i64 0, .slice none 0 0, .int .i64 0, .slice none 0 0], .agg #[.int .i64 0, .int .i64 0, .int .i64 0, .int .i64 0], .slice none 0 0], []⟩ 8 (by kernel_rfl) (by kernel_rfl) (by kernel_rfl) (by kernel_rfl)) ?_
  intro W base args ds gs before hval0 hW _ hsz0 _
  have hsz : (DataW.weightsEach prog (f15.params.toList ++ Rows.tallyWrongsSpec.plain.varTypes prog) (ds ++ gs)).all (· ≤ reachBytes) = true := hsz0
  clear hsz0
  have hval : ∀ (j : Nat) t v, f15.params[j]? = some t → args[j]? = some v → Value.okWide prog W .any base t v := hval0
  have hW' := hW
  obtain ⟨p, q, hA0, hV, rfl, _, _⟩ := hW
  have hA : DataW.TrodAll enc prog W 0 (fun _ => true) true f15.params.toList args.toList ds p := hA0
  have hps : f15.params = #[42, 61, 22] := by kernel_rfl
  rw [hps] at hA hval hsz
  obtain ⟨args⟩ := args
  have r0 : DataW.TrodAll enc prog W 0 (fun _ => true) true [42, 61, 22] args ds p := hA
  obtain ⟨v0, vs0, d0, ds0, p0, q0, hv0, hd0, hp0, h0, r1⟩ := trodAll_cons r0
  obtain ⟨v1, vs1, d1, ds1, p1, q1, hv1, hd1, hp1, h1, r2⟩ := trodAll_cons r1
  obtain ⟨v2, vs2, d2, ds2, p2, q2, hv2, hd2, hp2, h2, r3⟩ := trodAll_cons r2
  obtain ⟨hvn, hdn, hpn⟩ := trodAll_nil r3
  subst hvn hdn hpn
  subst hv2 hd2 hp2
  subst hv1 hd1 hp1
  subst hv0 hd0 hp0
  obtain ⟨rfl, rfl⟩ := trodVars_none hV
  have u3 : prog.underlying 3 = some (.int .i64) := by kernel_rfl
  have u22 : prog.underlying 22 = some (.slice 3) := by kernel_rfl
  have u4 : prog.underlying 4 = some .bool := by kernel_rfl
  have c3 : prog.cellsOf 3 = 1 := by kernel_rfl
  have b3 : prog.bytesOf 3 = 8 := by kernel_rfl
  have hlt : ∀ x ∈ p0 ++ (p1 ++ (p2 ++ [])), x.block < W.heap.size := fun x hx => by simpa using hW'.lt x (by simpa using hx)
  have hargs : ∀ (W' : World), Below W.heap.size W W' → DataW.TrodAll enc prog W' 0 (fun b => decide (b < W.heap.size)) true [42, 61, 22] [v0, v1, v2] [d0, d1, d2] (p0 ++ (p1 ++ (p2 ++ []))) := fun W' hn =>
    trodAll_mkc (Below.trod laidOut (by kernel_rfl) (of_decide_eq_true (by kernel_rfl)) h0 hn fun x hx => hlt x (by simp [hx])) (trodAll_mkc (Below.trod laidOut (by kernel_rfl) (of_decide_eq_true (by kernel_rfl)) h1 hn fun x hx => hlt x (by simp [hx])) (trodAll_mkc (Below.trod laidOut (by kernel_rfl) (of_decide_eq_true (by kernel_rfl)) h2 hn fun x hx => hlt x (by simp [hx])) (rfl)))
  obtain ⟨t0, cv0, nv0, ht0, ok0⟩ := arg_tal (hval 0 42 v0 rfl rfl) h0
  obtain ⟨c1, hc1, ok1⟩ := arg_cnt (hval 1 61 v1 rfl rfl) h1
  subst hc1
  obtain ⟨ns2, sn2, ok2, hbig2⟩ := arg_ints u22 u3 c3 (hval 2 22 v2 rfl rfl) h2
  have hln2 : ns2.length < 4611686018427387904 := by
    rcases hbig2 with rfl | ⟨es, sp, rfl, hle⟩
    · simp
    · have := sized_slice hsz (j := 2) (t := 22) (e := 3) rfl rfl u22
      rw [b3] at this
      simp only [reachBytes] at this
      omega
  obtain ⟨M, last, o, w', t', r1, r2, r3, r4⟩ := law_run1 (g := 15) (fn := f15) at15 body15 (by kernel_rfl) W [v0, c1.val, v2] (Nat.le_of_ble_eq_true (by kernel_rfl : Nat.ble 3 f15.ntmps = true))
    (by
      intro v hv
      simp only [List.mem_cons, List.not_mem_nil, or_false] at hv
      rcases hv with rfl | rfl | rfl
      · exact ok0
      · exact ok1
      · exact ok2)
    (fun Post => walk15 (K := fun v _ => v = .bool true) ht0 sn2 hln2 fun _ => rfl)
  refine ⟨M, last, o, w', t', r1, r2, r3, r4.mono fun v hF => ?_⟩
  obtain ⟨rfl, hbelow⟩ := hF
  refine ⟨_, _, _, [], _, [], hW', ?_, hargs _ hbelow, by rfl, hbelow.frame _, fun h => by cases h⟩
  exact trodAll_mk1 (shut_bool u4 true)
theorem tallyWrongs_holds : Rows.TallyWrongsSaid :=
  OpenClaim.holds_of_wide_leaving 15 f15 rfl rfl rfl rfl rfl rfl rfl ⟨rfl, rfl, rfl, rfl, rfl⟩ rfl rfl rfl rfl rfl (by kernel_rfl) at15 (by kernel_rfl)
    (of_decide_eq_true (by kernel_rfl)) (by unfold Func.isWrapper; first | (rw [if_pos (by decide +kernel)]; kernel_rfl) | (rw [if_neg (by decide +kernel)]; exact ⟨rfl, rfl⟩))
    (fun os started H enc _ => lifted15 os started H enc)
#print axioms tallyWrongs_holds
end Go.Proofs.Ytdgpacdknpahnaa
