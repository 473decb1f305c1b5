/- Parts of the proof, 4. No conditions. -/
import Derived.Test.YtdgpacdknpahnaaK2

/- Printed by program: the forms to which the bodies of some functions come down. No conditions. -/
namespace Go.Proofs.Ytdgpacdknpahnaa
open Go.Conc Go.Proofs.Try
set_option maxRecDepth 100000
set_option linter.unusedVariables false
section
variable {main : Bool} {J : JT} {n0 : Nat} {h : List AObj} {K : Value → List AObj → Prop}
theorem at71 : prog.funcs[71]? = some f71 := by kernel_rfl
theorem body71 : f71.body = some (codeOf f71) := by kernel_rfl
theorem e71 {a0 : Value} : W prog J 8 h.length 71 (codeOf f71) (RG.mk (regs [a0]) []) h (RetQ prog [.tmp 2, .tmp 3] h.length K) =
(aBox a0 h fun v1 h2 =>
(∃ B, aLoad true 6 v1 h2 fun v3 =>
RdOk (some B) (ptrBlk v1) ∧ (aLoad true 6 v1 h2 fun v4 =>
RdOk (some B) (ptrBlk v1) ∧ (Good prog J 95 [v3] h2 fun v5 h6 =>
SameB (some B) h2 h6 ∧ (Good prog J 51 [v4] h6 fun v7 h8 =>
SameB (some B) h2 h8 ∧ (retL h.length K [] [v5, v7] h8)))))) := by kernel_rfl
theorem g71 (hJ : Closed prog main J) {a0 : Value} (hs : heapOk h → W prog J 8 h.length 71 (codeOf f71) (RG.mk (regs [a0]) []) h (RetQ prog [.tmp 2, .tmp 3] h.length K)) : Good prog J 71 [a0] h K :=
  good_of_W hJ mixed at71 body71 (by kernel_rfl) (Nat.le_of_ble_eq_true rfl) hs
theorem at95 : prog.funcs[95]? = some f95 := by kernel_rfl
theorem body95 : f95.body = some (codeOf f95) := by kernel_rfl
theorem e95 {a0 : Value} : W prog J 7 h.length 95 (codeOf f95) (RG.mk (regs [a0]) []) h (RetQ prog [.tmp 2] h.length K) =
(aBox a0 h fun v1 h2 =>
aLoad true 6 v1 h2 fun v3 =>
aNewM h2 fun v4 h5 =>
aFill [(vint 0), (vint 0), (vint 0), (Value.slice none 0 0), (vint 0), (Value.slice none 0 0), (Value.int .u64 0), (Value.map none)] [(0, 6, v3), (7, 1, v4)] fun c6 =>
aBox (Value.agg ⟨c6⟩) h5 fun v7 h8 =>
retL h.length K [] [v7] h8) := by kernel_rfl
theorem g95 (hJ : Closed prog main J) {a0 : Value} (hs : heapOk h → W prog J 7 h.length 95 (codeOf f95) (RG.mk (regs [a0]) []) h (RetQ prog [.tmp 2] h.length K)) : Good prog J 95 [a0] h K :=
  good_of_W hJ mixed at95 body95 (by kernel_rfl) (Nat.le_of_ble_eq_true rfl) hs
theorem at72 : prog.funcs[72]? = some f72 := by kernel_rfl
theorem body72 : f72.body = some (codeOf f72) := by kernel_rfl
theorem e72 {a0 : Value} : W prog J 60 h.length 72 (codeOf f72) (RG.mk (regs [a0]) []) h (RetQ prog [.tmp 2, .tmp 3] h.length K) =
(Good prog J 74 [a0, (Value.int .u64 0)] h fun v1 h2 =>
aUn .not v1 fun v3 =>
cnd v3
(retL h.length K [] [(Value.slice none 0 0), (Value.bool false)] h2)
(aNil a0 fun v4 =>
aOff v4 0 fun v5 =>
aOff v5 0 fun v6 =>
aLoad false 1 v6 h2 fun v7 =>
((List.length [(vint 0), (vint 0)] = 2 ∧ 16 ≤ 1024) ∧ aMkS [(vint 0), (vint 0)] v7 v7 h2 fun v8 h9 =>
aAlloc [(Value.slice none 0 0)] h9 fun v10 h11 =>
aStore 1 v10 v8 h11 fun h12 =>
Good prog J 97 [a0] h12 fun v13 h14 =>
Good prog J 96 [a0, v13] h14 fun v15 h16 =>
Sem J 60 h.length 72 (subC [1, 1, 1, 0, 1, 0] (codeOf f72)) (((((((((((((((((RG.mk (regs [a0]) []).put 2 (Value.slice none 0 0)).put 3 (Value.bool false)).put 10 a0).put 11 v1).put 12 v3).put 13 a0).put 14 v4).put 15 v5).put 16 v6).put 17 v7).put 18 v8).put 4 v10).put 19 a0).put 20 a0).put 21 v13).put 22 v15) h16 (contQ prog J 60 h.length 72 [1, 1, 1, 0, 1, 0] (codeOf f72) [] (RetQ prog [.tmp 2, .tmp 3] h.length K))))) := by kernel_rfl
theorem g72 (hJ : Closed prog main J) {a0 : Value} (hs : heapOk h → W prog J 60 h.length 72 (codeOf f72) (RG.mk (regs [a0]) []) h (RetQ prog [.tmp 2, .tmp 3] h.length K)) : Good prog J 72 [a0] h K :=
  good_of_W hJ mixed at72 body72 (by kernel_rfl) (Nat.le_of_ble_eq_true rfl) hs
-- range [1, 1, 1, 0, 1, 0]
theorem a72_1 {f : RG} {fr : FuncId} {Q : QT} : W prog J 60 n0 fr (subC [1, 1, 1, 0, 1, 0, 0] (codeOf f72)) f h Q =
(aAlloc [(vint 0), (vint 0)] h fun v1 h2 =>
aStore 2 v1 (f.r 24) h2 fun h3 =>
Q .normal ((f.put 5 (f.r 23)).put 6 v1) h3) := by kernel_rfl
theorem b72_1 {f : RG} {fr : FuncId} {Q : QT} : W prog J 60 n0 fr (subC [1, 1, 1, 0, 1, 0, 1] (codeOf f72)) f h Q =
(aLoad false 1 (f.r 4) h fun v1 =>
aLoad true 2 (f.r 6) h fun v2 =>
aIdx 2 v1 (f.r 5) fun v3 =>
aStore 2 v3 v2 h fun h4 =>
Q .normal ((((f.put 25 v1).put 26 (f.r 5)).put 27 v2).put 28 v3) h4) := by kernel_rfl
theorem c72_1 {f : RG} : (contQ prog J 60 n0 72 [1, 1, 1, 0, 1, 0] (codeOf f72) [] (RetQ prog [.tmp 2, .tmp 3] n0 K)) .normal f h =
(aNil (f.r 0) fun v1 =>
aOff v1 0 fun v2 =>
aOff v2 0 fun v3 =>
aLoad false 1 v3 h fun v4 =>
aBin prog .sub 3 v4 (vint 2) fun v5 =>
Sem J 60 n0 72 (subC [1, 1, 1, 1, 1, 0, 1, 0] (codeOf f72)) (((((((((f.put 7 (Value.func (.func 98) #[] #[])).put 8 (Value.func (.func 99) #[] #[])).put 29 (f.r 0)).put 30 v1).put 31 v2).put 32 v3).put 33 v4).put 34 v5).put 9 v5) h (contQ prog J 60 n0 72 [1, 1, 1, 1, 1, 0, 1, 0] (codeOf f72) [] (RetQ prog [.tmp 2, .tmp 3] n0 K))) := by kernel_rfl
theorem l72_1 (hJ : Closed prog main J) {f : RG} {g : FuncId} {first cap : List Value} (hx : ev f.r ((Go.Operand.tmp 22)) = .func (.func g) ⟨first⟩ ⟨cap⟩) (hg : g < prog.funcs.size)
  (hs : Good prog J g (first ++ [.func (.yield (h.length + 1)) ⟨[]⟩ ⟨[]⟩] ++ cap) (h ++ [.deferred] ++ [.loop .ready none 72 f.r 60 #[23, 24] (subC [1, 1, 1, 0, 1, 0, 0] (codeOf f72)) (subC [1, 1, 1, 0, 1, 0, 1] (codeOf f72)) h.length]) (endQ h.length f (contQ prog J 60 n0 72 [1, 1, 1, 0, 1, 0] (codeOf f72) [] (RetQ prog [.tmp 2, .tmp 3] n0 K)))) : Sem J 60 n0 72 (subC [1, 1, 1, 0, 1, 0] (codeOf f72)) f h (contQ prog J 60 n0 72 [1, 1, 1, 0, 1, 0] (codeOf f72) [] (RetQ prog [.tmp 2, .tmp 3] n0 K)) :=
  Sem_range hJ (by decide) (fop := (Go.Operand.tmp 22)) (params := #[23, 24]) (assign := subC [1, 1, 1, 0, 1, 0, 0] (codeOf f72)) (body := subC [1, 1, 1, 0, 1, 0, 1] (codeOf f72)) hx hg hs
-- loop [1, 1, 1, 1, 1, 0, 1, 0, 0]
theorem s72_2 {f : RG} {nx0 : RG → List AObj → Prop} : W prog J 60 n0 72 (subC [1, 1, 1, 1, 1, 0, 1, 0, 0] (codeOf f72)) f h (thenK nx0 (contQ prog J 60 n0 72 [1, 1, 1, 1, 1, 0, 1, 0] (codeOf f72) [] (RetQ prog [.tmp 2, .tmp 3] n0 K))) =
(aBin prog .geq 3 (f.r 9) (vint 0) fun v1 =>
cnd v1
((∃ B, aLoad false 1 (f.r 4) h fun v2 =>
RdOk (some B) (ptrBlk (f.r 4)) ∧ (aLoad false 1 (f.r 4) h fun v3 =>
RdOk (some B) (ptrBlk (f.r 4)) ∧ (aIdx 2 v3 (f.r 9) fun v4 =>
aLoad true 2 v4 h fun v5 =>
RdOk (some B) (ptrBlk v4) ∧ (aLoad false 1 (f.r 4) h fun v6 =>
RdOk (some B) (ptrBlk (f.r 4)) ∧ (aBin prog .add 3 (f.r 9) (vint 1) fun v7 =>
aIdx 2 v6 v7 fun v8 =>
aLoad true 2 v8 h fun v9 =>
RdOk (some B) (ptrBlk v8) ∧ (Good prog J 101 [(f.r 0), (f.r 9)] h fun v10 h11 =>
SameB (some B) h h11 ∧ (callV prog (Good prog J) (f.r 7) [v10] h11 fun v12 h13 =>
SameB (some B) h h13 ∧ (Good prog J 100 [v9, v12] h13 fun v14 h15 =>
SameB (some B) h h15 ∧ (callV prog (Good prog J) (f.r 8) [v5, v14] h15 fun v16 h17 =>
SameB (some B) h h17 ∧ (aIdx 2 v2 (f.r 9) fun v18 =>
aStore 2 v18 v16 h17 fun h19 =>
aBin prog .sub 3 (f.r 9) (vint 1) fun v20 =>
nx0 (((((((((((((((((((((((((f.put 35 (f.r 9)).put 36 v1).put 39 v2).put 40 (f.r 9)).put 41 (f.r 8)).put 42 v3).put 43 (f.r 9)).put 44 v4).put 45 v5).put 46 v6).put 47 (f.r 9)).put 48 v7).put 49 v8).put 50 v9).put 51 (f.r 7)).put 52 (f.r 0)).put 53 (f.r 9)).put 54 v10).put 55 v12).put 56 v14).put 57 v16).put 58 v18).put 37 (f.r 9)).put 38 v20).put 9 v20) h19)))))))))))
(aLoad false 1 (f.r 4) h fun v21 =>
retL n0 K f.ds [v21, (Value.bool true)] h)) := by kernel_rfl
theorem l72_2 (hJ : Closed prog main J) {S : Type} (μ : S → Nat) (I : S → RG → List AObj → Prop) (hI : ∀ s f h, I s f h → heapOk h → n0 ≤ h.length → W prog J 60 n0 72 (subC [1, 1, 1, 1, 1, 0, 1, 0, 0] (codeOf f72)) f h (thenK (Nx n0 μ I s) (contQ prog J 60 n0 72 [1, 1, 1, 1, 1, 0, 1, 0] (codeOf f72) [] (RetQ prog [.tmp 2, .tmp 3] n0 K))))
  {s : S} {f : RG} (hi : Gets n0 I s f h) : Sem J 60 n0 72 (subC [1, 1, 1, 1, 1, 0, 1, 0] (codeOf f72)) f h (contQ prog J 60 n0 72 [1, 1, 1, 1, 1, 0, 1, 0] (codeOf f72) [] (RetQ prog [.tmp 2, .tmp 3] n0 K)) :=
  loop_rule hJ mixed (b := subC [1, 1, 1, 1, 1, 0, 1, 0, 0] (codeOf f72)) (by kernel_rfl) μ I hI hi
theorem at30 : prog.funcs[30]? = some f30 := by kernel_rfl
theorem body30 : f30.body = some (codeOf f30) := by kernel_rfl
theorem e30 {a0 : Value} : W prog J 38 h.length 30 (codeOf f30) (RG.mk (regs [a0]) []) h (RetQ prog [.tmp 2, .tmp 3] h.length K) =
(aBox a0 h fun v1 h2 =>
aLoad true 6 v1 h2 fun v3 =>
Good prog J 71 [v3] h2 fun v4 h5 =>
aExt v4 0 fun v6 =>
aExt v4 1 fun v7 =>
aBin prog .neq 32 v7 (vint 0) fun v8 =>
cnd v8
(retL h.length K [] [(Value.slice none 0 0), v7] h5)
(Good prog J 72 [v6] h5 fun v9 h10 =>
aExt v9 0 fun v11 =>
aExt v9 1 fun v12 =>
aUn .not v12 fun v13 =>
cnd v13
(retL h.length K [] [(Value.slice none 0 0), (vint 11)] h10)
(aLenS v11 fun v14 =>
Sem J 38 h.length 30 (subC [1, 1, 1, 1, 1, 1, 0, 1, 0] (codeOf f30)) ((((((((((((((((((((((((((RG.mk (regs [a0]) []).put 1 v1).put 2 (Value.slice none 0 0)).put 3 (vint 0)).put 12 v3).put 13 v4).put 11 v4).put 14 v6).put 15 v7).put 4 v6).put 5 v7).put 16 v7).put 17 v8).put 20 v6).put 21 v9).put 19 v9).put 22 v11).put 23 v12).put 6 v11).put 7 v12).put 24 v12).put 25 v13).put 8 (Value.slice none 0 0)).put 26 v11).put 27 v14).put 28 (vint 0)) h10 (contQ prog J 38 h.length 30 [1, 1, 1, 1, 1, 1, 0, 1, 0] (codeOf f30) [] (RetQ prog [.tmp 2, .tmp 3] h.length K))))) := by kernel_rfl
theorem g30 (hJ : Closed prog main J) {a0 : Value} (hs : heapOk h → W prog J 38 h.length 30 (codeOf f30) (RG.mk (regs [a0]) []) h (RetQ prog [.tmp 2, .tmp 3] h.length K)) : Good prog J 30 [a0] h K :=
  good_of_W hJ mixed at30 body30 (by kernel_rfl) (Nat.le_of_ble_eq_true rfl) hs
-- loop [1, 1, 1, 1, 1, 1, 0, 1, 0, 0]
theorem s30_1 {f : RG} {nx0 : RG → List AObj → Prop} : W prog J 38 n0 30 (subC [1, 1, 1, 1, 1, 1, 0, 1, 0, 0] (codeOf f30)) f h (thenK nx0 (contQ prog J 38 n0 30 [1, 1, 1, 1, 1, 1, 0, 1, 0] (codeOf f30) [] (RetQ prog [.tmp 2, .tmp 3] n0 K))) =
(aBin prog .lss 3 (f.r 28) (f.r 27) fun v1 =>
cnd v1
(aIdx 2 (f.r 26) (f.r 28) fun v2 =>
aLoad true 2 v2 h fun v3 =>
aAlloc [(vint 0), (vint 0)] h fun v4 h5 =>
aStore 2 v4 v3 h5 fun h6 =>
aLoad true 2 v4 h6 fun v7 =>
((1 * 2 ≤ 16777216 ∧ 1 ≤ 16777216 ∧ List.length [(vint 0), (vint 0)] = 2) ∧ aFill (zrep [(vint 0), (vint 0)] 1) [(0, 2, v7)] fun c8 =>
aNewS 1 c8 h6 fun v9 h10 =>
((List.length [(vint 0), (vint 0)] = 2 ∧ 0 < 2 ∧ 0 < 16 ∧ 16 ≤ 1024) ∧ aApp 2 (f.r 8) v9 h10 fun v11 h12 =>
aBin prog .add 3 (f.r 28) (vint 1) fun v13 =>
nx0 (((((((((((f.put 29 v1).put 30 v2).put 31 v3).put 10 v4).put 32 (f.r 8)).put 33 v7).put 34 v9).put 35 v11).put 8 v11).put 36 v13).put 28 v13) h12)))
(retL n0 K f.ds [(f.r 8), (vint 0)] h)) := by kernel_rfl
theorem l30_1 (hJ : Closed prog main J) {S : Type} (μ : S → Nat) (I : S → RG → List AObj → Prop) (hI : ∀ s f h, I s f h → heapOk h → n0 ≤ h.length → W prog J 38 n0 30 (subC [1, 1, 1, 1, 1, 1, 0, 1, 0, 0] (codeOf f30)) f h (thenK (Nx n0 μ I s) (contQ prog J 38 n0 30 [1, 1, 1, 1, 1, 1, 0, 1, 0] (codeOf f30) [] (RetQ prog [.tmp 2, .tmp 3] n0 K))))
  {s : S} {f : RG} (hi : Gets n0 I s f h) : Sem J 38 n0 30 (subC [1, 1, 1, 1, 1, 1, 0, 1, 0] (codeOf f30)) f h (contQ prog J 38 n0 30 [1, 1, 1, 1, 1, 1, 0, 1, 0] (codeOf f30) [] (RetQ prog [.tmp 2, .tmp 3] n0 K)) :=
  loop_rule hJ mixed (b := subC [1, 1, 1, 1, 1, 1, 0, 1, 0, 0] (codeOf f30)) (by kernel_rfl) μ I hI hi
theorem at45 : prog.funcs[45]? = some f45 := by kernel_rfl
theorem body45 : f45.body = some (codeOf f45) := by kernel_rfl
theorem e45 {a0 a1 a2 : Value} : W prog J 54 h.length 45 (codeOf f45) (RG.mk (regs [a0, a1, a2]) []) h (RetQ prog [.tmp 6, .tmp 7] h.length K) =
(aBox a0 h fun v1 h2 =>
aLoad true 6 v1 h2 fun v3 =>
Good prog J 71 [v3] h2 fun v4 h5 =>
aExt v4 0 fun v6 =>
aExt v4 1 fun v7 =>
aBin prog .neq 32 v7 (vint 0) fun v8 =>
cnd v8
(retL h.length K [] [(vint 0), v7] h5)
(aOff v1 0 fun v9 =>
aLoad false 1 v9 h5 fun v10 =>
aBin prog .sub 3 v10 (vint 1) fun v11 =>
Good prog J 67 [a1, (vint 0), v11] h5 fun v12 h13 =>
aUn .not v12 fun v14 =>
cnd v14
(retL h.length K [] [(vint 0), (vint 3)] h13)
(aBin prog .lss 3 a2 (vint 0) fun v15 =>
cnd v15
(retL h.length K [] [(vint 0), (vint 1)] h13)
(Good prog J 72 [v6] h13 fun v16 h17 =>
aExt v16 0 fun v18 =>
aExt v16 1 fun v19 =>
aUn .not v19 fun v20 =>
cnd v20
(retL h.length K [] [(vint 0), (vint 11)] h17)
(aIdx 2 v18 a1 fun v21 =>
aLoad true 2 v21 h17 fun v22 =>
aAlloc [(vint 0), (vint 0)] h17 fun v23 h24 =>
aStore 2 v23 v22 h24 fun h25 =>
aOff v23 0 fun v26 =>
aLoad false 1 v26 h25 fun v27 =>
aOff v23 1 fun v28 =>
aLoad false 1 v28 h25 fun v29 =>
Good prog J 67 [a2, v27, v29] h25 fun v30 h31 =>
aUn .not v30 fun v32 =>
cnd v32
(retL h.length K [] [(vint 2), (vint 0)] h31)
(aOff v23 0 fun v33 =>
aLoad false 1 v33 h31 fun v34 =>
aOff v23 1 fun v35 =>
aLoad false 1 v35 h31 fun v36 =>
aBin prog .eql 3 v34 v36 fun v37 =>
cnd v37
(retL h.length K [] [(vint 1), (vint 0)] h31)
(retL h.length K [] [(vint 3), (vint 0)] h31))))))) := by kernel_rfl
theorem g45 (hJ : Closed prog main J) {a0 a1 a2 : Value} (hs : heapOk h → W prog J 54 h.length 45 (codeOf f45) (RG.mk (regs [a0, a1, a2]) []) h (RetQ prog [.tmp 6, .tmp 7] h.length K)) : Good prog J 45 [a0, a1, a2] h K :=
  good_of_W hJ mixed at45 body45 (by kernel_rfl) (Nat.le_of_ble_eq_true rfl) hs
end
end Go.Proofs.Ytdgpacdknpahnaa

/- Printed by program: the forms to which the bodies of some functions come down. No conditions. -/
namespace Go.Proofs.Ytdgpacdknpahnaa
open Go.Conc Go.Proofs.Try
set_option maxRecDepth 100000
set_option linter.unusedVariables false
section
variable {main : Bool} {J : JT} {n0 : Nat} {h : List AObj} {K : Value → List AObj → Prop}
theorem at97 : prog.funcs[97]? = some f97 := by kernel_rfl
theorem body97 : f97.body = some (codeOf f97) := by kernel_rfl
theorem e97 {a0 : Value} : W prog J 46 h.length 97 (codeOf f97) (RG.mk (regs [a0]) []) h (RetQ prog [.cell 2 127] h.length K) =
(aAlloc [(vint 0), (vint 0), (vint 0), (vint 0), (vint 0), (vint 0), (vint 0), (vint 0), (vint 0), (vint 0)] h fun v1 h2 =>
aAlloc [(vint 0), (vint 0), (vint 0), (vint 0), (vint 0), (vint 0), (vint 0), (vint 0), (vint 0), (vint 0)] h2 fun v3 h4 =>
Sem J 46 h.length 97 (subC [1, 1, 0, 1, 0] (codeOf f97)) ((((RG.mk (regs [a0]) []).put 2 v1).put 3 v3).put 7 (vint 0)) h4 (contQ prog J 46 h.length 97 [1, 1, 0, 1, 0] (codeOf f97) [] (RetQ prog [.cell 2 127] h.length K))) := by kernel_rfl
theorem g97 (hJ : Closed prog main J) {a0 : Value} (hs : heapOk h → W prog J 46 h.length 97 (codeOf f97) (RG.mk (regs [a0]) []) h (RetQ prog [.cell 2 127] h.length K)) : Good prog J 97 [a0] h K :=
  good_of_W hJ mixed at97 body97 (by kernel_rfl) (Nat.le_of_ble_eq_true rfl) hs
-- loop [1, 1, 0, 1, 0, 0]
theorem s97_1 {f : RG} {nx0 : RG → List AObj → Prop} : W prog J 46 n0 97 (subC [1, 1, 0, 1, 0, 0] (codeOf f97)) f h (thenK nx0 (contQ prog J 46 n0 97 [1, 1, 0, 1, 0] (codeOf f97) [] (RetQ prog [.cell 2 127] n0 K))) =
(aBin prog .lss 3 (f.r 7) (vint 5) fun v1 =>
cnd v1
(aFill [(vint 0), (vint 0)] [(0, 1, (vint 0)), (1, 1, (vint 600))] fun c2 =>
aIdxA 5 2 (f.r 3) (f.r 7) fun v3 =>
aStore 2 v3 (Value.agg ⟨c2⟩) h fun h4 =>
aBin prog .add 3 (f.r 7) (vint 1) fun v5 =>
nx0 ((((((((f.put 8 v1).put 9 (f.r 7)).put 4 (f.r 7)).put 10 (f.r 7)).put 11 (Value.agg ⟨c2⟩)).put 12 v3).put 13 v5).put 7 v5) h4)
(aNil (f.r 0) fun v6 =>
aOff v6 0 fun v7 =>
aOff v7 5 fun v8 =>
aLoad false 1 v8 h fun v9 =>
aLenS v9 fun v10 =>
Sem J 46 n0 97 (subC [1, 1, 1, 0, 1, 0] (codeOf f97)) ((((((((f.put 8 v1).put 14 (f.r 0)).put 15 v6).put 16 v7).put 17 v8).put 18 v9).put 19 v10).put 20 (vint 0)) h (contQ prog J 46 n0 97 [1, 1, 1, 0, 1, 0] (codeOf f97) [] (RetQ prog [.cell 2 127] n0 K)))) := by kernel_rfl
theorem l97_1 (hJ : Closed prog main J) {S : Type} (μ : S → Nat) (I : S → RG → List AObj → Prop) (hI : ∀ s f h, I s f h → heapOk h → n0 ≤ h.length → W prog J 46 n0 97 (subC [1, 1, 0, 1, 0, 0] (codeOf f97)) f h (thenK (Nx n0 μ I s) (contQ prog J 46 n0 97 [1, 1, 0, 1, 0] (codeOf f97) [] (RetQ prog [.cell 2 127] n0 K))))
  {s : S} {f : RG} (hi : Gets n0 I s f h) : Sem J 46 n0 97 (subC [1, 1, 0, 1, 0] (codeOf f97)) f h (contQ prog J 46 n0 97 [1, 1, 0, 1, 0] (codeOf f97) [] (RetQ prog [.cell 2 127] n0 K)) :=
  loop_rule hJ mixed (b := subC [1, 1, 0, 1, 0, 0] (codeOf f97)) (by kernel_rfl) μ I hI hi
-- loop [1, 1, 1, 0, 1, 0, 0]
theorem s97_2 {f : RG} {nx0 : RG → List AObj → Prop} : W prog J 46 n0 97 (subC [1, 1, 1, 0, 1, 0, 0] (codeOf f97)) f h (thenK nx0 (contQ prog J 46 n0 97 [1, 1, 1, 0, 1, 0] (codeOf f97) [] (RetQ prog [.cell 2 127] n0 K))) =
(aBin prog .lss 3 (f.r 20) (f.r 19) fun v1 =>
cnd v1
(aIdx 4 (f.r 18) (f.r 20) fun v2 =>
aLoad true 4 v2 h fun v3 =>
aAlloc [(vint 0), (vint 0), (vint 0), (vint 0)] h fun v4 h5 =>
aStore 4 v4 v3 h5 fun h6 =>
aNil (f.r 0) fun v7 =>
aOff v7 6 fun v8 =>
aLoad false 1 v8 h6 fun v9 =>
aConvI .u64 (f.r 20) fun v10 =>
aBin prog .shr 101 v9 v10 fun v11 =>
aBin prog .and 101 v11 (Value.int .u64 1) fun v12 =>
aBin prog .eql 101 v12 (Value.int .u64 0) fun v13 =>
cnd v13
((∃ B, aOff v4 0 fun v14 =>
aLoad false 1 v14 h6 fun v15 =>
RdOk (some B) (ptrBlk v14) ∧ (aOff v4 0 fun v16 =>
aLoad false 1 v16 h6 fun v17 =>
RdOk (some B) (ptrBlk v16) ∧ (aIdxA 5 2 (f.r 3) v17 fun v18 =>
aLoad true 2 v18 h6 fun v19 =>
RdOk (some B) (ptrBlk v18) ∧ (aLoad true 4 v4 h6 fun v20 =>
RdOk (some B) (ptrBlk v4) ∧ (Good prog J 78 [v20] h6 fun v21 h22 =>
SameB (some B) h6 h22 ∧ (Good prog J 99 [v19, v21] h22 fun v23 h24 =>
SameB (some B) h6 h24 ∧ (aIdxA 5 2 (f.r 3) v15 fun v25 =>
aStore 2 v25 v23 h24 fun h26 =>
aBin prog .add 3 (f.r 20) (vint 1) fun v27 =>
nx0 (((((((((((((((((((((((((((f.put 21 v1).put 22 (f.r 20)).put 23 v2).put 24 v3).put 6 v4).put 5 (f.r 20)).put 25 (f.r 0)).put 26 v7).put 27 v8).put 28 v9).put 29 (f.r 20)).put 30 v10).put 31 v11).put 32 v12).put 33 v13).put 34 v14).put 35 v15).put 36 v16).put 37 v17).put 38 v18).put 39 v19).put 40 v20).put 41 v21).put 42 v23).put 43 v25).put 44 v27).put 20 v27) h26))))))))
(aBin prog .add 3 (f.r 20) (vint 1) fun v28 =>
nx0 (((((((((((((((((f.put 21 v1).put 22 (f.r 20)).put 23 v2).put 24 v3).put 6 v4).put 5 (f.r 20)).put 25 (f.r 0)).put 26 v7).put 27 v8).put 28 v9).put 29 (f.r 20)).put 30 v10).put 31 v11).put 32 v12).put 33 v13).put 44 v28).put 20 v28) h6))
(aLoad true 10 (f.r 3) h fun v29 =>
aStore 10 (f.r 2) v29 h fun h30 =>
RetQ prog [.cell 2 127] n0 K .ret ((f.put 21 v1).put 45 v29) h30)) := by kernel_rfl
theorem l97_2 (hJ : Closed prog main J) {S : Type} (μ : S → Nat) (I : S → RG → List AObj → Prop) (hI : ∀ s f h, I s f h → heapOk h → n0 ≤ h.length → W prog J 46 n0 97 (subC [1, 1, 1, 0, 1, 0, 0] (codeOf f97)) f h (thenK (Nx n0 μ I s) (contQ prog J 46 n0 97 [1, 1, 1, 0, 1, 0] (codeOf f97) [] (RetQ prog [.cell 2 127] n0 K))))
  {s : S} {f : RG} (hi : Gets n0 I s f h) : Sem J 46 n0 97 (subC [1, 1, 1, 0, 1, 0] (codeOf f97)) f h (contQ prog J 46 n0 97 [1, 1, 1, 0, 1, 0] (codeOf f97) [] (RetQ prog [.cell 2 127] n0 K)) :=
  loop_rule hJ mixed (b := subC [1, 1, 1, 0, 1, 0, 0] (codeOf f97)) (by kernel_rfl) μ I hI hi
theorem at98 : prog.funcs[98]? = some f98 := by kernel_rfl
theorem body98 : f98.body = some (codeOf f98) := by kernel_rfl
theorem e98 {a0 : Value} : W prog J 10 h.length 98 (codeOf f98) (RG.mk (regs [a0]) []) h (RetQ prog [.cell 2 98] h.length K) =
(aBox a0 h fun v1 h2 =>
aAlloc [(vint 0), (vint 0)] h2 fun v3 h4 =>
aOff v1 1 fun v5 =>
aLoad false 1 v5 h4 fun v6 =>
aUn .neg v6 fun v7 =>
aOff v1 0 fun v8 =>
aLoad false 1 v8 h4 fun v9 =>
aUn .neg v9 fun v10 =>
aFill [(vint 0), (vint 0)] [(0, 1, v7), (1, 1, v10)] fun c11 =>
aStore 2 v3 (Value.agg ⟨c11⟩) h4 fun h12 =>
RetQ prog [.cell 2 98] h.length K .ret ((((((((((RG.mk (regs [a0]) []).put 1 v1).put 2 v3).put 3 v5).put 4 v6).put 5 v7).put 6 v8).put 7 v9).put 8 v10).put 9 (Value.agg ⟨c11⟩)) h12) := by kernel_rfl
theorem g98 (hJ : Closed prog main J) {a0 : Value} (hs : heapOk h → W prog J 10 h.length 98 (codeOf f98) (RG.mk (regs [a0]) []) h (RetQ prog [.cell 2 98] h.length K)) : Good prog J 98 [a0] h K :=
  good_of_W hJ mixed at98 body98 (by kernel_rfl) (Nat.le_of_ble_eq_true rfl) hs
theorem at99 : prog.funcs[99]? = some f99 := by kernel_rfl
theorem body99 : f99.body = some (codeOf f99) := by kernel_rfl
theorem e99 {a0 a1 : Value} : W prog J 16 h.length 99 (codeOf f99) (RG.mk (regs [a0, a1]) []) h (RetQ prog [.cell 4 98] h.length K) =
(aBox a0 h fun v1 h2 =>
aBox a1 h2 fun v3 h4 =>
aAlloc [(vint 0), (vint 0)] h4 fun v5 h6 =>
aOff v1 0 fun v7 =>
aLoad false 1 v7 h6 fun v8 =>
aOff v3 0 fun v9 =>
aLoad false 1 v9 h6 fun v10 =>
aMax v8 [v10] fun v11 =>
aOff v1 1 fun v12 =>
aLoad false 1 v12 h6 fun v13 =>
aOff v3 1 fun v14 =>
aLoad false 1 v14 h6 fun v15 =>
aMin v13 [v15] fun v16 =>
aFill [(vint 0), (vint 0)] [(0, 1, v11), (1, 1, v16)] fun c17 =>
aStore 2 v5 (Value.agg ⟨c17⟩) h6 fun h18 =>
RetQ prog [.cell 4 98] h.length K .ret (((((((((((((((RG.mk (regs [a0, a1]) []).put 2 v1).put 3 v3).put 4 v5).put 5 v7).put 6 v8).put 7 v9).put 8 v10).put 9 v11).put 10 v12).put 11 v13).put 12 v14).put 13 v15).put 14 v16).put 15 (Value.agg ⟨c17⟩)) h18) := by kernel_rfl
theorem g99 (hJ : Closed prog main J) {a0 a1 : Value} (hs : heapOk h → W prog J 16 h.length 99 (codeOf f99) (RG.mk (regs [a0, a1]) []) h (RetQ prog [.cell 4 98] h.length K)) : Good prog J 99 [a0, a1] h K :=
  good_of_W hJ mixed at99 body99 (by kernel_rfl) (Nat.le_of_ble_eq_true rfl) hs
theorem at100 : prog.funcs[100]? = some f100 := by kernel_rfl
theorem body100 : f100.body = some (codeOf f100) := by kernel_rfl
theorem e100 {a0 a1 : Value} : W prog J 16 h.length 100 (codeOf f100) (RG.mk (regs [a0, a1]) []) h (RetQ prog [.cell 4 98] h.length K) =
(aBox a0 h fun v1 h2 =>
aBox a1 h2 fun v3 h4 =>
aAlloc [(vint 0), (vint 0)] h4 fun v5 h6 =>
aOff v1 0 fun v7 =>
aLoad false 1 v7 h6 fun v8 =>
aOff v3 0 fun v9 =>
aLoad false 1 v9 h6 fun v10 =>
aBin prog .add 3 v8 v10 fun v11 =>
aOff v1 1 fun v12 =>
aLoad false 1 v12 h6 fun v13 =>
aOff v3 1 fun v14 =>
aLoad false 1 v14 h6 fun v15 =>
aBin prog .add 3 v13 v15 fun v16 =>
aFill [(vint 0), (vint 0)] [(0, 1, v11), (1, 1, v16)] fun c17 =>
aStore 2 v5 (Value.agg ⟨c17⟩) h6 fun h18 =>
RetQ prog [.cell 4 98] h.length K .ret (((((((((((((((RG.mk (regs [a0, a1]) []).put 2 v1).put 3 v3).put 4 v5).put 5 v7).put 6 v8).put 7 v9).put 8 v10).put 9 v11).put 10 v12).put 11 v13).put 12 v14).put 13 v15).put 14 v16).put 15 (Value.agg ⟨c17⟩)) h18) := by kernel_rfl
theorem g100 (hJ : Closed prog main J) {a0 a1 : Value} (hs : heapOk h → W prog J 16 h.length 100 (codeOf f100) (RG.mk (regs [a0, a1]) []) h (RetQ prog [.cell 4 98] h.length K)) : Good prog J 100 [a0, a1] h K :=
  good_of_W hJ mixed at100 body100 (by kernel_rfl) (Nat.le_of_ble_eq_true rfl) hs
theorem at101 : prog.funcs[101]? = some f101 := by kernel_rfl
theorem body101 : f101.body = some (codeOf f101) := by kernel_rfl
theorem e101 {a0 a1 : Value} : W prog J 21 h.length 101 (codeOf f101) (RG.mk (regs [a0, a1]) []) h (RetQ prog [.cell 4 98] h.length K) =
(aAlloc [(vint 0), (vint 0)] h fun v1 h2 =>
(∃ B, aNil a0 fun v3 =>
aOff v3 0 fun v4 =>
aOff v4 3 fun v5 =>
aLoad false 1 v5 h2 fun v6 =>
RdOk (some B) (ptrBlk v5) ∧ (aIdx 2 v6 a1 fun v7 =>
aLoad true 2 v7 h2 fun v8 =>
RdOk (some B) (ptrBlk v7) ∧ (aNil a0 fun v9 =>
aOff v9 0 fun v10 =>
aOff v10 4 fun v11 =>
aLoad false 1 v11 h2 fun v12 =>
RdOk (some B) (ptrBlk v11) ∧ (aUn .neg v12 fun v13 =>
aFill [(vint 0), (vint 0)] [(0, 1, v13), (1, 1, (vint 0))] fun c14 =>
Good prog J 100 [v8, (Value.agg ⟨c14⟩)] h2 fun v15 h16 =>
SameB (some B) h2 h16 ∧ (aStore 2 v1 v15 h16 fun h17 =>
RetQ prog [.cell 4 98] h.length K .ret ((((((((((((((((((RG.mk (regs [a0, a1]) []).put 4 v1).put 5 a0).put 6 v3).put 7 v4).put 8 v5).put 9 v6).put 10 a1).put 11 v7).put 12 v8).put 13 a0).put 14 v9).put 15 v10).put 16 v11).put 17 v12).put 18 v13).put 19 (Value.agg ⟨c14⟩)).put 20 v15) h17)))))) := by kernel_rfl
theorem g101 (hJ : Closed prog main J) {a0 a1 : Value} (hs : heapOk h → W prog J 21 h.length 101 (codeOf f101) (RG.mk (regs [a0, a1]) []) h (RetQ prog [.cell 4 98] h.length K)) : Good prog J 101 [a0, a1] h K :=
  good_of_W hJ mixed at101 body101 (by kernel_rfl) (Nat.le_of_ble_eq_true rfl) hs
theorem at104 : prog.funcs[104]? = some f104 := by kernel_rfl
theorem body104 : f104.body = some (codeOf f104) := by kernel_rfl
theorem e104 {a0 : Value} : W prog J 8 h.length 104 (codeOf f104) (RG.mk (regs [a0]) []) h (RetQ prog [.tmp 2] h.length K) =
(aBox a0 h fun v1 h2 =>
aOff v1 0 fun v3 =>
aLoad false 1 v3 h2 fun v4 =>
aOff v1 1 fun v5 =>
aLoad false 1 v5 h2 fun v6 =>
aBin prog .gtr 3 v4 v6 fun v7 =>
retL h.length K [] [v7] h2) := by kernel_rfl
theorem g104 (hJ : Closed prog main J) {a0 : Value} (hs : heapOk h → W prog J 8 h.length 104 (codeOf f104) (RG.mk (regs [a0]) []) h (RetQ prog [.tmp 2] h.length K)) : Good prog J 104 [a0] h K :=
  good_of_W hJ mixed at104 body104 (by kernel_rfl) (Nat.le_of_ble_eq_true rfl) hs
theorem at111 : prog.funcs[111]? = some f111 := by kernel_rfl
theorem body111 : f111.body = some (codeOf f111) := by kernel_rfl
theorem e111 {a0 a1 a2 : Value} : W prog J 38 h.length 111 (codeOf f111) (RG.mk (regs [a0, a1, a2]) []) h (RetQ prog [] h.length K) =
(aLoad false 1 a1 h fun v1 =>
aNil v1 fun v2 =>
aOff v2 0 fun v3 =>
aOff v3 1 fun v4 =>
aLoad true 2 v4 h fun v5 =>
aAlloc [(vint 0), (vint 0)] h fun v6 h7 =>
aStore 2 v6 v5 h7 fun h8 =>
aLoad false 1 a1 h8 fun v9 =>
aNil v9 fun v10 =>
aOff v10 0 fun v11 =>
aOff v11 0 fun v12 =>
aLoad false 1 v12 h8 fun v13 =>
Sem J 38 h.length 111 (subC [1, 1, 0] (codeOf f111)) (((((((((((((RG.mk (regs [a0, a1, a2]) []).put 6 v1).put 7 v2).put 8 v3).put 9 v4).put 10 v5).put 4 v6).put 11 v9).put 12 v10).put 13 v11).put 14 v12).put 15 v13).put 16 (vint 0)) h8 (contQ prog J 38 h.length 111 [1, 1, 0] (codeOf f111) [] (RetQ prog [] h.length K))) := by kernel_rfl
theorem g111 (hJ : Closed prog main J) {a0 a1 a2 : Value} (hs : heapOk h → W prog J 38 h.length 111 (codeOf f111) (RG.mk (regs [a0, a1, a2]) []) h (RetQ prog [] h.length K)) : Good prog J 111 [a0, a1, a2] h K :=
  good_of_W hJ mixed at111 body111 (by kernel_rfl) (Nat.le_of_ble_eq_true rfl) hs
-- loop [1, 1, 0, 0]
theorem s111_1 {f : RG} {nx0 : RG → List AObj → Prop} : W prog J 38 n0 111 (subC [1, 1, 0, 0] (codeOf f111)) f h (thenK nx0 (contQ prog J 38 n0 111 [1, 1, 0] (codeOf f111) [] (RetQ prog [] n0 K))) =
(aBin prog .lss 3 (f.r 16) (f.r 15) fun v1 =>
cnd v1
(aBin prog .gtr 3 (f.r 16) (vint 0) fun v2 =>
cnd v2
((∃ B, aLoad true 2 (f.r 4) h fun v3 =>
RdOk (some B) (ptrBlk (f.r 4)) ∧ (aLoad false 1 (f.r 1) h fun v4 =>
RdOk (some B) (ptrBlk (f.r 1)) ∧ (aBin prog .sub 3 (f.r 16) (vint 1) fun v5 =>
Good prog J 101 [v4, v5] h fun v6 h7 =>
SameB (some B) h h7 ∧ (Good prog J 100 [v3, v6] h7 fun v8 h9 =>
SameB (some B) h h9 ∧ (aStore 2 (f.r 4) v8 h9 fun h10 =>
aLoad true 2 (f.r 4) h10 fun v11 =>
aIdxA 5 2 (f.r 2) (f.r 16) fun v12 =>
aLoad true 2 v12 h10 fun v13 =>
Good prog J 99 [v11, v13] h10 fun v14 h15 =>
aStore 2 (f.r 4) v14 h15 fun h16 =>
aLoad true 2 (f.r 4) h16 fun v17 =>
callV prog (Good prog J) (f.r 0) [(f.r 16), v17] h16 fun v18 h19 =>
aUn .not v18 fun v20 =>
cnd v20
(retL n0 K f.ds [] h19)
(aBin prog .add 3 (f.r 16) (vint 1) fun v21 =>
nx0 (((((((((((((((((((((((f.put 17 v1).put 18 (f.r 16)).put 5 (f.r 16)).put 19 (f.r 16)).put 20 v2).put 21 v3).put 22 v4).put 23 (f.r 16)).put 24 v5).put 25 v6).put 26 v8).put 27 v11).put 28 (f.r 16)).put 29 v12).put 30 v13).put 31 v14).put 32 (f.r 0)).put 33 (f.r 16)).put 34 v17).put 35 v18).put 36 v20).put 37 v21).put 16 v21) h19)))))))
(aLoad true 2 (f.r 4) h fun v22 =>
aIdxA 5 2 (f.r 2) (f.r 16) fun v23 =>
aLoad true 2 v23 h fun v24 =>
Good prog J 99 [v22, v24] h fun v25 h26 =>
aStore 2 (f.r 4) v25 h26 fun h27 =>
aLoad true 2 (f.r 4) h27 fun v28 =>
callV prog (Good prog J) (f.r 0) [(f.r 16), v28] h27 fun v29 h30 =>
aUn .not v29 fun v31 =>
cnd v31
(retL n0 K f.ds [] h30)
(aBin prog .add 3 (f.r 16) (vint 1) fun v32 =>
nx0 (((((((((((((((((f.put 17 v1).put 18 (f.r 16)).put 5 (f.r 16)).put 19 (f.r 16)).put 20 v2).put 27 v22).put 28 (f.r 16)).put 29 v23).put 30 v24).put 31 v25).put 32 (f.r 0)).put 33 (f.r 16)).put 34 v28).put 35 v29).put 36 v31).put 37 v32).put 16 v32) h30)))
(retL n0 K f.ds [] h)) := by kernel_rfl
theorem l111_1 (hJ : Closed prog main J) {S : Type} (μ : S → Nat) (I : S → RG → List AObj → Prop) (hI : ∀ s f h, I s f h → heapOk h → n0 ≤ h.length → W prog J 38 n0 111 (subC [1, 1, 0, 0] (codeOf f111)) f h (thenK (Nx n0 μ I s) (contQ prog J 38 n0 111 [1, 1, 0] (codeOf f111) [] (RetQ prog [] n0 K))))
  {s : S} {f : RG} (hi : Gets n0 I s f h) : Sem J 38 n0 111 (subC [1, 1, 0] (codeOf f111)) f h (contQ prog J 38 n0 111 [1, 1, 0] (codeOf f111) [] (RetQ prog [] n0 K)) :=
  loop_rule hJ mixed (b := subC [1, 1, 0, 0] (codeOf f111)) (by kernel_rfl) μ I hI hi
theorem at74 : prog.funcs[74]? = some f74 := by kernel_rfl
theorem body74 : f74.body = some (codeOf f74) := by kernel_rfl
theorem e74 {a0 a1 : Value} : W prog J 43 h.length 74 (codeOf f74) (RG.mk (regs [a0, a1]) []) h (RetQ prog [.tmp 4] h.length K) =
(aNil a0 fun v1 =>
aOff v1 6 fun v2 =>
aStore 1 v2 a1 h fun h3 =>
Good prog J 97 [a0] h3 fun v4 h5 =>
aAlloc [(vint 0), (vint 0), (vint 0), (vint 0), (vint 0), (vint 0), (vint 0), (vint 0), (vint 0), (vint 0)] h5 fun v6 h7 =>
aStore 10 v6 v4 h7 fun h8 =>
aNil a0 fun v9 =>
aOff v9 7 fun v10 =>
aLoad false 1 v10 h8 fun v11 =>
aLoad true 10 v6 h8 fun v12 =>
aLook prog 120 true v11 v12 h8 fun v13 =>
aExt v13 0 fun v14 =>
aExt v13 1 fun v15 =>
cnd v15
(retL h.length K [] [v14] h8)
(aAlloc [(Value.bool false)] h8 fun v16 h17 =>
aStore 1 v16 (Value.bool true) h17 fun h18 =>
aLoad true 10 v6 h18 fun v19 =>
Good prog J 96 [a0, v19] h18 fun v20 h21 =>
Sem J 43 h.length 74 (subC [1, 0, 1, 1, 1, 1, 1, 0, 1, 0] (codeOf f74)) (((((((((((((((((((((((((RG.mk (regs [a0, a1]) []).put 4 (Value.bool false)).put 11 a0).put 12 a1).put 13 v1).put 14 v2).put 15 a0).put 16 v4).put 5 v6).put 18 a0).put 19 v9).put 20 v10).put 21 v11).put 22 v12).put 23 v13).put 17 v13).put 24 v14).put 25 v15).put 6 v14).put 7 v15).put 26 v15).put 8 v16).put 28 a0).put 29 v19).put 30 v20) h21 (contQ prog J 43 h.length 74 [1, 0, 1, 1, 1, 1, 1, 0, 1, 0] (codeOf f74) [] (RetQ prog [.tmp 4] h.length K)))) := by kernel_rfl
theorem g74 (hJ : Closed prog main J) {a0 a1 : Value} (hs : heapOk h → W prog J 43 h.length 74 (codeOf f74) (RG.mk (regs [a0, a1]) []) h (RetQ prog [.tmp 4] h.length K)) : Good prog J 74 [a0, a1] h K :=
  good_of_W hJ mixed at74 body74 (by kernel_rfl) (Nat.le_of_ble_eq_true rfl) hs
-- range [1, 0, 1, 1, 1, 1, 1, 0, 1, 0]
theorem a74_1 {f : RG} {fr : FuncId} {Q : QT} : W prog J 43 n0 fr (subC [1, 0, 1, 1, 1, 1, 1, 0, 1, 0, 0] (codeOf f74)) f h Q =
(aAlloc [(vint 0), (vint 0)] h fun v1 h2 =>
aStore 2 v1 (f.r 32) h2 fun h3 =>
Q .normal (f.put 10 v1) h3) := by kernel_rfl
theorem b74_1 {f : RG} {fr : FuncId} {Q : QT} : W prog J 43 n0 fr (subC [1, 0, 1, 1, 1, 1, 1, 0, 1, 0, 1] (codeOf f74)) f h Q =
(aLoad true 2 (f.r 10) h fun v1 =>
Good prog J 104 [v1] h fun v2 h3 =>
cnd v2
(aStore 1 (f.r 8) (Value.bool false) h3 fun h4 =>
Q (.exit 0) (((f.put 34 v1).put 35 v2).put 33 v2) h4)
(Q .normal (((f.put 34 v1).put 35 v2).put 33 v2) h3)) := by kernel_rfl
theorem c74_1x0 {f : RG} : (contQ prog J 43 n0 74 [1, 0, 1, 1, 1, 1, 1, 0, 1, 0] (codeOf f74) [] (RetQ prog [.tmp 4] n0 K)) (.exit 0) f h =
(aNil (f.r 0) fun v1 =>
aOff v1 7 fun v2 =>
aLoad false 1 v2 h fun v3 =>
aLoad true 10 (f.r 5) h fun v4 =>
aLoad false 1 (f.r 8) h fun v5 =>
((VOk h.length v5 ∧ one v5 = true) ∧ aUpd prog 120 v3 v4 v5 h fun h6 =>
aLoad false 1 (f.r 8) h6 fun v7 =>
retL n0 K f.ds [v7] h6)) := by kernel_rfl
theorem c74_1 {f : RG} : (contQ prog J 43 n0 74 [1, 0, 1, 1, 1, 1, 1, 0, 1, 0] (codeOf f74) [] (RetQ prog [.tmp 4] n0 K)) .normal f h =
(aNil (f.r 0) fun v1 =>
aOff v1 7 fun v2 =>
aLoad false 1 v2 h fun v3 =>
aLoad true 10 (f.r 5) h fun v4 =>
aLoad false 1 (f.r 8) h fun v5 =>
((VOk h.length v5 ∧ one v5 = true) ∧ aUpd prog 120 v3 v4 v5 h fun h6 =>
aLoad false 1 (f.r 8) h6 fun v7 =>
retL n0 K f.ds [v7] h6)) := by kernel_rfl
theorem l74_1 (hJ : Closed prog main J) {f : RG} {g : FuncId} {first cap : List Value} (hx : ev f.r ((Go.Operand.tmp 30)) = .func (.func g) ⟨first⟩ ⟨cap⟩) (hg : g < prog.funcs.size)
  (hs : Good prog J g (first ++ [.func (.yield (h.length + 1)) ⟨[]⟩ ⟨[]⟩] ++ cap) (h ++ [.deferred] ++ [.loop .ready none 74 f.r 43 #[31, 32] (subC [1, 0, 1, 1, 1, 1, 1, 0, 1, 0, 0] (codeOf f74)) (subC [1, 0, 1, 1, 1, 1, 1, 0, 1, 0, 1] (codeOf f74)) h.length]) (endQ h.length f (contQ prog J 43 n0 74 [1, 0, 1, 1, 1, 1, 1, 0, 1, 0] (codeOf f74) [] (RetQ prog [.tmp 4] n0 K)))) : Sem J 43 n0 74 (subC [1, 0, 1, 1, 1, 1, 1, 0, 1, 0] (codeOf f74)) f h (contQ prog J 43 n0 74 [1, 0, 1, 1, 1, 1, 1, 0, 1, 0] (codeOf f74) [] (RetQ prog [.tmp 4] n0 K)) :=
  Sem_range hJ (by decide) (fop := (Go.Operand.tmp 30)) (params := #[31, 32]) (assign := subC [1, 0, 1, 1, 1, 1, 1, 0, 1, 0, 0] (codeOf f74)) (body := subC [1, 0, 1, 1, 1, 1, 1, 0, 1, 0, 1] (codeOf f74)) hx hg hs
theorem at96 : prog.funcs[96]? = some f96 := by kernel_rfl
theorem body96 : f96.body = some (codeOf f96) := by kernel_rfl
theorem e96 {a0 a1 : Value} : W prog J 6 h.length 96 (codeOf f96) (RG.mk (regs [a0, a1]) []) h (RetQ prog [.tmp 4] h.length K) =
(aBox a0 h fun v1 h2 =>
aBox a1 h2 fun v3 h4 =>
aMkF 111 [] [v1, v3] fun v5 =>
retL h.length K [] [v5] h4) := by kernel_rfl
theorem g96 (hJ : Closed prog main J) {a0 a1 : Value} (hs : heapOk h → W prog J 6 h.length 96 (codeOf f96) (RG.mk (regs [a0, a1]) []) h (RetQ prog [.tmp 4] h.length K)) : Good prog J 96 [a0, a1] h K :=
  good_of_W hJ mixed at96 body96 (by kernel_rfl) (Nat.le_of_ble_eq_true rfl) hs
end
end Go.Proofs.Ytdgpacdknpahnaa

/- Printed by program: the forms to which the bodies of some functions come down. No conditions. -/
namespace Go.Proofs.Ytdgpacdknpahnaa
open Go.Conc Go.Proofs.Try
set_option maxRecDepth 100000
set_option linter.unusedVariables false
section
variable {main : Bool} {J : JT} {n0 : Nat} {h : List AObj} {K : Value → List AObj → Prop}
theorem at61 : prog.funcs[61]? = some f61 := by kernel_rfl
theorem body61 : f61.body = some (codeOf f61) := by kernel_rfl
theorem e61 {a0 a1 a2 : Value} : W prog J 152 h.length 61 (codeOf f61) (RG.mk (regs [a0, a1, a2]) []) h (RetQ prog [.cell 6 42, .tmp 7, .tmp 8] h.length K) =
(aAlloc [(vint 0), (vint 0), (vint 0), (Value.slice none 0 0), (vint 0), (Value.slice none 0 0)] h fun v1 h2 =>
aMin a1 [(vint 5)] fun v3 =>
Good prog J 20 [a0, (vint 1), v3] h2 fun v4 h5 =>
Good prog J 22 [a0, (vint 4)] h5 fun v6 h7 =>
((3 * 1 ≤ 16777216 ∧ 3 ≤ 16777216 ∧ List.length [(vint 0)] = 1) ∧ aFill (zrep [(vint 0)] 3) [(0, 1, (vint 1)), (1, 1, (vint 2)), (2, 1, v6)] fun c8 =>
aNewS 3 c8 h7 fun v9 h10 =>
Good prog J 21 [a0, (vint 0), v9] h10 fun v11 h12 =>
aFill [(vint 0), (vint 0), (vint 0), (Value.slice none 0 0), (vint 0), (Value.slice none 0 0)] [(0, 1, v4), (4, 1, v11)] fun c13 =>
aAlloc [(vint 0), (vint 0), (vint 0), (Value.slice none 0 0), (vint 0), (Value.slice none 0 0)] h12 fun v14 h15 =>
aStore 6 v14 (Value.agg ⟨c13⟩) h15 fun h16 =>
Good prog J 20 [a0, (vint 30), (vint 60)] h16 fun v17 h18 =>
aOff v14 1 fun v19 =>
aOff v19 0 fun v20 =>
aStore 1 v20 v17 h18 fun h21 =>
(∃ B, aOff v14 1 fun v22 =>
aOff v22 0 fun v23 =>
aLoad false 1 v23 h21 fun v24 =>
RdOk (some B) (ptrBlk v23) ∧ (Good prog J 22 [a0, (vint 3)] h21 fun v25 h26 =>
SameB (some B) h21 h26 ∧ (Good prog J 22 [a0, (vint 6)] h26 fun v27 h28 =>
SameB (some B) h21 h28 ∧ (((2 * 1 ≤ 16777216 ∧ 2 ≤ 16777216 ∧ List.length [(vint 0)] = 1) ∧ aFill (zrep [(vint 0)] 2) [(0, 1, v25), (1, 1, v27)] fun c29 =>
aNewS 2 c29 h28 fun v30 h31 =>
SameB (some B) h21 h31 ∧ (Good prog J 21 [a0, (vint 0), v30] h31 fun v32 h33 =>
SameB (some B) h21 h33 ∧ (aBin prog .add 3 v24 v32 fun v34 =>
aOff v14 1 fun v35 =>
aOff v35 1 fun v36 =>
aStore 1 v36 v34 h33 fun h37 =>
aOff v14 1 fun v38 =>
aOff v38 0 fun v39 =>
aLoad false 1 v39 h37 fun v40 =>
aOff v14 1 fun v41 =>
aOff v41 1 fun v42 =>
aLoad false 1 v42 h37 fun v43 =>
Good prog J 20 [a0, v40, v43] h37 fun v44 h45 =>
((1 * 1 ≤ 16777216 ∧ 1 ≤ 16777216 ∧ List.length [(vint 0)] = 1) ∧ aFill (zrep [(vint 0)] 1) [(0, 1, v44)] fun c46 =>
aNewS 1 c46 h45 fun v47 h48 =>
Sem J 152 h.length 61 (subC [1, 1, 1, 1, 1, 1, 1, 0, 1, 0] (codeOf f61)) ((((((((((((((((((((((((((((((((((((((((((((((RG.mk (regs [a0, a1, a2]) []).put 6 v1).put 7 (Value.slice none 0 0)).put 8 (Value.slice none 0 0)).put 19 a0).put 20 a1).put 21 v3).put 22 v4).put 23 a0).put 24 a0).put 25 v6).put 26 v9).put 27 v11).put 28 (Value.agg ⟨c13⟩)).put 9 v14).put 29 a0).put 30 v17).put 31 v19).put 32 v20).put 33 v22).put 34 v23).put 35 v24).put 36 a0).put 37 a0).put 39 a0).put 38 v25).put 40 v27).put 41 v30).put 42 v32).put 43 v34).put 44 v35).put 45 v36).put 46 a0).put 47 v38).put 48 v39).put 49 v40).put 50 v41).put 51 v42).put 52 v43).put 53 v44).put 10 v44).put 54 v44).put 55 v47).put 11 v47).put 12 (Value.slice none 0 0)).put 13 (vint 1)) h48 (contQ prog J 152 h.length 61 [1, 1, 1, 1, 1, 1, 1, 0, 1, 0] (codeOf f61) [] (RetQ prog [.cell 6 42, .tmp 7, .tmp 8] h.length K)))))))))))) := by kernel_rfl
theorem g61 (hJ : Closed prog main J) {a0 a1 a2 : Value} (hs : heapOk h → W prog J 152 h.length 61 (codeOf f61) (RG.mk (regs [a0, a1, a2]) []) h (RetQ prog [.cell 6 42, .tmp 7, .tmp 8] h.length K)) : Good prog J 61 [a0, a1, a2] h K :=
  good_of_W hJ mixed at61 body61 (by kernel_rfl) (Nat.le_of_ble_eq_true rfl) hs
-- loop [1, 1, 1, 1, 1, 1, 1, 0, 1, 0, 0]
theorem s61_1 {f : RG} {nx0 : RG → List AObj → Prop} : W prog J 152 n0 61 (subC [1, 1, 1, 1, 1, 1, 1, 0, 1, 0, 0] (codeOf f61)) f h (thenK nx0 (contQ prog J 152 n0 61 [1, 1, 1, 1, 1, 1, 1, 0, 1, 0] (codeOf f61) [] (RetQ prog [.cell 6 42, .tmp 7, .tmp 8] n0 K))) =
(aOff (f.r 9) 0 fun v1 =>
aLoad false 1 v1 h fun v2 =>
aBin prog .lss 3 (f.r 13) v2 fun v3 =>
cnd v3
(Good prog J 20 [(f.r 0), (vint (-3)), (vint 2)] h fun v4 h5 =>
aFill [(vint 0), (vint 0)] [(0, 1, v4)] fun c6 =>
aAlloc [(vint 0), (vint 0)] h5 fun v7 h8 =>
aStore 2 v7 (Value.agg ⟨c6⟩) h8 fun h9 =>
(∃ B, aOff v7 0 fun v10 =>
aLoad false 1 v10 h9 fun v11 =>
RdOk (some B) (ptrBlk v10) ∧ (Good prog J 22 [(f.r 0), (vint 2)] h9 fun v12 h13 =>
SameB (some B) h9 h13 ∧ (aBin prog .add 3 v11 v12 fun v14 =>
aOff v7 1 fun v15 =>
aStore 1 v15 v14 h13 fun h16 =>
aOff (f.r 9) 4 fun v17 =>
aLoad false 1 v17 h16 fun v18 =>
Good prog J 22 [(f.r 0), v18] h16 fun v19 h20 =>
aOff v7 0 fun v21 =>
aLoad false 1 v21 h20 fun v22 =>
aOff v7 1 fun v23 =>
aLoad false 1 v23 h20 fun v24 =>
Good prog J 20 [(f.r 0), v22, v24] h20 fun v25 h26 =>
aBin prog .add 3 (f.r 10) v25 fun v27 =>
aBin prog .sub 3 v27 v19 fun v28 =>
aOff (f.r 9) 3 fun v29 =>
aLoad false 1 v29 h26 fun v30 =>
aLoad true 2 v7 h26 fun v31 =>
((1 * 2 ≤ 16777216 ∧ 1 ≤ 16777216 ∧ List.length [(vint 0), (vint 0)] = 2) ∧ aFill (zrep [(vint 0), (vint 0)] 1) [(0, 2, v31)] fun c32 =>
aNewS 1 c32 h26 fun v33 h34 =>
((List.length [(vint 0), (vint 0)] = 2 ∧ 0 < 2 ∧ 0 < 16 ∧ 16 ≤ 1024) ∧ aApp 2 v30 v33 h34 fun v35 h36 =>
((1 * 1 ≤ 16777216 ∧ 1 ≤ 16777216 ∧ List.length [(vint 0)] = 1) ∧ aFill (zrep [(vint 0)] 1) [(0, 1, v28)] fun c37 =>
aNewS 1 c37 h36 fun v38 h39 =>
((List.length [(vint 0)] = 1 ∧ 0 < 1 ∧ 0 < 8 ∧ 8 ≤ 1024) ∧ aApp 1 (f.r 11) v38 h39 fun v40 h41 =>
((1 * 1 ≤ 16777216 ∧ 1 ≤ 16777216 ∧ List.length [(vint 0)] = 1) ∧ aFill (zrep [(vint 0)] 1) [(0, 1, v19)] fun c42 =>
aNewS 1 c42 h41 fun v43 h44 =>
((List.length [(vint 0)] = 1 ∧ 0 < 1 ∧ 0 < 8 ∧ 8 ≤ 1024) ∧ aApp 1 (f.r 12) v43 h44 fun v45 h46 =>
aOff (f.r 9) 3 fun v47 =>
aStore 1 v47 v35 h46 fun h48 =>
aBin prog .add 3 (f.r 13) (vint 1) fun v49 =>
nx0 (((((((((((((((((((((((((((((((((((((((((((((((((f.put 56 (f.r 13)).put 57 v1).put 58 v2).put 59 v3).put 62 (f.r 0)).put 63 v4).put 64 (Value.agg ⟨c6⟩)).put 14 v7).put 65 v10).put 66 v11).put 67 (f.r 0)).put 68 v12).put 69 v14).put 70 v15).put 71 (f.r 0)).put 72 v17).put 73 v18).put 74 v19).put 15 v19).put 75 (f.r 10)).put 76 (f.r 0)).put 77 v21).put 78 v22).put 79 v23).put 80 v24).put 81 v25).put 82 v27).put 83 v19).put 84 v28).put 10 v28).put 85 v29).put 86 v30).put 87 v31).put 88 v33).put 89 v35).put 90 (f.r 11)).put 91 v28).put 92 v38).put 93 v40).put 94 (f.r 12)).put 95 v19).put 96 v43).put 97 v45).put 98 v47).put 11 v40).put 12 v45).put 60 (f.r 13)).put 61 v49).put 13 v49) h48))))))))))
(aMin (f.r 2) [(vint 7)] fun v50 =>
Good prog J 22 [(f.r 0), v50] h fun v51 h52 =>
Sem J 152 n0 61 (subC [1, 1, 1, 1, 1, 1, 1, 1, 0, 1, 0] (codeOf f61)) (((((((((f.put 56 (f.r 13)).put 57 v1).put 58 v2).put 59 v3).put 99 (f.r 0)).put 100 (f.r 2)).put 101 v50).put 102 v51).put 16 v51) h52 (contQ prog J 152 n0 61 [1, 1, 1, 1, 1, 1, 1, 1, 0, 1, 0] (codeOf f61) [] (RetQ prog [.cell 6 42, .tmp 7, .tmp 8] n0 K)))) := by kernel_rfl
theorem l61_1 (hJ : Closed prog main J) {S : Type} (μ : S → Nat) (I : S → RG → List AObj → Prop) (hI : ∀ s f h, I s f h → heapOk h → n0 ≤ h.length → W prog J 152 n0 61 (subC [1, 1, 1, 1, 1, 1, 1, 0, 1, 0, 0] (codeOf f61)) f h (thenK (Nx n0 μ I s) (contQ prog J 152 n0 61 [1, 1, 1, 1, 1, 1, 1, 0, 1, 0] (codeOf f61) [] (RetQ prog [.cell 6 42, .tmp 7, .tmp 8] n0 K))))
  {s : S} {f : RG} (hi : Gets n0 I s f h) : Sem J 152 n0 61 (subC [1, 1, 1, 1, 1, 1, 1, 0, 1, 0] (codeOf f61)) f h (contQ prog J 152 n0 61 [1, 1, 1, 1, 1, 1, 1, 0, 1, 0] (codeOf f61) [] (RetQ prog [.cell 6 42, .tmp 7, .tmp 8] n0 K)) :=
  loop_rule hJ mixed (b := subC [1, 1, 1, 1, 1, 1, 1, 0, 1, 0, 0] (codeOf f61)) (by kernel_rfl) μ I hI hi
-- loop [1, 1, 1, 1, 1, 1, 1, 1, 0, 1, 0, 0]
theorem s61_2 {f : RG} {nx0 : RG → List AObj → Prop} : W prog J 152 n0 61 (subC [1, 1, 1, 1, 1, 1, 1, 1, 0, 1, 0, 0] (codeOf f61)) f h (thenK nx0 (contQ prog J 152 n0 61 [1, 1, 1, 1, 1, 1, 1, 1, 0, 1, 0] (codeOf f61) [] (RetQ prog [.cell 6 42, .tmp 7, .tmp 8] n0 K))) =
(aBin prog .gtr 3 (f.r 16) (vint 0) fun v1 =>
cnd v1
(aOff (f.r 9) 0 fun v2 =>
aLoad false 1 v2 h fun v3 =>
aBin prog .sub 3 v3 (vint 1) fun v4 =>
Good prog J 22 [(f.r 0), v4] h fun v5 h6 =>
Good prog J 20 [(f.r 0), (vint 1), (vint 4)] h6 fun v7 h8 =>
Good prog J 22 [(f.r 0), (vint 10)] h8 fun v9 h10 =>
Good prog J 22 [(f.r 0), (vint 20)] h10 fun v11 h12 =>
((4 * 1 ≤ 16777216 ∧ 4 ≤ 16777216 ∧ List.length [(vint 0)] = 1) ∧ aFill (zrep [(vint 0)] 4) [(0, 1, (vint 0)), (1, 1, (vint 3)), (2, 1, v9), (3, 1, v11)] fun c13 =>
aNewS 4 c13 h12 fun v14 h15 =>
Good prog J 21 [(f.r 0), (vint 0), v14] h15 fun v16 h17 =>
aFill [(vint 0), (vint 0), (vint 0), (vint 0)] [(0, 1, v5), (1, 1, v7), (3, 1, v16)] fun c18 =>
aAlloc [(vint 0), (vint 0), (vint 0), (vint 0)] h17 fun v19 h20 =>
aStore 4 v19 (Value.agg ⟨c18⟩) h20 fun h21 =>
aOff v19 3 fun v22 =>
aLoad false 1 v22 h21 fun v23 =>
aOff v19 0 fun v24 =>
aLoad false 1 v24 h21 fun v25 =>
aIdx 1 (f.r 11) v25 fun v26 =>
aLoad false 1 v26 h21 fun v27 =>
aBin prog .mul 3 v23 v27 fun v28 =>
aBin prog .quo 3 v28 (vint 100) fun v29 =>
(∃ B, aOff v19 0 fun v30 =>
aLoad false 1 v30 h21 fun v31 =>
RdOk (some B) (ptrBlk v30) ∧ (aIdx 1 (f.r 11) v31 fun v32 =>
aLoad false 1 v32 h21 fun v33 =>
RdOk (some B) (ptrBlk v32) ∧ (aUn .neg v29 fun v34 =>
Good prog J 20 [(f.r 0), v34, v29] h21 fun v35 h36 =>
SameB (some B) h21 h36 ∧ (aBin prog .add 3 v33 v35 fun v37 =>
aOff v19 2 fun v38 =>
aStore 1 v38 v37 h36 fun h39 =>
aOff (f.r 9) 5 fun v40 =>
aLoad false 1 v40 h39 fun v41 =>
aLoad true 4 v19 h39 fun v42 =>
((1 * 4 ≤ 16777216 ∧ 1 ≤ 16777216 ∧ List.length [(vint 0), (vint 0), (vint 0), (vint 0)] = 4) ∧ aFill (zrep [(vint 0), (vint 0), (vint 0), (vint 0)] 1) [(0, 4, v42)] fun c43 =>
aNewS 1 c43 h39 fun v44 h45 =>
((List.length [(vint 0), (vint 0), (vint 0), (vint 0)] = 4 ∧ 0 < 4 ∧ 0 < 32 ∧ 32 ≤ 1024) ∧ aApp 4 v41 v44 h45 fun v46 h47 =>
aOff (f.r 9) 5 fun v48 =>
aStore 1 v48 v46 h47 fun h49 =>
aBin prog .sub 3 (f.r 16) (vint 1) fun v50 =>
nx0 (((((((((((((((((((((((((((((((((((((((((((((((((f.put 103 (f.r 16)).put 104 v1).put 107 (f.r 0)).put 108 v2).put 109 v3).put 110 v4).put 111 v5).put 112 (f.r 0)).put 113 v7).put 114 (f.r 0)).put 115 (f.r 0)).put 116 v9).put 117 (f.r 0)).put 118 v11).put 119 v14).put 120 v16).put 121 (Value.agg ⟨c18⟩)).put 17 v19).put 122 v22).put 123 v23).put 124 (f.r 11)).put 125 v24).put 126 v25).put 127 v26).put 128 v27).put 129 v28).put 130 v29).put 18 v29).put 131 (f.r 11)).put 132 v30).put 133 v31).put 134 v32).put 135 v33).put 136 (f.r 0)).put 137 v29).put 138 v34).put 139 v29).put 140 v35).put 141 v37).put 142 v38).put 143 v40).put 144 v41).put 145 v42).put 146 v44).put 147 v46).put 148 v48).put 105 (f.r 16)).put 106 v50).put 16 v50) h49))))))))
(aLoad true 6 (f.r 9) h fun v51 =>
aStore 6 (f.r 6) v51 h fun h52 =>
RetQ prog [.cell 6 42, .tmp 7, .tmp 8] n0 K .ret (((((((f.put 103 (f.r 16)).put 104 v1).put 149 v51).put 150 (f.r 11)).put 151 (f.r 12)).put 7 (f.r 11)).put 8 (f.r 12)) h52)) := by kernel_rfl
theorem l61_2 (hJ : Closed prog main J) {S : Type} (μ : S → Nat) (I : S → RG → List AObj → Prop) (hI : ∀ s f h, I s f h → heapOk h → n0 ≤ h.length → W prog J 152 n0 61 (subC [1, 1, 1, 1, 1, 1, 1, 1, 0, 1, 0, 0] (codeOf f61)) f h (thenK (Nx n0 μ I s) (contQ prog J 152 n0 61 [1, 1, 1, 1, 1, 1, 1, 1, 0, 1, 0] (codeOf f61) [] (RetQ prog [.cell 6 42, .tmp 7, .tmp 8] n0 K))))
  {s : S} {f : RG} (hi : Gets n0 I s f h) : Sem J 152 n0 61 (subC [1, 1, 1, 1, 1, 1, 1, 1, 0, 1, 0] (codeOf f61)) f h (contQ prog J 152 n0 61 [1, 1, 1, 1, 1, 1, 1, 1, 0, 1, 0] (codeOf f61) [] (RetQ prog [.cell 6 42, .tmp 7, .tmp 8] n0 K)) :=
  loop_rule hJ mixed (b := subC [1, 1, 1, 1, 1, 1, 1, 1, 0, 1, 0, 0] (codeOf f61)) (by kernel_rfl) μ I hI hi
theorem at69 : prog.funcs[69]? = some f69 := by kernel_rfl
theorem body69 : f69.body = some (codeOf f69) := by kernel_rfl
theorem e69 {a0 a1 a2 : Value} : W prog J 13 h.length 69 (codeOf f69) (RG.mk (regs [a0, a1, a2]) []) h (RetQ prog [.tmp 6] h.length K) =
(aBin prog .sub 3 a2 (vint 1) fun v1 =>
Good prog J 22 [a0, v1] h fun v2 h3 =>
aBin prog .lss 3 v2 a1 fun v4 =>
retL h.length K [] [v4] h3) := by kernel_rfl
theorem g69 (hJ : Closed prog main J) {a0 a1 a2 : Value} (hs : heapOk h → W prog J 13 h.length 69 (codeOf f69) (RG.mk (regs [a0, a1, a2]) []) h (RetQ prog [.tmp 6] h.length K)) : Good prog J 69 [a0, a1, a2] h K :=
  good_of_W hJ mixed at69 body69 (by kernel_rfl) (Nat.le_of_ble_eq_true rfl) hs
theorem at28 : prog.funcs[28]? = some f28 := by kernel_rfl
theorem body28 : f28.body = some (codeOf f28) := by kernel_rfl
theorem e28 {a0 a1 a2 : Value} : W prog J 44 h.length 28 (codeOf f28) (RG.mk (regs [a0, a1, a2]) []) h (RetQ prog [.cell 6 42] h.length K) =
(aAlloc [(vint 0), (vint 0), (vint 0), (Value.slice none 0 0), (vint 0), (Value.slice none 0 0)] h fun v1 h2 =>
Good prog J 61 [a0, a1, a2] h2 fun v3 h4 =>
aExt v3 0 fun v5 =>
aExt v3 1 fun v6 =>
aExt v3 2 fun v7 =>
aAlloc [(vint 0), (vint 0), (vint 0), (Value.slice none 0 0), (vint 0), (Value.slice none 0 0)] h4 fun v8 h9 =>
aStore 6 v8 v5 h9 fun h10 =>
Sem J 44 h.length 28 (subC [1, 1, 0, 1, 0] (codeOf f28)) ((((((((((((((RG.mk (regs [a0, a1, a2]) []).put 6 v1).put 12 a0).put 13 a1).put 14 a2).put 15 v3).put 11 v3).put 16 v5).put 17 v6).put 18 v7).put 7 v8).put 8 v6).put 9 v7).put 10 (vint 0)) h10 (contQ prog J 44 h.length 28 [1, 1, 0, 1, 0] (codeOf f28) [] (RetQ prog [.cell 6 42] h.length K))) := by kernel_rfl
theorem g28 (hJ : Closed prog main J) {a0 a1 a2 : Value} (hs : heapOk h → W prog J 44 h.length 28 (codeOf f28) (RG.mk (regs [a0, a1, a2]) []) h (RetQ prog [.cell 6 42] h.length K)) : Good prog J 28 [a0, a1, a2] h K :=
  good_of_W hJ mixed at28 body28 (by kernel_rfl) (Nat.le_of_ble_eq_true rfl) hs
-- loop [1, 1, 0, 1, 0, 0]
theorem s28_1 {f : RG} {nx0 : RG → List AObj → Prop} : W prog J 44 n0 28 (subC [1, 1, 0, 1, 0, 0] (codeOf f28)) f h (thenK nx0 (contQ prog J 44 n0 28 [1, 1, 0, 1, 0] (codeOf f28) [] (RetQ prog [.cell 6 42] n0 K))) =
(aOff (f.r 7) 5 fun v1 =>
aLoad false 1 v1 h fun v2 =>
aLenS v2 fun v3 =>
aBin prog .lss 3 (f.r 10) v3 fun v4 =>
cnd v4
(Good prog J 69 [(f.r 0), (vint 1), (vint 4)] h fun v5 h6 =>
cnd v5
((∃ B, aOff (f.r 7) 5 fun v7 =>
aLoad false 1 v7 h6 fun v8 =>
RdOk (some B) (ptrBlk v7) ∧ (aOff (f.r 7) 5 fun v9 =>
aLoad false 1 v9 h6 fun v10 =>
RdOk (some B) (ptrBlk v9) ∧ (aIdx 4 v10 (f.r 10) fun v11 =>
aOff v11 2 fun v12 =>
aLoad false 1 v12 h6 fun v13 =>
RdOk (some B) (ptrBlk v12) ∧ (Good prog J 20 [(f.r 0), (vint (-8)), (vint 8)] h6 fun v14 h15 =>
SameB (some B) h6 h15 ∧ (aBin prog .add 3 v13 v14 fun v16 =>
aMax (vint 0) [v16] fun v17 =>
aIdx 4 v8 (f.r 10) fun v18 =>
aOff v18 2 fun v19 =>
aStore 1 v19 v17 h15 fun h20 =>
aBin prog .add 3 (f.r 10) (vint 1) fun v21 =>
nx0 (((((((((((((((((((((((((f.put 19 (f.r 10)).put 20 v1).put 21 v2).put 22 v3).put 23 v4).put 26 (f.r 0)).put 27 v5).put 28 v7).put 29 v8).put 30 (f.r 10)).put 31 v9).put 32 v10).put 33 (f.r 10)).put 34 v11).put 35 v12).put 36 v13).put 37 (f.r 0)).put 38 v14).put 39 v16).put 40 v17).put 41 v18).put 42 v19).put 24 (f.r 10)).put 25 v21).put 10 v21) h20))))))
(aBin prog .add 3 (f.r 10) (vint 1) fun v22 =>
nx0 ((((((((((f.put 19 (f.r 10)).put 20 v1).put 21 v2).put 22 v3).put 23 v4).put 26 (f.r 0)).put 27 v5).put 24 (f.r 10)).put 25 v22).put 10 v22) h6))
(aLoad true 6 (f.r 7) h fun v23 =>
aStore 6 (f.r 6) v23 h fun h24 =>
RetQ prog [.cell 6 42] n0 K .ret ((((((f.put 19 (f.r 10)).put 20 v1).put 21 v2).put 22 v3).put 23 v4).put 43 v23) h24)) := by kernel_rfl
theorem l28_1 (hJ : Closed prog main J) {S : Type} (μ : S → Nat) (I : S → RG → List AObj → Prop) (hI : ∀ s f h, I s f h → heapOk h → n0 ≤ h.length → W prog J 44 n0 28 (subC [1, 1, 0, 1, 0, 0] (codeOf f28)) f h (thenK (Nx n0 μ I s) (contQ prog J 44 n0 28 [1, 1, 0, 1, 0] (codeOf f28) [] (RetQ prog [.cell 6 42] n0 K))))
  {s : S} {f : RG} (hi : Gets n0 I s f h) : Sem J 44 n0 28 (subC [1, 1, 0, 1, 0] (codeOf f28)) f h (contQ prog J 44 n0 28 [1, 1, 0, 1, 0] (codeOf f28) [] (RetQ prog [.cell 6 42] n0 K)) :=
  loop_rule hJ mixed (b := subC [1, 1, 0, 1, 0, 0] (codeOf f28)) (by kernel_rfl) μ I hI hi
end
end Go.Proofs.Ytdgpacdknpahnaa

/- Printed by program: the forms to which the bodies of some functions come down. No conditions. -/
namespace Go.Proofs.Ytdgpacdknpahnaa
open Go.Conc Go.Proofs.Try
set_option maxRecDepth 100000
set_option linter.unusedVariables false
section
variable {main : Bool} {J : JT} {n0 : Nat} {h : List AObj} {K : Value → List AObj → Prop}
theorem at51 : prog.funcs[51]? = some f51 := by kernel_rfl
theorem body51 : f51.body = some (codeOf f51) := by kernel_rfl
theorem e51 {a0 : Value} : W prog J 72 h.length 51 (codeOf f51) (RG.mk (regs [a0]) []) h (RetQ prog [.tmp 2] h.length K) =
(aBox a0 h fun v1 h2 =>
aOff v1 0 fun v3 =>
aLoad false 1 v3 h2 fun v4 =>
Good prog J 67 [v4, (vint 1), (vint 5)] h2 fun v5 h6 =>
aUn .not v5 fun v7 =>
cnd v7
(retL h.length K [] [(vint 1)] h6)
(aOff v1 1 fun v8 =>
aLoad true 2 v8 h6 fun v9 =>
Good prog J 86 [v9, (vint 0), (vint 300)] h6 fun v10 h11 =>
aBin prog .neq 32 v10 (vint 0) fun v12 =>
cnd v12
(retL h.length K [] [v10] h11)
(aOff v1 3 fun v13 =>
aLoad false 1 v13 h11 fun v14 =>
aLenS v14 fun v15 =>
aOff v1 0 fun v16 =>
aLoad false 1 v16 h11 fun v17 =>
aBin prog .sub 3 v17 (vint 1) fun v18 =>
aBin prog .lss 3 v15 v18 fun v19 =>
cnd v19
(retL h.length K [] [(vint 7)] h11)
(aOff v1 0 fun v20 =>
aLoad false 1 v20 h11 fun v21 =>
aBin prog .sub 3 v21 (vint 1) fun v22 =>
aBin prog .gtr 3 v15 v22 fun v23 =>
cnd v23
(retL h.length K [] [(vint 6)] h11)
(aOff v1 3 fun v24 =>
aLoad false 1 v24 h11 fun v25 =>
aLenS v25 fun v26 =>
Sem J 72 h.length 51 (subC [1, 1, 1, 1, 0, 1, 0] (codeOf f51)) (((((((((((((((((((((((((((((((((RG.mk (regs [a0]) []).put 1 v1).put 2 (vint 0)).put 11 v3).put 12 v4).put 13 v5).put 14 v7).put 15 v8).put 16 v9).put 17 v10).put 3 v10).put 18 v10).put 19 v12).put 21 v13).put 22 v14).put 23 v15).put 4 v15).put 25 v15).put 26 v16).put 27 v17).put 28 v18).put 29 v19).put 24 v19).put 31 v15).put 32 v20).put 33 v21).put 34 v22).put 35 v23).put 30 v23).put 36 v24).put 37 v25).put 38 v26).put 39 (vint 0)) h11 (contQ prog J 72 h.length 51 [1, 1, 1, 1, 0, 1, 0] (codeOf f51) [] (RetQ prog [.tmp 2] h.length K))))))) := by kernel_rfl
theorem g51 (hJ : Closed prog main J) {a0 : Value} (hs : heapOk h → W prog J 72 h.length 51 (codeOf f51) (RG.mk (regs [a0]) []) h (RetQ prog [.tmp 2] h.length K)) : Good prog J 51 [a0] h K :=
  good_of_W hJ mixed at51 body51 (by kernel_rfl) (Nat.le_of_ble_eq_true rfl) hs
-- loop [1, 1, 1, 1, 0, 1, 0, 0]
theorem s51_1 {f : RG} {nx0 : RG → List AObj → Prop} : W prog J 72 n0 51 (subC [1, 1, 1, 1, 0, 1, 0, 0] (codeOf f51)) f h (thenK nx0 (contQ prog J 72 n0 51 [1, 1, 1, 1, 0, 1, 0] (codeOf f51) [] (RetQ prog [.tmp 2] n0 K))) =
(aBin prog .lss 3 (f.r 39) (f.r 38) fun v1 =>
cnd v1
(aIdx 2 (f.r 37) (f.r 39) fun v2 =>
aLoad true 2 v2 h fun v3 =>
aAlloc [(vint 0), (vint 0)] h fun v4 h5 =>
aStore 2 v4 v3 h5 fun h6 =>
aLoad true 2 v4 h6 fun v7 =>
Good prog J 86 [v7, (vint (-60)), (vint 60)] h6 fun v8 h9 =>
aBin prog .neq 32 v8 (vint 0) fun v10 =>
cnd v10
(retL n0 K f.ds [v8] h9)
(aBin prog .add 3 (f.r 39) (vint 1) fun v11 =>
nx0 (((((((((((f.put 40 v1).put 41 v2).put 42 v3).put 6 v4).put 43 v7).put 44 v8).put 7 v8).put 45 v8).put 46 v10).put 48 v11).put 39 v11) h9))
(aOff (f.r 1) 4 fun v12 =>
aLoad false 1 v12 h fun v13 =>
Good prog J 67 [v13, (vint 0), (vint 60)] h fun v14 h15 =>
aUn .not v14 fun v16 =>
cnd v16
(retL n0 K f.ds [(vint 1)] h15)
(aOff (f.r 1) 5 fun v17 =>
aLoad false 1 v17 h15 fun v18 =>
aLenS v18 fun v19 =>
aBin prog .gtr 3 v19 (vint 7) fun v20 =>
cnd v20
(retL n0 K f.ds [(vint 6)] h15)
(aOff (f.r 1) 5 fun v21 =>
aLoad false 1 v21 h15 fun v22 =>
aLenS v22 fun v23 =>
Sem J 72 n0 51 (subC [1, 1, 1, 1, 1, 1, 1, 0, 1, 0] (codeOf f51)) (((((((((((((f.put 40 v1).put 49 v12).put 50 v13).put 51 v14).put 52 v16).put 53 v17).put 54 v18).put 55 v19).put 56 v20).put 57 v21).put 58 v22).put 59 v23).put 60 (vint 0)) h15 (contQ prog J 72 n0 51 [1, 1, 1, 1, 1, 1, 1, 0, 1, 0] (codeOf f51) [] (RetQ prog [.tmp 2] n0 K)))))) := by kernel_rfl
theorem l51_1 (hJ : Closed prog main J) {S : Type} (μ : S → Nat) (I : S → RG → List AObj → Prop) (hI : ∀ s f h, I s f h → heapOk h → n0 ≤ h.length → W prog J 72 n0 51 (subC [1, 1, 1, 1, 0, 1, 0, 0] (codeOf f51)) f h (thenK (Nx n0 μ I s) (contQ prog J 72 n0 51 [1, 1, 1, 1, 0, 1, 0] (codeOf f51) [] (RetQ prog [.tmp 2] n0 K))))
  {s : S} {f : RG} (hi : Gets n0 I s f h) : Sem J 72 n0 51 (subC [1, 1, 1, 1, 0, 1, 0] (codeOf f51)) f h (contQ prog J 72 n0 51 [1, 1, 1, 1, 0, 1, 0] (codeOf f51) [] (RetQ prog [.tmp 2] n0 K)) :=
  loop_rule hJ mixed (b := subC [1, 1, 1, 1, 0, 1, 0, 0] (codeOf f51)) (by kernel_rfl) μ I hI hi
-- loop [1, 1, 1, 1, 1, 1, 1, 0, 1, 0, 0]
theorem s51_2 {f : RG} {nx0 : RG → List AObj → Prop} : W prog J 72 n0 51 (subC [1, 1, 1, 1, 1, 1, 1, 0, 1, 0, 0] (codeOf f51)) f h (thenK nx0 (contQ prog J 72 n0 51 [1, 1, 1, 1, 1, 1, 1, 0, 1, 0] (codeOf f51) [] (RetQ prog [.tmp 2] n0 K))) =
(aBin prog .lss 3 (f.r 60) (f.r 59) fun v1 =>
cnd v1
(aIdx 4 (f.r 58) (f.r 60) fun v2 =>
aLoad true 4 v2 h fun v3 =>
aAlloc [(vint 0), (vint 0), (vint 0), (vint 0)] h fun v4 h5 =>
aStore 4 v4 v3 h5 fun h6 =>
aLoad true 4 v4 h6 fun v7 =>
aOff (f.r 1) 0 fun v8 =>
aLoad false 1 v8 h6 fun v9 =>
Good prog J 77 [v7, v9] h6 fun v10 h11 =>
aBin prog .neq 32 v10 (vint 0) fun v12 =>
cnd v12
(retL n0 K f.ds [v10] h11)
(aBin prog .add 3 (f.r 60) (vint 1) fun v13 =>
nx0 (((((((((((((f.put 61 v1).put 62 v2).put 63 v3).put 9 v4).put 64 v7).put 65 v8).put 66 v9).put 67 v10).put 10 v10).put 68 v10).put 69 v12).put 71 v13).put 60 v13) h11))
(retL n0 K f.ds [(vint 0)] h)) := by kernel_rfl
theorem l51_2 (hJ : Closed prog main J) {S : Type} (μ : S → Nat) (I : S → RG → List AObj → Prop) (hI : ∀ s f h, I s f h → heapOk h → n0 ≤ h.length → W prog J 72 n0 51 (subC [1, 1, 1, 1, 1, 1, 1, 0, 1, 0, 0] (codeOf f51)) f h (thenK (Nx n0 μ I s) (contQ prog J 72 n0 51 [1, 1, 1, 1, 1, 1, 1, 0, 1, 0] (codeOf f51) [] (RetQ prog [.tmp 2] n0 K))))
  {s : S} {f : RG} (hi : Gets n0 I s f h) : Sem J 72 n0 51 (subC [1, 1, 1, 1, 1, 1, 1, 0, 1, 0] (codeOf f51)) f h (contQ prog J 72 n0 51 [1, 1, 1, 1, 1, 1, 1, 0, 1, 0] (codeOf f51) [] (RetQ prog [.tmp 2] n0 K)) :=
  loop_rule hJ mixed (b := subC [1, 1, 1, 1, 1, 1, 1, 0, 1, 0, 0] (codeOf f51)) (by kernel_rfl) μ I hI hi
theorem at52 : prog.funcs[52]? = some f52 := by kernel_rfl
theorem body52 : f52.body = some (codeOf f52) := by kernel_rfl
theorem e52 {a0 : Value} : W prog J 74 h.length 52 (codeOf f52) (RG.mk (regs [a0]) []) h (RetQ prog [.tmp 2] h.length K) =
(aBox a0 h fun v1 h2 =>
aOff v1 0 fun v3 =>
aLoad false 1 v3 h2 fun v4 =>
Good prog J 68 [v4, (vint 1), (vint 5)] h2 fun v5 h6 =>
aUn .not v5 fun v7 =>
cnd v7
(retL h.length K [] [(vint 1)] h6)
(aOff v1 1 fun v8 =>
aLoad true 2 v8 h6 fun v9 =>
Good prog J 87 [v9, (vint 0), (vint 300)] h6 fun v10 h11 =>
aBin prog .neq 32 v10 (vint 0) fun v12 =>
cnd v12
(retL h.length K [] [v10] h11)
(aOff v1 3 fun v13 =>
aLoad false 1 v13 h11 fun v14 =>
aLenS v14 fun v15 =>
aOff v1 0 fun v16 =>
aLoad false 1 v16 h11 fun v17 =>
aBin prog .sub 3 v17 (vint 1) fun v18 =>
aBin prog .lss 3 v15 v18 fun v19 =>
cnd v19
(retL h.length K [] [(vint 7)] h11)
(aOff v1 3 fun v20 =>
aLoad false 1 v20 h11 fun v21 =>
aLenS v21 fun v22 =>
aOff v1 0 fun v23 =>
aLoad false 1 v23 h11 fun v24 =>
aBin prog .sub 3 v24 (vint 1) fun v25 =>
aBin prog .gtr 3 v22 v25 fun v26 =>
cnd v26
(retL h.length K [] [(vint 6)] h11)
(Sem J 74 h.length 52 (subC [1, 1, 1, 1, 1, 0, 1, 0] (codeOf f52)) ((((((((((((((((((((((((((((RG.mk (regs [a0]) []).put 1 v1).put 2 (vint 0)).put 8 v3).put 9 v4).put 10 v5).put 11 v7).put 12 v8).put 13 v9).put 14 v10).put 3 v10).put 15 v10).put 16 v12).put 18 v13).put 19 v14).put 20 v15).put 21 v16).put 22 v17).put 23 v18).put 24 v19).put 25 v20).put 26 v21).put 27 v22).put 28 v23).put 29 v24).put 30 v25).put 31 v26).put 4 (vint 0)) h11 (contQ prog J 74 h.length 52 [1, 1, 1, 1, 1, 0, 1, 0] (codeOf f52) [] (RetQ prog [.tmp 2] h.length K))))))) := by kernel_rfl
theorem g52 (hJ : Closed prog main J) {a0 : Value} (hs : heapOk h → W prog J 74 h.length 52 (codeOf f52) (RG.mk (regs [a0]) []) h (RetQ prog [.tmp 2] h.length K)) : Good prog J 52 [a0] h K :=
  good_of_W hJ mixed at52 body52 (by kernel_rfl) (Nat.le_of_ble_eq_true rfl) hs
-- loop [1, 1, 1, 1, 1, 0, 1, 0, 0]
theorem s52_1 {f : RG} {nx0 : RG → List AObj → Prop} : W prog J 74 n0 52 (subC [1, 1, 1, 1, 1, 0, 1, 0, 0] (codeOf f52)) f h (thenK nx0 (contQ prog J 74 n0 52 [1, 1, 1, 1, 1, 0, 1, 0] (codeOf f52) [] (RetQ prog [.tmp 2] n0 K))) =
(aOff (f.r 1) 3 fun v1 =>
aLoad false 1 v1 h fun v2 =>
aLenS v2 fun v3 =>
aBin prog .lss 3 (f.r 4) v3 fun v4 =>
cnd v4
(aOff (f.r 1) 3 fun v5 =>
aLoad false 1 v5 h fun v6 =>
aIdx 2 v6 (f.r 4) fun v7 =>
aLoad true 2 v7 h fun v8 =>
Good prog J 87 [v8, (vint (-60)), (vint 60)] h fun v9 h10 =>
aBin prog .neq 32 v9 (vint 0) fun v11 =>
cnd v11
(retL n0 K f.ds [v9] h10)
(aBin prog .add 3 (f.r 4) (vint 1) fun v12 =>
nx0 (((((((((((((((((f.put 32 (f.r 4)).put 33 v1).put 34 v2).put 35 v3).put 36 v4).put 39 v5).put 40 v6).put 41 (f.r 4)).put 42 v7).put 43 v8).put 44 v9).put 5 v9).put 45 v9).put 46 v11).put 37 (f.r 4)).put 38 v12).put 4 v12) h10))
(aOff (f.r 1) 4 fun v13 =>
aLoad false 1 v13 h fun v14 =>
Good prog J 68 [v14, (vint 0), (vint 60)] h fun v15 h16 =>
aUn .not v15 fun v17 =>
cnd v17
(retL n0 K f.ds [(vint 1)] h16)
(aOff (f.r 1) 5 fun v18 =>
aLoad false 1 v18 h16 fun v19 =>
aLenS v19 fun v20 =>
aBin prog .gtr 3 v20 (vint 7) fun v21 =>
cnd v21
(retL n0 K f.ds [(vint 6)] h16)
(Sem J 74 n0 52 (subC [1, 1, 1, 1, 1, 1, 1, 1, 0, 1, 0] (codeOf f52)) ((((((((((((((f.put 32 (f.r 4)).put 33 v1).put 34 v2).put 35 v3).put 36 v4).put 48 v13).put 49 v14).put 50 v15).put 51 v17).put 52 v18).put 53 v19).put 54 v20).put 55 v21).put 6 (vint 0)) h16 (contQ prog J 74 n0 52 [1, 1, 1, 1, 1, 1, 1, 1, 0, 1, 0] (codeOf f52) [] (RetQ prog [.tmp 2] n0 K)))))) := by kernel_rfl
theorem l52_1 (hJ : Closed prog main J) {S : Type} (μ : S → Nat) (I : S → RG → List AObj → Prop) (hI : ∀ s f h, I s f h → heapOk h → n0 ≤ h.length → W prog J 74 n0 52 (subC [1, 1, 1, 1, 1, 0, 1, 0, 0] (codeOf f52)) f h (thenK (Nx n0 μ I s) (contQ prog J 74 n0 52 [1, 1, 1, 1, 1, 0, 1, 0] (codeOf f52) [] (RetQ prog [.tmp 2] n0 K))))
  {s : S} {f : RG} (hi : Gets n0 I s f h) : Sem J 74 n0 52 (subC [1, 1, 1, 1, 1, 0, 1, 0] (codeOf f52)) f h (contQ prog J 74 n0 52 [1, 1, 1, 1, 1, 0, 1, 0] (codeOf f52) [] (RetQ prog [.tmp 2] n0 K)) :=
  loop_rule hJ mixed (b := subC [1, 1, 1, 1, 1, 0, 1, 0, 0] (codeOf f52)) (by kernel_rfl) μ I hI hi
-- loop [1, 1, 1, 1, 1, 1, 1, 1, 0, 1, 0, 0]
theorem s52_2 {f : RG} {nx0 : RG → List AObj → Prop} : W prog J 74 n0 52 (subC [1, 1, 1, 1, 1, 1, 1, 1, 0, 1, 0, 0] (codeOf f52)) f h (thenK nx0 (contQ prog J 74 n0 52 [1, 1, 1, 1, 1, 1, 1, 1, 0, 1, 0] (codeOf f52) [] (RetQ prog [.tmp 2] n0 K))) =
(aOff (f.r 1) 5 fun v1 =>
aLoad false 1 v1 h fun v2 =>
aLenS v2 fun v3 =>
aBin prog .lss 3 (f.r 6) v3 fun v4 =>
cnd v4
((∃ B, aOff (f.r 1) 5 fun v5 =>
aLoad false 1 v5 h fun v6 =>
RdOk (some B) (ptrBlk v5) ∧ (aIdx 4 v6 (f.r 6) fun v7 =>
aLoad true 4 v7 h fun v8 =>
RdOk (some B) (ptrBlk v7) ∧ (aOff (f.r 1) 0 fun v9 =>
aLoad false 1 v9 h fun v10 =>
RdOk (some B) (ptrBlk v9) ∧ (Good prog J 84 [v8, v10] h fun v11 h12 =>
SameB (some B) h h12 ∧ (aBin prog .neq 32 v11 (vint 0) fun v13 =>
cnd v13
(retL n0 K f.ds [v11] h12)
(aBin prog .add 3 (f.r 6) (vint 1) fun v14 =>
nx0 (((((((((((((((((((f.put 56 (f.r 6)).put 57 v1).put 58 v2).put 59 v3).put 60 v4).put 63 v5).put 64 v6).put 65 (f.r 6)).put 66 v7).put 67 v8).put 68 v9).put 69 v10).put 70 v11).put 7 v11).put 71 v11).put 72 v13).put 61 (f.r 6)).put 62 v14).put 6 v14) h12)))))))
(retL n0 K f.ds [(vint 0)] h)) := by kernel_rfl
theorem l52_2 (hJ : Closed prog main J) {S : Type} (μ : S → Nat) (I : S → RG → List AObj → Prop) (hI : ∀ s f h, I s f h → heapOk h → n0 ≤ h.length → W prog J 74 n0 52 (subC [1, 1, 1, 1, 1, 1, 1, 1, 0, 1, 0, 0] (codeOf f52)) f h (thenK (Nx n0 μ I s) (contQ prog J 74 n0 52 [1, 1, 1, 1, 1, 1, 1, 1, 0, 1, 0] (codeOf f52) [] (RetQ prog [.tmp 2] n0 K))))
  {s : S} {f : RG} (hi : Gets n0 I s f h) : Sem J 74 n0 52 (subC [1, 1, 1, 1, 1, 1, 1, 1, 0, 1, 0] (codeOf f52)) f h (contQ prog J 74 n0 52 [1, 1, 1, 1, 1, 1, 1, 1, 0, 1, 0] (codeOf f52) [] (RetQ prog [.tmp 2] n0 K)) :=
  loop_rule hJ mixed (b := subC [1, 1, 1, 1, 1, 1, 1, 1, 0, 1, 0, 0] (codeOf f52)) (by kernel_rfl) μ I hI hi
theorem at84 : prog.funcs[84]? = some f84 := by kernel_rfl
theorem body84 : f84.body = some (codeOf f84) := by kernel_rfl
theorem e84 {a0 a1 : Value} : W prog J 27 h.length 84 (codeOf f84) (RG.mk (regs [a0, a1]) []) h (RetQ prog [.tmp 4] h.length K) =
(aBox a0 h fun v1 h2 =>
aOff v1 0 fun v3 =>
aLoad false 1 v3 h2 fun v4 =>
aBin prog .sub 3 a1 (vint 1) fun v5 =>
Good prog J 68 [v4, (vint 0), v5] h2 fun v6 h7 =>
aUn .not v6 fun v8 =>
cnd v8
(retL h.length K [] [(vint 3)] h7)
(aOff v1 1 fun v9 =>
aLoad false 1 v9 h7 fun v10 =>
Good prog J 68 [v10, (vint 1), (vint 9)] h7 fun v11 h12 =>
aUn .not v11 fun v13 =>
cnd v13
(cnd (Value.bool true)
(W prog J 27 h.length 84 (subC [1, 1, 0, 1] (codeOf f84)) (((((((((((((((((((((((((((RG.mk (regs [a0, a1]) []).put 2 v1).put 4 (vint 0)).put 5 v3).put 6 v4).put 7 a1).put 8 v5).put 9 v6).put 10 v8).put 11 v9).put 12 v10).put 13 v11).put 14 v13).put 15 v13).put 15 (Value.bool true)).put 16 undef).put 17 undef).put 18 undef).put 19 undef).put 20 (Value.bool true)).put 21 (Value.bool true)).put 21 (Value.bool true)).put 22 undef).put 23 undef).put 24 undef).put 25 undef).put 26 (Value.bool true)) h12 (contQ prog J 27 h.length 84 [1, 1, 0, 1] (codeOf f84) [] (RetQ prog [.tmp 4] h.length K)))
(aOff v1 3 fun v14 =>
aLoad false 1 v14 h12 fun v15 =>
Good prog J 68 [v15, (vint 0), (vint 20)] h12 fun v16 h17 =>
aUn .not v16 fun v18 =>
W prog J 27 h.length 84 (subC [1, 1, 0, 1] (codeOf f84)) (((((((((((((((((((((((((((RG.mk (regs [a0, a1]) []).put 2 v1).put 4 (vint 0)).put 5 v3).put 6 v4).put 7 a1).put 8 v5).put 9 v6).put 10 v8).put 11 v9).put 12 v10).put 13 v11).put 14 v13).put 15 v13).put 15 (Value.bool true)).put 16 undef).put 17 undef).put 18 undef).put 19 undef).put 20 (Value.bool true)).put 21 (Value.bool true)).put 21 (Value.bool false)).put 22 v14).put 23 v15).put 24 v16).put 25 v18).put 26 v18) h17 (contQ prog J 27 h.length 84 [1, 1, 0, 1] (codeOf f84) [] (RetQ prog [.tmp 4] h.length K))))
(aOff v1 2 fun v19 =>
aLoad false 1 v19 h12 fun v20 =>
Good prog J 68 [v20, (vint 0), (vint 300)] h12 fun v21 h22 =>
aUn .not v21 fun v23 =>
cnd v23
(W prog J 27 h.length 84 (subC [1, 1, 0, 1] (codeOf f84)) (((((((((((((((((((((((((((RG.mk (regs [a0, a1]) []).put 2 v1).put 4 (vint 0)).put 5 v3).put 6 v4).put 7 a1).put 8 v5).put 9 v6).put 10 v8).put 11 v9).put 12 v10).put 13 v11).put 14 v13).put 15 v13).put 15 (Value.bool false)).put 16 v19).put 17 v20).put 18 v21).put 19 v23).put 20 v23).put 21 v23).put 21 (Value.bool true)).put 22 undef).put 23 undef).put 24 undef).put 25 undef).put 26 (Value.bool true)) h22 (contQ prog J 27 h.length 84 [1, 1, 0, 1] (codeOf f84) [] (RetQ prog [.tmp 4] h.length K)))
(aOff v1 3 fun v24 =>
aLoad false 1 v24 h22 fun v25 =>
Good prog J 68 [v25, (vint 0), (vint 20)] h22 fun v26 h27 =>
aUn .not v26 fun v28 =>
W prog J 27 h.length 84 (subC [1, 1, 0, 1] (codeOf f84)) (((((((((((((((((((((((((((RG.mk (regs [a0, a1]) []).put 2 v1).put 4 (vint 0)).put 5 v3).put 6 v4).put 7 a1).put 8 v5).put 9 v6).put 10 v8).put 11 v9).put 12 v10).put 13 v11).put 14 v13).put 15 v13).put 15 (Value.bool false)).put 16 v19).put 17 v20).put 18 v21).put 19 v23).put 20 v23).put 21 v23).put 21 (Value.bool false)).put 22 v24).put 23 v25).put 24 v26).put 25 v28).put 26 v28) h27 (contQ prog J 27 h.length 84 [1, 1, 0, 1] (codeOf f84) [] (RetQ prog [.tmp 4] h.length K)))))) := by kernel_rfl
theorem g84 (hJ : Closed prog main J) {a0 a1 : Value} (hs : heapOk h → W prog J 27 h.length 84 (codeOf f84) (RG.mk (regs [a0, a1]) []) h (RetQ prog [.tmp 4] h.length K)) : Good prog J 84 [a0, a1] h K :=
  good_of_W hJ mixed at84 body84 (by kernel_rfl) (Nat.le_of_ble_eq_true rfl) hs
-- join [1, 1, 0, 1]
theorem s84_1 {f : RG} : W prog J 27 n0 84 (subC [1, 1, 0, 1] (codeOf f84)) f h (contQ prog J 27 n0 84 [1, 1, 0, 1] (codeOf f84) [] (RetQ prog [.tmp 4] n0 K)) =
(cnd (f.r 26)
(retL n0 K f.ds [(vint 1)] h)
(retL n0 K f.ds [(vint 0)] h)) := by kernel_rfl
theorem at86 : prog.funcs[86]? = some f86 := by kernel_rfl
theorem body86 : f86.body = some (codeOf f86) := by kernel_rfl
theorem e86 {a0 a1 a2 : Value} : W prog J 26 h.length 86 (codeOf f86) (RG.mk (regs [a0, a1, a2]) []) h (RetQ prog [.tmp 6] h.length K) =
(aBox a0 h fun v1 h2 =>
aOff v1 0 fun v3 =>
aLoad false 1 v3 h2 fun v4 =>
Good prog J 67 [v4, a1, a2] h2 fun v5 h6 =>
aUn .not v5 fun v7 =>
cnd v7
(W prog J 26 h.length 86 (subC [1, 0, 0, 1] (codeOf f86)) ((((((((((RG.mk (regs [a0, a1, a2]) []).put 3 v1).put 6 (vint 0)).put 8 v3).put 9 v4).put 10 a1).put 11 a2).put 12 v5).put 13 v7).put 7 v7) h6 (contQ prog J 26 h.length 86 [1, 0, 0, 1] (codeOf f86) [] (RetQ prog [.tmp 6] h.length K)))
(aOff v1 1 fun v8 =>
aLoad false 1 v8 h6 fun v9 =>
Good prog J 67 [v9, a1, a2] h6 fun v10 h11 =>
aUn .not v10 fun v12 =>
W prog J 26 h.length 86 (subC [1, 0, 0, 1] (codeOf f86)) (((((((((((((((((RG.mk (regs [a0, a1, a2]) []).put 3 v1).put 6 (vint 0)).put 8 v3).put 9 v4).put 10 a1).put 11 a2).put 12 v5).put 13 v7).put 7 v7).put 14 v8).put 15 v9).put 16 a1).put 17 a2).put 18 v10).put 19 v12).put 7 v12) h11 (contQ prog J 26 h.length 86 [1, 0, 0, 1] (codeOf f86) [] (RetQ prog [.tmp 6] h.length K)))) := by kernel_rfl
theorem g86 (hJ : Closed prog main J) {a0 a1 a2 : Value} (hs : heapOk h → W prog J 26 h.length 86 (codeOf f86) (RG.mk (regs [a0, a1, a2]) []) h (RetQ prog [.tmp 6] h.length K)) : Good prog J 86 [a0, a1, a2] h K :=
  good_of_W hJ mixed at86 body86 (by kernel_rfl) (Nat.le_of_ble_eq_true rfl) hs
-- join [1, 0, 0, 1]
theorem s86_1 {f : RG} : W prog J 26 n0 86 (subC [1, 0, 0, 1] (codeOf f86)) f h (contQ prog J 26 n0 86 [1, 0, 0, 1] (codeOf f86) [] (RetQ prog [.tmp 6] n0 K)) =
(cnd (f.r 7)
(retL n0 K f.ds [(vint 1)] h)
(aOff (f.r 3) 0 fun v1 =>
aLoad false 1 v1 h fun v2 =>
aOff (f.r 3) 1 fun v3 =>
aLoad false 1 v3 h fun v4 =>
aBin prog .gtr 3 v2 v4 fun v5 =>
cnd v5
(retL n0 K f.ds [(vint 5)] h)
(retL n0 K f.ds [(vint 0)] h))) := by kernel_rfl
theorem at87 : prog.funcs[87]? = some f87 := by kernel_rfl
theorem body87 : f87.body = some (codeOf f87) := by kernel_rfl
theorem e87 {a0 a1 a2 : Value} : W prog J 26 h.length 87 (codeOf f87) (RG.mk (regs [a0, a1, a2]) []) h (RetQ prog [.tmp 6] h.length K) =
(aBox a0 h fun v1 h2 =>
aOff v1 0 fun v3 =>
aLoad false 1 v3 h2 fun v4 =>
Good prog J 68 [v4, a1, a2] h2 fun v5 h6 =>
aUn .not v5 fun v7 =>
cnd v7
(W prog J 26 h.length 87 (subC [1, 0, 1] (codeOf f87)) ((((((((((((((((((RG.mk (regs [a0, a1, a2]) []).put 3 v1).put 6 (vint 0)).put 7 v3).put 8 v4).put 9 a1).put 10 a2).put 11 v5).put 12 v7).put 13 v7).put 13 (Value.bool true)).put 14 undef).put 15 undef).put 16 undef).put 17 undef).put 18 undef).put 19 undef).put 20 (Value.bool true)) h6 (contQ prog J 26 h.length 87 [1, 0, 1] (codeOf f87) [] (RetQ prog [.tmp 6] h.length K)))
(aOff v1 1 fun v8 =>
aLoad false 1 v8 h6 fun v9 =>
Good prog J 68 [v9, a1, a2] h6 fun v10 h11 =>
aUn .not v10 fun v12 =>
W prog J 26 h.length 87 (subC [1, 0, 1] (codeOf f87)) ((((((((((((((((((RG.mk (regs [a0, a1, a2]) []).put 3 v1).put 6 (vint 0)).put 7 v3).put 8 v4).put 9 a1).put 10 a2).put 11 v5).put 12 v7).put 13 v7).put 13 (Value.bool false)).put 14 v8).put 15 v9).put 16 a1).put 17 a2).put 18 v10).put 19 v12).put 20 v12) h11 (contQ prog J 26 h.length 87 [1, 0, 1] (codeOf f87) [] (RetQ prog [.tmp 6] h.length K)))) := by kernel_rfl
theorem g87 (hJ : Closed prog main J) {a0 a1 a2 : Value} (hs : heapOk h → W prog J 26 h.length 87 (codeOf f87) (RG.mk (regs [a0, a1, a2]) []) h (RetQ prog [.tmp 6] h.length K)) : Good prog J 87 [a0, a1, a2] h K :=
  good_of_W hJ mixed at87 body87 (by kernel_rfl) (Nat.le_of_ble_eq_true rfl) hs
-- join [1, 0, 1]
theorem s87_1 {f : RG} : W prog J 26 n0 87 (subC [1, 0, 1] (codeOf f87)) f h (contQ prog J 26 n0 87 [1, 0, 1] (codeOf f87) [] (RetQ prog [.tmp 6] n0 K)) =
(cnd (f.r 20)
(retL n0 K f.ds [(vint 1)] h)
(aOff (f.r 3) 0 fun v1 =>
aLoad false 1 v1 h fun v2 =>
aOff (f.r 3) 1 fun v3 =>
aLoad false 1 v3 h fun v4 =>
aBin prog .gtr 3 v2 v4 fun v5 =>
cnd v5
(retL n0 K f.ds [(vint 5)] h)
(retL n0 K f.ds [(vint 0)] h))) := by kernel_rfl
end
end Go.Proofs.Ytdgpacdknpahnaa

/- Printed by program: the forms to which the bodies of some functions come down. No conditions. -/
namespace Go.Proofs.Ytdgpacdknpahnaa
open Go.Conc Go.Proofs.Try
set_option maxRecDepth 100000
set_option linter.unusedVariables false
section
variable {main : Bool} {J : JT} {n0 : Nat} {h : List AObj} {K : Value → List AObj → Prop}
theorem at77 : prog.funcs[77]? = some f77 := by kernel_rfl
theorem body77 : f77.body = some (codeOf f77) := by kernel_rfl
theorem e77 {a0 a1 : Value} : W prog J 25 h.length 77 (codeOf f77) (RG.mk (regs [a0, a1]) []) h (RetQ prog [.tmp 4] h.length K) =
(aBox a0 h fun v1 h2 =>
aOff v1 0 fun v3 =>
aLoad false 1 v3 h2 fun v4 =>
aBin prog .sub 3 a1 (vint 1) fun v5 =>
Good prog J 67 [v4, (vint 0), v5] h2 fun v6 h7 =>
aUn .not v6 fun v8 =>
cnd v8
(retL h.length K [] [(vint 3)] h7)
(aOff v1 1 fun v9 =>
aLoad false 1 v9 h7 fun v10 =>
Good prog J 67 [v10, (vint 1), (vint 9)] h7 fun v11 h12 =>
aUn .not v11 fun v13 =>
cnd v13
(W prog J 25 h.length 77 (subC [1, 0, 0, 1, 1, 1] (codeOf f77)) (((((((((((((((RG.mk (regs [a0, a1]) []).put 2 v1).put 4 (vint 0)).put 6 v3).put 7 v4).put 8 a1).put 9 v5).put 10 v6).put 11 v8).put 5 v8).put 13 v9).put 14 v10).put 15 v11).put 16 v13).put 12 v13) h12 (contQ prog J 25 h.length 77 [1, 0, 0, 1, 1, 1] (codeOf f77) [] (RetQ prog [.tmp 4] h.length K)))
(aOff v1 2 fun v14 =>
aLoad false 1 v14 h12 fun v15 =>
Good prog J 67 [v15, (vint 0), (vint 300)] h12 fun v16 h17 =>
aUn .not v16 fun v18 =>
cnd v18
(W prog J 25 h.length 77 (subC [1, 0, 0, 1, 1, 1] (codeOf f77)) ((((((((((((((((((((RG.mk (regs [a0, a1]) []).put 2 v1).put 4 (vint 0)).put 6 v3).put 7 v4).put 8 a1).put 9 v5).put 10 v6).put 11 v8).put 5 v8).put 13 v9).put 14 v10).put 15 v11).put 16 v13).put 12 v13).put 17 v14).put 18 v15).put 19 v16).put 20 v18).put 12 v18) h17 (contQ prog J 25 h.length 77 [1, 0, 0, 1, 1, 1] (codeOf f77) [] (RetQ prog [.tmp 4] h.length K)))
(aOff v1 3 fun v19 =>
aLoad false 1 v19 h17 fun v20 =>
Good prog J 67 [v20, (vint 0), (vint 20)] h17 fun v21 h22 =>
aUn .not v21 fun v23 =>
W prog J 25 h.length 77 (subC [1, 0, 0, 1, 1, 1] (codeOf f77)) (((((((((((((((((((((((((RG.mk (regs [a0, a1]) []).put 2 v1).put 4 (vint 0)).put 6 v3).put 7 v4).put 8 a1).put 9 v5).put 10 v6).put 11 v8).put 5 v8).put 13 v9).put 14 v10).put 15 v11).put 16 v13).put 12 v13).put 17 v14).put 18 v15).put 19 v16).put 20 v18).put 12 v18).put 21 v19).put 22 v20).put 23 v21).put 24 v23).put 12 v23) h22 (contQ prog J 25 h.length 77 [1, 0, 0, 1, 1, 1] (codeOf f77) [] (RetQ prog [.tmp 4] h.length K)))))) := by kernel_rfl
theorem g77 (hJ : Closed prog main J) {a0 a1 : Value} (hs : heapOk h → W prog J 25 h.length 77 (codeOf f77) (RG.mk (regs [a0, a1]) []) h (RetQ prog [.tmp 4] h.length K)) : Good prog J 77 [a0, a1] h K :=
  good_of_W hJ mixed at77 body77 (by kernel_rfl) (Nat.le_of_ble_eq_true rfl) hs
-- join [1, 0, 0, 1, 1, 1]
theorem s77_1 {f : RG} : W prog J 25 n0 77 (subC [1, 0, 0, 1, 1, 1] (codeOf f77)) f h (contQ prog J 25 n0 77 [1, 0, 0, 1, 1, 1] (codeOf f77) [] (RetQ prog [.tmp 4] n0 K)) =
(cnd (f.r 12)
(retL n0 K f.ds [(vint 1)] h)
(retL n0 K f.ds [(vint 0)] h)) := by kernel_rfl
theorem at78 : prog.funcs[78]? = some f78 := by kernel_rfl
theorem body78 : f78.body = some (codeOf f78) := by kernel_rfl
theorem e78 {a0 : Value} : W prog J 22 h.length 78 (codeOf f78) (RG.mk (regs [a0]) []) h (RetQ prog [.cell 2 98] h.length K) =
(aBox a0 h fun v1 h2 =>
aAlloc [(vint 0), (vint 0)] h2 fun v3 h4 =>
aOff v1 2 fun v5 =>
aLoad false 1 v5 h4 fun v6 =>
aBin prog .mul 3 (vint 100) v6 fun v7 =>
aBin prog .add 3 v7 (vint 99) fun v8 =>
aOff v1 3 fun v9 =>
aLoad false 1 v9 h4 fun v10 =>
aBin prog .add 3 v8 v10 fun v11 =>
aOff v1 3 fun v12 =>
aLoad false 1 v12 h4 fun v13 =>
aBin prog .add 3 (vint 100) v13 fun v14 =>
aBin prog .quo 3 v11 v14 fun v15 =>
aOff v1 2 fun v16 =>
aLoad false 1 v16 h4 fun v17 =>
aBin prog .mul 3 (vint 100) v17 fun v18 =>
aOff v1 3 fun v19 =>
aLoad false 1 v19 h4 fun v20 =>
aBin prog .sub 3 (vint 100) v20 fun v21 =>
aBin prog .quo 3 v18 v21 fun v22 =>
aFill [(vint 0), (vint 0)] [(0, 1, v15), (1, 1, v22)] fun c23 =>
aStore 2 v3 (Value.agg ⟨c23⟩) h4 fun h24 =>
RetQ prog [.cell 2 98] h.length K .ret ((((((((((((((((((((((RG.mk (regs [a0]) []).put 1 v1).put 2 v3).put 3 v5).put 4 v6).put 5 v7).put 6 v8).put 7 v9).put 8 v10).put 9 v11).put 10 v12).put 11 v13).put 12 v14).put 13 v15).put 14 v16).put 15 v17).put 16 v18).put 17 v19).put 18 v20).put 19 v21).put 20 v22).put 21 (Value.agg ⟨c23⟩)) h24) := by kernel_rfl
theorem g78 (hJ : Closed prog main J) {a0 : Value} (hs : heapOk h → W prog J 22 h.length 78 (codeOf f78) (RG.mk (regs [a0]) []) h (RetQ prog [.cell 2 98] h.length K)) : Good prog J 78 [a0] h K :=
  good_of_W hJ mixed at78 body78 (by kernel_rfl) (Nat.le_of_ble_eq_true rfl) hs
theorem at40 : prog.funcs[40]? = some f40 := by kernel_rfl
theorem body40 : f40.body = some (codeOf f40) := by kernel_rfl
theorem e40 {a0 : Value} : W prog J 13 h.length 40 (codeOf f40) (RG.mk (regs [a0]) []) h (RetQ prog [.cell 2 38, .tmp 3] h.length K) =
(aBox a0 h fun v1 h2 =>
aAlloc [(vint 0), (vint 0)] h2 fun v3 h4 =>
aLoad true 4 v1 h4 fun v5 =>
Good prog J 77 [v5, (vint 5)] h4 fun v6 h7 =>
aBin prog .neq 32 v6 (vint 0) fun v8 =>
cnd v8
(aFill [(vint 0), (vint 0)] [] fun c9 =>
aStore 2 v3 (Value.agg ⟨c9⟩) h7 fun h10 =>
RetQ prog [.cell 2 38, .tmp 3] h.length K .ret ((((((((((((RG.mk (regs [a0]) []).put 1 v1).put 2 v3).put 3 (vint 0)).put 5 v5).put 6 v6).put 4 v6).put 7 v6).put 8 v8).put 9 (Value.agg ⟨c9⟩)).put 10 v6).put 3 v6) h10)
(aLoad true 4 v1 h7 fun v11 =>
Good prog J 78 [v11] h7 fun v12 h13 =>
aStore 2 v3 v12 h13 fun h14 =>
RetQ prog [.cell 2 38, .tmp 3] h.length K .ret ((((((((((((RG.mk (regs [a0]) []).put 1 v1).put 2 v3).put 3 (vint 0)).put 5 v5).put 6 v6).put 4 v6).put 7 v6).put 8 v8).put 11 v11).put 12 v12).put 3 (vint 0)) h14)) := by kernel_rfl
theorem g40 (hJ : Closed prog main J) {a0 : Value} (hs : heapOk h → W prog J 13 h.length 40 (codeOf f40) (RG.mk (regs [a0]) []) h (RetQ prog [.cell 2 38, .tmp 3] h.length K)) : Good prog J 40 [a0] h K :=
  good_of_W hJ mixed at40 body40 (by kernel_rfl) (Nat.le_of_ble_eq_true rfl) hs
end
end Go.Proofs.Ytdgpacdknpahnaa

/- Laws of the operations on plain values. No conditions. -/
namespace Go.Proofs.Ytdgpacdknpahnaa
open Go.Conc

section
variable {P : Program} {t : TypeId} {K : Value → Prop} {H : Value → List AObj → Prop} {k : IntKind} {a b : Int} {p : Prop} [Decidable p] {A B : Prop} {h : List AObj}

theorem cnd_dec : cnd (.bool (decide p)) A B ↔ (p → A) ∧ (¬p → B) := by simp [cnd]
theorem cnd_ndec : cnd (.bool (!decide p)) A B ↔ (¬p → A) ∧ (p → B) := by simp [cnd]
theorem cnd_bool {b : Bool} : cnd (.bool b) A B ↔ (b = true → A) ∧ (b = false → B) := Iff.rfl
theorem cnd_true : cnd (.bool true) A B ↔ A := by simp [cnd]
theorem cnd_false : cnd (.bool false) A B ↔ B := by simp [cnd]

theorem b_lss : aBin P .lss t (.int k a) (.int k b) K = K (.bool (decide (a < b))) := by simp [aBin, aInt]
theorem b_leq : aBin P .leq t (.int k a) (.int k b) K = K (.bool (decide (a ≤ b))) := by simp [aBin, aInt]
theorem b_gtr : aBin P .gtr t (.int k a) (.int k b) K = K (.bool (decide (a > b))) := by simp [aBin, aInt]
theorem b_geq : aBin P .geq t (.int k a) (.int k b) K = K (.bool (decide (a ≥ b))) := by simp [aBin, aInt]
theorem b_eql : aBin P .eql t (.int k a) (.int k b) K = K (.bool (decide (a = b))) := by simp [aBin, aInt]; rfl
theorem b_neq : aBin P .neq t (.int k a) (.int k b) K = K (.bool (decide (a ≠ b))) := by simp [aBin, aInt]; rfl

theorem wrap64 {n : Int} (h1 : -9223372036854775808 ≤ n) (h2 : n < 9223372036854775808) : IntKind.i64.wrap n = n := by
  simp only [IntKind.wrap, IntKind.bits, IntKind.signed]
  simp
  split <;> omega
theorem b_add (h : -9223372036854775808 ≤ a + b ∧ a + b < 9223372036854775808) : aBin P .add t (vint a) (vint b) K = K (vint (a + b)) := by simp [aBin, aInt, vint, wrap64 h.1 h.2]
theorem b_sub (h : -9223372036854775808 ≤ a - b ∧ a - b < 9223372036854775808) : aBin P .sub t (vint a) (vint b) K = K (vint (a - b)) := by simp [aBin, aInt, vint, wrap64 h.1 h.2]
theorem b_mul (h : -9223372036854775808 ≤ a * b ∧ a * b < 9223372036854775808) : aBin P .mul t (vint a) (vint b) K = K (vint (a * b)) := by simp [aBin, aInt, vint, wrap64 h.1 h.2]
theorem u_not {b : Bool} : aUn .not (.bool b) K = K (.bool (!b)) := rfl

theorem lenS {x : Option Addr} {n c : Nat} : aLenS (.slice x n c) K = K (vint n) := rfl
theorem idx_ok {s b o n c : Nat} {j : Int} : aIdx s (.slice (some ⟨b, o, none⟩) n c) (vint j) K = ((0 ≤ j ∧ j < n) ∧ K (ptr b (o + j.toNat * s))) := rfl
theorem load_cell {b o s : Nat} {c : List Value} {wr : Bool} {sz : Nat} {v : Value} (hb : h[b]? = some (.cells c wr sz)) (hv : c[o]? = some v) (hn : kn1 v = true) {K : Value → Prop} : aLoad false s (ptr b o) h K = K v := by
  simp [aLoad, hb, hv, hn]
theorem store_cell {b o : Nat} {c : List Value} {sz : Nat} {v : Value} (hb : h[b]? = some (.cells c true sz)) (ho : o < c.length) (h1 : v.cells = #[v]) (h2 : one v = true) {K : List AObj → Prop} (hk : K (h.set b (.cells (c.set o v) true sz))) : aStore 1 (ptr b o) v h K := by
  simp [aStore, ptr, hb, h1, h2, wrAt]
  exact ⟨ho, hk⟩

theorem sub_id {n : Nat} {v : Value} (h : VOk n v) : sub id v = v := sub_same (n := n) (fun _ _ => rfl) v h

theorem gc_id {n0 : Nat} (ok : heapOk h) (hn : n0 ≤ h.length) : GC n0 id h h :=
  ⟨hn, fun _ _ => rfl, fun i o hi => .inr (by rw [subO_same (σ := id) (n := h.length) (fun _ _ => rfl) (ok i o hi)]; exact hi), fun i j _ _ _ _ _ _ e => e, ok⟩

/-- Blocks at the end are forgotten. -/
theorem gc_drop {n0 : Nat} {g : List AObj} (ok : heapOk h) (hn : n0 ≤ h.length) : GC n0 id (h ++ g) h :=
  ⟨hn, fun _ _ => rfl, fun i o hi => .inr (by
    rw [subO_same (σ := id) (n := h.length) (fun _ _ => rfl) (ok i o hi)]
    have : i < h.length := by
      rcases Nat.lt_or_ge i h.length with x | x
      · exact x
      · rw [List.getElem?_eq_none x] at hi; cases hi
    simp only [id]
    rw [List.getElem?_append_left this]
    exact hi), fun i j _ _ _ _ _ _ e => e, ok⟩

theorem objOk_mono {n m : Nat} (hn : n ≤ m) {o : AObj} (ho : objOk n o) : objOk m o := by
  cases o with
  | dead => trivial
  | deferred => trivial
  | cells c wr sz => exact LOk.mono hn c ho
  | map es wr => exact fun e he => ⟨(ho e he).1, VOk.mono hn _ (ho e he).2⟩
  | loop st pend fn r size params assign body dfr => exact ⟨fun t => (ho.1 t).imp id (VOk.mono hn _), Nat.lt_of_lt_of_le ho.2 hn⟩

theorem retL_same {n0 : Nat} {vs : List Value} (hv : ∀ v ∈ vs, v ≠ unk) (hk : H (pack vs) h) : retL n0 H [] vs h := by
  unfold retL takeW
  have : ∀ (l : List Value) (p : Prop), (∀ v ∈ l, v ≠ unk) → p → nuK l p := by
    intro l
    induction l with
    | nil => intro p _ hp; exact hp
    | cons v l ih => intro p h hp; exact ⟨h v (by simp), ih p (fun u hu => h u (by simp [hu])) hp⟩
  exact this vs _ hv (.inl hk)
theorem retL_drop {n0 : Nat} {g : List AObj} {vs : List Value} (ok : heapOk h) (hn : n0 ≤ h.length) (hv : ∀ v ∈ vs, v ≠ unk) (hw : VOk h.length (pack vs)) (hk : H (pack vs) h) : retL n0 H [] vs (h ++ g) := by
  unfold retL takeW
  have : ∀ (l : List Value) (p : Prop), (∀ v ∈ l, v ≠ unk) → p → nuK l p := by
    intro l
    induction l with
    | nil => intro p _ hp; exact hp
    | cons v l ih => intro p h hp; exact ⟨h v (by simp), ih p (fun u hu => h u (by simp [hu])) hp⟩
  exact this vs _ hv (.inr ⟨id, h, pack vs, gc_drop ok hn, (sub_id hw).symm, hw, hk⟩)

/-! ### slices -/
/-- The slice v has n elements of s cells each, and these are its cells. -/
def Sli (h : List AObj) (v : Value) (s n : Nat) (cells : List Value) : Prop :=
  ∃ base c, v = .slice base n c ∧ (cells.length = n * s ∧ kn cells = true) ∧ ((base = none ∧ n = 0) ∨ ∃ b o, base = some ⟨b, o, none⟩ ∧ (n = 0 ∨ ∃ cs wr sz, h[b]? = some (.cells cs wr sz) ∧ (cs.drop o).take (n * s) = cells))

theorem sli_len {v : Value} {s n : Nat} {cells : List Value} (hs : Sli h v s n cells) : aLenS v K = K (vint n) := by
  obtain ⟨base, c, rfl, _⟩ := hs
  rfl

theorem sli_get {v : Value} {s n : Nat} {cells : List Value} (hs : Sli h v s n cells) {i : Int} (hi : 0 ≤ i ∧ i < n) :
    ∃ b o cs wr sz c, v = .slice (some ⟨b, o, none⟩) n c ∧ h[b]? = some (.cells cs wr sz) ∧ ∀ j x, cells[j]? = some x → cs[o + j]? = some x := by
  obtain ⟨base, c, rfl, ⟨hl, hkn⟩, hc⟩ := hs
  rcases hc with ⟨_, h0⟩ | ⟨b, o, rfl, h0 | ⟨cs, wr, sz, hb, rfl⟩⟩
  · omega
  · omega
  · refine ⟨b, o, cs, wr, sz, c, rfl, hb, fun j x hx => ?_⟩
    rw [List.getElem?_take] at hx
    split at hx
    · rw [List.getElem?_drop] at hx
      exact hx
    · cases hx

/-- An element of one cell is read. -/
theorem idx_load {v : Value} {n : Nat} {cells : List Value} {i : Int} {x : Value} {K : Value → Value → Prop} (hs : Sli h v 1 n cells) (hi : 0 ≤ i ∧ i < n) (hx : cells[i.toNat]? = some x) (hk : ∀ p, K p x) :
    aIdx 1 v (vint i) fun p => aLoad false 1 p h (K p) := by
  obtain ⟨b, o, cs, wr, sz, c, rfl, hb, hg⟩ := sli_get hs hi
  rw [idx_ok]
  refine ⟨hi, ?_⟩
  rw [load_cell hb (by simpa using hg _ _ hx) (by
    obtain ⟨_, _, _, ⟨_, hkn⟩, _⟩ := hs
    exact kn_get hkn hx)]
  exact hk _

theorem sli_app {v : Value} {s n : Nat} {cells : List Value} {g : List AObj} (hs : Sli h v s n cells) : Sli (h ++ g) v s n cells := by
  obtain ⟨base, c, rfl, ⟨hl, hkn⟩, hc⟩ := hs
  refine ⟨base, c, rfl, ⟨hl, hkn⟩, ?_⟩
  rcases hc with h0 | ⟨b, o, rfl, h0 | ⟨cs, wr, sz, hb, hx⟩⟩
  · exact .inl h0
  · exact .inr ⟨b, o, rfl, .inl h0⟩
  · refine .inr ⟨b, o, rfl, .inr ⟨cs, wr, sz, ?_, hx⟩⟩
    have : b < h.length := by
      rcases Nat.lt_or_ge b h.length with x | x
      · exact x
      · rw [List.getElem?_eq_none x] at hb; cases hb
    rw [List.getElem?_append_left this]
    exact hb

theorem sli_new {b n c : Nat} {cells : List Value} {wr : Bool} {sz : Nat} (hb : h[b]? = some (.cells cells wr sz)) (hl : cells.length = n) (hk : kn cells = true) : Sli h (.slice (some ⟨b, 0, none⟩) n c) 1 n cells :=
  ⟨_, c, rfl, ⟨by omega, hk⟩, .inr ⟨b, 0, rfl, .inr ⟨cells, wr, sz, hb, by simp [← hl]⟩⟩⟩

theorem sli_nil {s : Nat} : Sli h (.slice none 0 0) s 0 [] := ⟨none, 0, rfl, ⟨by simp, rfl⟩, .inl ⟨rfl, rfl⟩⟩

theorem sli_vlen {v : Value} {s n : Nat} {cells : List Value} (hs : Sli h v s n cells) : cells.length = n * s := by
  obtain ⟨_, _, _, ⟨hl, _⟩, _⟩ := hs
  exact hl

theorem src_sli {v : Value} {s n : Nat} {cells : List Value} {K : List Value → Prop} (hs : Sli h v s n cells) (hsp : 0 < s) (hk : K cells) : srcCells s n v h K := by
  obtain ⟨base, c, rfl, ⟨hl, hkn⟩, hc⟩ := hs
  rcases hc with ⟨rfl, rfl⟩ | ⟨b, o, rfl, h0 | ⟨cs, wr, sz, hb, rfl⟩⟩
  · have : cells = [] := List.length_eq_zero_iff.1 (by omega)
    subst this
    exact ⟨rfl, hk⟩
  · subst h0
    have : cells = [] := List.length_eq_zero_iff.1 (by omega)
    subst this
    exact ⟨fun _ => hk, fun x => absurd rfl x⟩
  · by_cases h0 : n = 0
    · subst h0
      exact ⟨fun _ => by simpa using hk, fun x => absurd rfl x⟩
    · refine ⟨fun x => absurd x h0, fun _ => ?_⟩
      simp only [hb]
      refine ⟨?_, hkn, hk⟩
      rw [List.length_take, List.length_drop] at hl
      have := Nat.mul_pos (Nat.pos_of_ne_zero h0) hsp
      omega

/-- Something is appended to the nil slice. -/
theorem app_nil {s m : Nat} {y : Value} {ys : List Value} (hsp : 0 < s) (hy : Sli h y s m ys) (hm : m ≤ room) (h0 : m = 0 → H (.slice none 0 0) h) (h1 : m ≠ 0 → H (.slice (some ⟨h.length, 0, none⟩) m fz) (h ++ [.cells ys true s])) : aApp s (.slice none 0 0) y h H := by
  have hy' := hy
  obtain ⟨yb, yc, rfl, _⟩ := hy
  exact ⟨by omega, src_sli hy' hsp ⟨⟨rfl, rfl⟩, h0, h1⟩⟩

/-- .. to a slice that was grown by append before: its block is given up. -/
theorem app_own {s n m b : Nat} {y : Value} {cs ys : List Value} (hb : h[b]? = some (.cells cs true s)) (hcs : n * s ≤ cs.length) (hkn : kn (cs.take (n * s)) = true) (hsp : 0 < s) (hy : Sli h y s m ys) (hm : n + m ≤ room)
    (hk : H (.slice (some ⟨h.length, 0, none⟩) (n + m) fz) (h.set b .dead ++ [.cells (cs.take (n * s) ++ ys) true s])) : aApp s (.slice (some ⟨b, 0, none⟩) n fz) y h H := by
  have hy' := hy
  obtain ⟨yb, yc, rfl, _⟩ := hy
  refine ⟨hm, src_sli hy' hsp ?_⟩
  simp only [hb, List.drop_zero, Nat.zero_add]
  have : s ≠ 0 := by omega
  exact ⟨⟨hcs, hkn⟩, fun x => absurd x (Nat.lt_irrefl _), fun _ => ⟨trivial, trivial, trivial, trivial, hk⟩⟩

/-- .. to a slice without room. -/
theorem app_copy {s n m b o c : Nat} {y : Value} {cs ys : List Value} {wr : Bool} {sz : Nat} (hb : h[b]? = some (.cells cs wr sz)) (hcs : o + n * s ≤ cs.length) (hkn : kn ((cs.drop o).take (n * s)) = true) (hc : c < n + m) (hsp : 0 < s) (hy : Sli h y s m ys) (hm : n + m ≤ room)
    (hk : H (.slice (some ⟨h.length, 0, none⟩) (n + m) fz) (h ++ [.cells ((cs.drop o).take (n * s) ++ ys) true s])) : aApp s (.slice (some ⟨b, o, none⟩) n c) y h H := by
  have hy' := hy
  obtain ⟨yb, yc, rfl, _⟩ := hy
  refine ⟨hm, src_sli hy' hsp ?_⟩
  simp only [hb]
  have hr : room = 1073741824 := rfl
  have hf : fz = 1180591620717411303424 := rfl
  exact ⟨⟨hcs, hkn⟩, fun _ => ⟨fun x => absurd x (by omega), fun _ => hk⟩, fun x => absurd x (by omega)⟩

theorem zrep_one {z : Value} (n : Nat) : zrep [z] n = List.replicate n z := by
  induction n with
  | zero => rfl
  | succ n ih => simp [zrep, ih, List.replicate_succ]

theorem mkS_one {z : Value} {n : Nat} (hn : n ≤ room) (hk : H (.slice (some ⟨h.length, 0, none⟩) n n) (h ++ [.cells (List.replicate n z) true 0])) : aMkS [z] (vint n) (vint n) h H := by
  have hr : room = 1073741824 := rfl
  simp only [aMkS, Int.toNat_natCast, zrep_one]
  exact ⟨by omega, by omega, by omega, hk⟩

theorem kn_ints (l : List Int) : kn (l.map vint) = true := by
  simp [kn, kn1]

theorem map_get {l : List Int} {k : Nat} (hk : k < l.length) : (l.map vint)[k]? = some (vint (l.getD k 0)) := by
  simp [hk]

theorem mul_bd {a b A B : Int} (h1 : 0 ≤ a) (h2 : a ≤ A) (h3 : 0 ≤ b) (h4 : b ≤ B) : 0 ≤ a * b ∧ a * b ≤ A * B :=
  ⟨Int.mul_nonneg h1 h3, Int.mul_le_mul h2 h4 h3 (by omega)⟩

/-! ### numbers of 64 bits without sign, of which no more is asked than that they are such -/
theorem wrapU (n : Int) : 0 ≤ IntKind.u64.wrap n ∧ IntKind.u64.wrap n < 18446744073709551616 := by
  simp only [IntKind.wrap, IntKind.bits, IntKind.signed]
  simp
  omega
theorem u_add (hk : ∀ y, 0 ≤ y → y < 18446744073709551616 → K (.int .u64 y)) : aBin P .add t (.int .u64 a) (.int .u64 b) K := ⟨rfl, hk _ (wrapU _).1 (wrapU _).2⟩
theorem u_mul (hk : ∀ y, 0 ≤ y → y < 18446744073709551616 → K (.int .u64 y)) : aBin P .mul t (.int .u64 a) (.int .u64 b) K := ⟨rfl, hk _ (wrapU _).1 (wrapU _).2⟩
theorem u_xor (hk : ∀ y, 0 ≤ y → y < 18446744073709551616 → K (.int .u64 y)) : aBin P .xor t (.int .u64 a) (.int .u64 b) K := ⟨rfl, hk _ (wrapU _).1 (wrapU _).2⟩
theorem u_shl (hb : 0 ≤ b) (hk : ∀ y, 0 ≤ y → y < 18446744073709551616 → K (.int .u64 y)) : aBin P .shl t (.int .u64 a) (.int k b) K := ⟨hb, hk _ (wrapU _).1 (wrapU _).2⟩
theorem u_shr (hb : 0 ≤ b) (ha : 0 ≤ a) {A : Int} (hA : a < A) (hk : ∀ y, 0 ≤ y → y < A → K (.int .u64 y)) : aBin P .shr t (.int .u64 a) (.int k b) K := by
  refine ⟨hb, hk _ ?_ ?_⟩
  · exact Int.fdiv_nonneg ha (by exact Int.le_of_lt (Int.pow_pos (by decide)))
  · refine Int.lt_of_le_of_lt ?_ hA
    rw [Int.fdiv_eq_ediv_of_nonneg _ (Int.le_of_lt (Int.pow_pos (by decide)))]
    exact Int.ediv_le_self _ ha

/-! ### of the new blocks only one is kept -/
def moveTo (n k : Nat) : Nat → Nat := fun i => if i = n then k else i

theorem gc_one {n0 : Nat} {g : List AObj} {k : Nat} {o : AObj} (ok : heapOk h) (hn : n0 ≤ h.length) (hk : (h ++ g)[k]? = some o) (hkn : h.length ≤ k) (ho : objOk h.length o) : GC n0 (moveTo h.length k) (h ++ g) (h ++ [o]) := by
  have hsame : Same h.length (moveTo h.length k) := fun b hb => by simp [moveTo]; omega
  refine ⟨by simp; omega, fun b hb => hsame b (by omega), fun i oi hi => .inr ?_, fun i j oi oj hi hj _ _ e => ?_, fun i oi hi => ?_⟩
  · rcases Nat.lt_or_ge i h.length with hlt | hge
    · rw [List.getElem?_append_left hlt] at hi
      rw [hsame i hlt, List.getElem?_append_left hlt, subO_same hsame (ok i oi hi)]
      exact hi
    · have hil : i = h.length := by
        have := (List.getElem?_eq_some_iff.1 hi).1
        simp at this
        omega
      subst hil
      have : oi = o := by simpa using hi.symm
      subst this
      rw [subO_same hsame ho]
      simpa [moveTo] using hk
  · have hil := (List.getElem?_eq_some_iff.1 hi).1
    have hjl := (List.getElem?_eq_some_iff.1 hj).1
    simp at hil hjl
    simp only [moveTo] at e
    split at e <;> split at e <;> omega
  · rcases Nat.lt_or_ge i h.length with hlt | hge
    · rw [List.getElem?_append_left hlt] at hi
      exact objOk_mono (by simp) (ok i oi hi)
    · have hil : i = h.length := by
        have := (List.getElem?_eq_some_iff.1 hi).1
        simp at this
        omega
      subst hil
      have : oi = o := by simpa using hi.symm
      subst this
      exact objOk_mono (by simp) ho

/-- A function that hands on a fresh slice: of its new blocks only that one is kept. -/
theorem retL_one {n0 : Nat} {g : List AObj} {k : Nat} {o : AObj} {m c : Nat} (ok : heapOk h) (hn : n0 ≤ h.length) (hk : (h ++ g)[k]? = some o) (hkn : h.length ≤ k) (ho : objOk h.length o)
    (hK : H (.slice (some ⟨h.length, 0, none⟩) m c) (h ++ [o])) : retL n0 H [] [.slice (some ⟨k, 0, none⟩) m c] (h ++ g) := by
  refine ⟨by simp [unk], .inr ⟨moveTo h.length k, h ++ [o], .slice (some ⟨h.length, 0, none⟩) m c, gc_one ok hn hk hkn ho, ?_, ?_, hK⟩⟩
  · simp [pack, sub, moveTo]
  · simp [VOk, AddrOk]
end
end Go.Proofs.Ytdgpacdknpahnaa

/- More laws of the operations. No conditions. -/
namespace Go.Proofs.Ytdgpacdknpahnaa
open Go.Conc

section
variable {P : Program} {t : TypeId} {K : Value → Prop} {H : Value → List AObj → Prop} {HL : List AObj → Prop} {a b : Int} {h g : List AObj} {A B : Prop}

theorem nil_okp {b o : Nat} : aNil (ptr b o) K = K (ptr b o) := rfl
theorem off_okp {b o d : Nat} : aOff (ptr b o) d K = K (ptr b (o + d)) := rfl
theorem ext_two {a b : Value} : (aExt (.tuple ⟨[a, b]⟩) 0 K = K a) ∧ (aExt (.tuple ⟨[a, b]⟩) 1 K = K b) := ⟨rfl, rfl⟩
theorem ext_three {a b c : Value} : (aExt (.tuple ⟨[a, b, c]⟩) 0 K = K a) ∧ (aExt (.tuple ⟨[a, b, c]⟩) 1 K = K b) ∧ (aExt (.tuple ⟨[a, b, c]⟩) 2 K = K c) := ⟨rfl, rfl, rfl⟩

theorem b_quo (h0 : 0 ≤ a) (h1 : 0 < b) (h2 : a < 9223372036854775808) (hk : K (vint (a / b))) : aBin P .quo t (vint a) (vint b) K := by
  have e : a.tdiv b = a / b := Int.tdiv_eq_ediv_of_nonneg h0
  have l1 : 0 ≤ a / b := Int.ediv_nonneg h0 (by omega)
  have l2 : a / b ≤ a := Int.ediv_le_self _ h0
  refine ⟨rfl, by omega, ?_⟩
  rw [e, wrap64 (by omega) (by omega)]
  exact hk

/-- A box with a struct of plain parts. -/
theorem box_agg {cs : List Value} (h1 : cs.all one = true) (hk : H (ptr h.length 0) (h ++ [.cells cs true 0])) : aBox (.agg ⟨cs⟩) h H := ⟨h1, hk⟩
theorem box_one {v : Value} (hc : v.cells = #[v]) (h1 : one v = true) (hk : H (ptr h.length 0) (h ++ [.cells [v] true 0])) : aBox v h H := by
  unfold aBox
  rw [hc]
  exact ⟨by simpa using h1, hk⟩

theorem load_part {b o s : Nat} {cs c : List Value} {wr : Bool} {sz : Nat} (hb : h[b]? = some (.cells cs wr sz)) (hl : o + s ≤ cs.length) (hc : (cs.drop o).take s = c) (hn : kn c = true) (hk : K (.agg ⟨c⟩)) : aLoad true s (ptr b o) h K := by
  simp only [aLoad, ptr, hb, cond_true, hc]
  exact ⟨hl, hn, hk⟩

theorem wrAt_all {s : List Value} : ∀ {cs : List Value} {o : Nat}, wrAt cs o s = (wrAt cs o s) := rfl

theorem store_agg {b : Nat} {cs c : List Value} {s : Nat} {sz : Nat} (hb : h[b]? = some (.cells cs true sz)) (hl : c.length = s) (hs : cs.length = s) (h1 : c.all one = true) (hk : HL (h.set b (.cells c true sz))) : aStore s (ptr b 0) (.agg ⟨c⟩) h HL := by
  have e : ∀ (c cs : List Value) (pre : List Value), cs.length = c.length → wrAt (pre ++ cs) pre.length c = pre ++ c := by
    intro c
    induction c with
    | nil =>
      intro cs pre h
      have : cs = [] := List.length_eq_zero_iff.1 (by simpa using h)
      subst this
      rfl
    | cons x c ih =>
      intro cs pre h
      cases cs with
      | nil => simp at h
      | cons y cs =>
        unfold wrAt
        have := ih cs (pre ++ [x]) (by simpa using h)
        simp only [List.length_append, List.length_cons, List.length_nil, List.append_assoc, List.cons_append, List.nil_append] at this
        simp only [List.set_append_right _ _ (Nat.le_refl _), Nat.sub_self, List.set_cons_zero]
        exact this
  simp only [aStore, ptr, hb, Value.cells]
  refine ⟨by simpa using hl, h1, by omega, ?_⟩
  have := e c cs [] (by omega)
  simp only [List.nil_append, List.length_nil] at this
  rw [this]
  exact hk

theorem fill1 {c : List Value} {off : Nat} {v : Value} {ps : List (Nat × Nat × Value)} {K : List Value → Prop} (h1 : v.cells = #[v]) (h2 : one v = true) (ho : off < c.length) (hk : aFill (c.set off v) ps K) : aFill c ((off, 1, v) :: ps) K := by
  refine ⟨by rw [h1]; rfl, by rw [h1]; simpa using h2, by omega, ?_⟩
  rw [h1]
  exact hk

theorem fill0 {c : List Value} {K : List Value → Prop} : aFill c [] K = K c := rfl

theorem resW_cell {rs : List ResultVar} {r : Nat → Value} {x : Nat} {gg : Bool} {s : Nat} {KL : List Value → Prop} (ht : tk P t = some (gg, s)) (hk : aLoad gg s (r x) h fun v => resW P rs r h fun vs => KL (v :: vs)) : resW P (.cell x t :: rs) r h KL := by
  unfold resW
  rw [ht]
  exact hk
theorem resW_tmp {rs : List ResultVar} {r : Nat → Value} {x : Nat} {KL : List Value → Prop} (hn : r x ≠ unk) (hk : resW P rs r h fun vs => KL (r x :: vs)) : resW P (.tmp x :: rs) r h KL := ⟨hn, hk⟩
theorem resW_nil {r : Nat → Value} {KL : List Value → Prop} (hk : KL []) : resW P [] r h KL := hk

theorem resW_imp : ∀ (rs : List ResultVar) {r : Nat → Value} {h : List AObj} {K K' : List Value → Prop}, resW P rs r h K → (∀ vs, K vs → K' vs) → resW P rs r h K'
  | [], r, h, K, K', hx, hk => hk _ hx
  | .tmp t :: rs, r, h, K, K', hx, hk => ⟨hx.1, resW_imp rs hx.2 fun vs => hk _⟩
  | .cell a t :: rs, r, h, K, K', hx, hk => by
    unfold resW at hx ⊢
    split at hx
    · obtain ⟨v, k1, k2⟩ := pin_aLoad _ hx
      exact k2 (fun v => resW P rs r h fun vs => K' (v :: vs)) (resW_imp rs k1 fun vs => hk _)
    · exact hx.elim

/-- A function that hands on values without blocks of its own; what it has made is forgotten. -/
theorem retQ_drop {rs : List ResultVar} {n0 : Nat} {f : RG} (ds : f.ds = []) (ok : heapOk h) (hn : n0 ≤ h.length) (hr : resW P rs f.r (h ++ g) fun vs => VOk h.length (pack vs) ∧ H (pack vs) h) : RetQ P rs n0 H .ret f (h ++ g) := by
  unfold RetQ
  rw [ds]
  exact resW_imp rs hr fun vs hv => .inr ⟨id, h, pack vs, gc_drop ok hn, (sub_id hv.1).symm, hv.1, hv.2⟩
end
end Go.Proofs.Ytdgpacdknpahnaa

/- Printed by program: the forms to which the bodies of some functions come down. No conditions. -/
namespace Go.Proofs.Ytdgpacdknpahnaa
open Go.Conc Go.Proofs.Try
set_option maxRecDepth 100000
set_option linter.unusedVariables false
section
variable {main : Bool} {J : JT} {n0 : Nat} {h : List AObj} {K : Value → List AObj → Prop}
theorem at67 : prog.funcs[67]? = some f67 := by kernel_rfl
theorem body67 : f67.body = some (codeOf f67) := by kernel_rfl
theorem e67 {a0 a1 a2 : Value} : W prog J 15 h.length 67 (codeOf f67) (RG.mk (regs [a0, a1, a2]) []) h (RetQ prog [.tmp 6] h.length K) =
(aBin prog .leq 3 a1 a0 fun v1 =>
cnd v1
(aBin prog .leq 3 a0 a2 fun v2 =>
retL h.length K [] [v2] h)
(retL h.length K [] [(Value.bool false)] h)) := by kernel_rfl
theorem g67 (hJ : Closed prog main J) {a0 a1 a2 : Value} (hs : heapOk h → W prog J 15 h.length 67 (codeOf f67) (RG.mk (regs [a0, a1, a2]) []) h (RetQ prog [.tmp 6] h.length K)) : Good prog J 67 [a0, a1, a2] h K :=
  good_of_W hJ mixed at67 body67 (by kernel_rfl) (Nat.le_of_ble_eq_true rfl) hs
theorem at25 : prog.funcs[25]? = some f25 := by kernel_rfl
theorem body25 : f25.body = some (codeOf f25) := by kernel_rfl
theorem e25 {a0 a1 : Value} : W prog J 79 h.length 25 (codeOf f25) (RG.mk (regs [a0, a1]) []) h (RetQ prog [.tmp 4, .tmp 5] h.length K) =
(aLenS a1 fun v1 =>
aBin prog .eql 3 v1 (vint 0) fun v2 =>
cnd v2
(retL h.length K [] [(Value.slice none 0 0), (vint 7)] h)
(aLenS a1 fun v3 =>
aBin prog .gtr 3 v3 (vint 5) fun v4 =>
cnd v4
(retL h.length K [] [(Value.slice none 0 0), (vint 6)] h)
(aLenS a1 fun v5 =>
Sem J 79 h.length 25 (subC [1, 1, 1, 0, 1, 0] (codeOf f25)) (((((((((((((((RG.mk (regs [a0, a1]) []).put 4 (Value.slice none 0 0)).put 5 (vint 0)).put 14 a1).put 15 v1).put 16 v2).put 13 v2).put 18 a1).put 19 v3).put 20 v4).put 17 v4).put 6 (vint 0)).put 21 a1).put 22 v5).put 23 (vint 0)) h (contQ prog J 79 h.length 25 [1, 1, 1, 0, 1, 0] (codeOf f25) [] (RetQ prog [.tmp 4, .tmp 5] h.length K))))) := by kernel_rfl
theorem g25 (hJ : Closed prog main J) {a0 a1 : Value} (hs : heapOk h → W prog J 79 h.length 25 (codeOf f25) (RG.mk (regs [a0, a1]) []) h (RetQ prog [.tmp 4, .tmp 5] h.length K)) : Good prog J 25 [a0, a1] h K :=
  good_of_W hJ mixed at25 body25 (by kernel_rfl) (Nat.le_of_ble_eq_true rfl) hs
-- loop [1, 1, 1, 0, 1, 0, 0]
theorem s25_1 {f : RG} {nx0 : RG → List AObj → Prop} : W prog J 79 n0 25 (subC [1, 1, 1, 0, 1, 0, 0] (codeOf f25)) f h (thenK nx0 (contQ prog J 79 n0 25 [1, 1, 1, 0, 1, 0] (codeOf f25) [] (RetQ prog [.tmp 4, .tmp 5] n0 K))) =
(aBin prog .lss 3 (f.r 23) (f.r 22) fun v1 =>
cnd v1
(aIdx 1 (f.r 21) (f.r 23) fun v2 =>
aLoad false 1 v2 h fun v3 =>
Good prog J 67 [v3, (vint 0), (vint 300)] h fun v4 h5 =>
aUn .not v4 fun v6 =>
cnd v6
(retL n0 K f.ds [(Value.slice none 0 0), (vint 1)] h5)
(aBin prog .add 3 (f.r 6) v3 fun v7 =>
aBin prog .add 3 (f.r 23) (vint 1) fun v8 =>
nx0 (((((((((((((f.put 24 v1).put 25 v2).put 26 v3).put 8 v3).put 27 v3).put 28 v4).put 29 v6).put 30 (f.r 6)).put 31 v3).put 32 v7).put 6 v7).put 33 v8).put 23 v8) h5))
(Good prog J 67 [(f.r 0), (vint 0), (f.r 6)] h fun v9 h10 =>
aUn .not v9 fun v11 =>
cnd v11
(retL n0 K f.ds [(Value.slice none 0 0), (vint 1)] h10)
(aLenS (f.r 1) fun v12 =>
((List.length [(vint 0)] = 1 ∧ 8 ≤ 1024) ∧ aMkS [(vint 0)] v12 v12 h10 fun v13 h14 =>
Sem J 79 n0 25 (subC [1, 1, 1, 1, 1, 1, 0, 1, 0] (codeOf f25)) (((((((((((f.put 24 v1).put 34 (f.r 0)).put 35 (f.r 6)).put 36 v9).put 37 v11).put 38 (f.r 1)).put 39 v12).put 40 v13).put 9 v13).put 41 (f.r 0)).put 42 (vint 0)) h14 (contQ prog J 79 n0 25 [1, 1, 1, 1, 1, 1, 0, 1, 0] (codeOf f25) [] (RetQ prog [.tmp 4, .tmp 5] n0 K)))))) := by kernel_rfl
theorem l25_1 (hJ : Closed prog main J) {S : Type} (μ : S → Nat) (I : S → RG → List AObj → Prop) (hI : ∀ s f h, I s f h → heapOk h → n0 ≤ h.length → W prog J 79 n0 25 (subC [1, 1, 1, 0, 1, 0, 0] (codeOf f25)) f h (thenK (Nx n0 μ I s) (contQ prog J 79 n0 25 [1, 1, 1, 0, 1, 0] (codeOf f25) [] (RetQ prog [.tmp 4, .tmp 5] n0 K))))
  {s : S} {f : RG} (hi : Gets n0 I s f h) : Sem J 79 n0 25 (subC [1, 1, 1, 0, 1, 0] (codeOf f25)) f h (contQ prog J 79 n0 25 [1, 1, 1, 0, 1, 0] (codeOf f25) [] (RetQ prog [.tmp 4, .tmp 5] n0 K)) :=
  loop_rule hJ mixed (b := subC [1, 1, 1, 0, 1, 0, 0] (codeOf f25)) (by kernel_rfl) μ I hI hi
-- loop [1, 1, 1, 1, 1, 1, 0, 1, 0, 0]
theorem s25_2 {f : RG} {nx0 : RG → List AObj → Prop} : W prog J 79 n0 25 (subC [1, 1, 1, 1, 1, 1, 0, 1, 0, 0] (codeOf f25)) f h (thenK nx0 (contQ prog J 79 n0 25 [1, 1, 1, 1, 1, 1, 0, 1, 0] (codeOf f25) [] (RetQ prog [.tmp 4, .tmp 5] n0 K))) =
(aBin prog .lss 3 (f.r 42) (f.r 41) fun v1 =>
cnd v1
(aLenS (f.r 1) fun v2 =>
Sem J 79 n0 25 (subC [1, 1, 1, 1, 1, 1, 0, 1, 0, 0, 1, 1, 0, 0, 1, 0, 1, 0] (codeOf f25)) (((((f.put 43 v1).put 10 (vint 0)).put 44 (f.r 1)).put 45 v2).put 46 (vint 0)) h (contQ prog J 79 n0 25 [1, 1, 1, 1, 1, 1, 0, 1, 0, 0, 1, 1, 0, 0, 1, 0, 1, 0] (codeOf f25) [nx0] (RetQ prog [.tmp 4, .tmp 5] n0 K)))
(retL n0 K f.ds [(f.r 9), (vint 0)] h)) := by kernel_rfl
theorem l25_2 (hJ : Closed prog main J) {S : Type} (μ : S → Nat) (I : S → RG → List AObj → Prop) (hI : ∀ s f h, I s f h → heapOk h → n0 ≤ h.length → W prog J 79 n0 25 (subC [1, 1, 1, 1, 1, 1, 0, 1, 0, 0] (codeOf f25)) f h (thenK (Nx n0 μ I s) (contQ prog J 79 n0 25 [1, 1, 1, 1, 1, 1, 0, 1, 0] (codeOf f25) [] (RetQ prog [.tmp 4, .tmp 5] n0 K))))
  {s : S} {f : RG} (hi : Gets n0 I s f h) : Sem J 79 n0 25 (subC [1, 1, 1, 1, 1, 1, 0, 1, 0] (codeOf f25)) f h (contQ prog J 79 n0 25 [1, 1, 1, 1, 1, 1, 0, 1, 0] (codeOf f25) [] (RetQ prog [.tmp 4, .tmp 5] n0 K)) :=
  loop_rule hJ mixed (b := subC [1, 1, 1, 1, 1, 1, 0, 1, 0, 0] (codeOf f25)) (by kernel_rfl) μ I hI hi
-- loop [1, 1, 1, 1, 1, 1, 0, 1, 0, 0, 1, 1, 0, 0, 1, 0, 1, 0, 0]
theorem s25_3 {f : RG} {nx0 nx1 : RG → List AObj → Prop} : W prog J 79 n0 25 (subC [1, 1, 1, 1, 1, 1, 0, 1, 0, 0, 1, 1, 0, 0, 1, 0, 1, 0, 0] (codeOf f25)) f h (thenK nx1 (contQ prog J 79 n0 25 [1, 1, 1, 1, 1, 1, 0, 1, 0, 0, 1, 1, 0, 0, 1, 0, 1, 0] (codeOf f25) [nx0] (RetQ prog [.tmp 4, .tmp 5] n0 K))) =
(aBin prog .lss 3 (f.r 46) (f.r 45) fun v1 =>
cnd v1
(aIdx 1 (f.r 44) (f.r 46) fun v2 =>
aLoad false 1 v2 h fun v3 =>
aIdx 1 (f.r 9) (f.r 10) fun v4 =>
aLoad false 1 v4 h fun v5 =>
aBin prog .add 3 v5 (vint 1) fun v6 =>
aBin prog .mul 3 v3 v6 fun v7 =>
aIdx 1 (f.r 1) (f.r 10) fun v8 =>
aLoad false 1 v8 h fun v9 =>
aIdx 1 (f.r 9) (f.r 46) fun v10 =>
aLoad false 1 v10 h fun v11 =>
aBin prog .add 3 v11 (vint 1) fun v12 =>
aBin prog .mul 3 v9 v12 fun v13 =>
aBin prog .gtr 3 v7 v13 fun v14 =>
cnd v14
(aBin prog .add 3 (f.r 46) (vint 1) fun v15 =>
nx1 ((((((((((((((((((((((((((((f.put 47 v1).put 48 (f.r 46)).put 49 v2).put 50 v3).put 11 (f.r 46)).put 12 v3).put 51 v3).put 52 (f.r 9)).put 53 (f.r 10)).put 54 v4).put 55 v5).put 56 v6).put 57 v7).put 58 (f.r 1)).put 59 (f.r 10)).put 60 v8).put 61 v9).put 62 (f.r 9)).put 63 (f.r 46)).put 64 v10).put 65 v11).put 66 v12).put 67 v13).put 68 v14).put 69 (f.r 46)).put 10 (f.r 46)).put 70 v15).put 46 v15) h)
(aBin prog .add 3 (f.r 46) (vint 1) fun v16 =>
nx1 ((((((((((((((((((((((((((f.put 47 v1).put 48 (f.r 46)).put 49 v2).put 50 v3).put 11 (f.r 46)).put 12 v3).put 51 v3).put 52 (f.r 9)).put 53 (f.r 10)).put 54 v4).put 55 v5).put 56 v6).put 57 v7).put 58 (f.r 1)).put 59 (f.r 10)).put 60 v8).put 61 v9).put 62 (f.r 9)).put 63 (f.r 46)).put 64 v10).put 65 v11).put 66 v12).put 67 v13).put 68 v14).put 70 v16).put 46 v16) h))
(aIdx 1 (f.r 9) (f.r 10) fun v17 =>
aLoad false 1 v17 h fun v18 =>
aBin prog .add 3 v18 (vint 1) fun v19 =>
aIdx 1 (f.r 9) (f.r 10) fun v20 =>
aStore 1 v20 v19 h fun h21 =>
aBin prog .add 3 (f.r 42) (vint 1) fun v22 =>
nx0 (((((((((f.put 47 v1).put 71 (f.r 9)).put 72 (f.r 10)).put 73 v17).put 74 v18).put 75 v19).put 76 v20).put 77 v22).put 42 v22) h21)) := by kernel_rfl
theorem l25_3 (hJ : Closed prog main J) {nx0 : RG → List AObj → Prop} {S : Type} (μ : S → Nat) (I : S → RG → List AObj → Prop) (hI : ∀ s f h, I s f h → heapOk h → n0 ≤ h.length → W prog J 79 n0 25 (subC [1, 1, 1, 1, 1, 1, 0, 1, 0, 0, 1, 1, 0, 0, 1, 0, 1, 0, 0] (codeOf f25)) f h (thenK (Nx n0 μ I s) (contQ prog J 79 n0 25 [1, 1, 1, 1, 1, 1, 0, 1, 0, 0, 1, 1, 0, 0, 1, 0, 1, 0] (codeOf f25) [nx0] (RetQ prog [.tmp 4, .tmp 5] n0 K))))
  {s : S} {f : RG} (hi : Gets n0 I s f h) : Sem J 79 n0 25 (subC [1, 1, 1, 1, 1, 1, 0, 1, 0, 0, 1, 1, 0, 0, 1, 0, 1, 0] (codeOf f25)) f h (contQ prog J 79 n0 25 [1, 1, 1, 1, 1, 1, 0, 1, 0, 0, 1, 1, 0, 0, 1, 0, 1, 0] (codeOf f25) [nx0] (RetQ prog [.tmp 4, .tmp 5] n0 K)) :=
  loop_rule hJ mixed (b := subC [1, 1, 1, 1, 1, 1, 0, 1, 0, 0, 1, 1, 0, 0, 1, 0, 1, 0, 0] (codeOf f25)) (by kernel_rfl) μ I hI hi
theorem at19 : prog.funcs[19]? = some f19 := by kernel_rfl
theorem body19 : f19.body = some (codeOf f19) := by kernel_rfl
theorem e19 {a0 : Value} : W prog J 6 h.length 19 (codeOf f19) (RG.mk (regs [a0]) []) h (RetQ prog [.tmp 2] h.length K) =
(aFill [(Value.slice none 0 0), (vint 0), (Value.int .u64 0)] [(0, 1, a0), (2, 1, (Value.int .u64 88172645463325252))] fun c1 =>
aBox (Value.agg ⟨c1⟩) h fun v2 h3 =>
retL h.length K [] [v2] h3) := by kernel_rfl
theorem g19 (hJ : Closed prog main J) {a0 : Value} (hs : heapOk h → W prog J 6 h.length 19 (codeOf f19) (RG.mk (regs [a0]) []) h (RetQ prog [.tmp 2] h.length K)) : Good prog J 19 [a0] h K :=
  good_of_W hJ mixed at19 body19 (by kernel_rfl) (Nat.le_of_ble_eq_true rfl) hs
theorem at20 : prog.funcs[20]? = some f20 := by kernel_rfl
theorem body20 : f20.body = some (codeOf f20) := by kernel_rfl
theorem e20 {a0 a1 a2 : Value} : W prog J 14 h.length 20 (codeOf f20) (RG.mk (regs [a0, a1, a2]) []) h (RetQ prog [.tmp 6] h.length K) =
(aBin prog .sub 3 a2 a1 fun v1 =>
Good prog J 22 [a0, v1] h fun v2 h3 =>
aBin prog .add 3 a1 v2 fun v4 =>
retL h.length K [] [v4] h3) := by kernel_rfl
theorem g20 (hJ : Closed prog main J) {a0 a1 a2 : Value} (hs : heapOk h → W prog J 14 h.length 20 (codeOf f20) (RG.mk (regs [a0, a1, a2]) []) h (RetQ prog [.tmp 6] h.length K)) : Good prog J 20 [a0, a1, a2] h K :=
  good_of_W hJ mixed at20 body20 (by kernel_rfl) (Nat.le_of_ble_eq_true rfl) hs
theorem at21 : prog.funcs[21]? = some f21 := by kernel_rfl
theorem body21 : f21.body = some (codeOf f21) := by kernel_rfl
theorem e21 {a0 a1 a2 : Value} : W prog J 20 h.length 21 (codeOf f21) (RG.mk (regs [a0, a1, a2]) []) h (RetQ prog [.tmp 6] h.length K) =
(aLenS a2 fun v1 =>
Good prog J 22 [a0, v1] h fun v2 h3 =>
aBin prog .gtr 3 v2 (vint 0) fun v4 =>
cnd v4
(aBin prog .sub 3 v2 (vint 1) fun v5 =>
aIdx 1 a2 v5 fun v6 =>
aLoad false 1 v6 h3 fun v7 =>
retL h.length K [] [v7] h3)
(retL h.length K [] [a1] h3)) := by kernel_rfl
theorem g21 (hJ : Closed prog main J) {a0 a1 a2 : Value} (hs : heapOk h → W prog J 20 h.length 21 (codeOf f21) (RG.mk (regs [a0, a1, a2]) []) h (RetQ prog [.tmp 6] h.length K)) : Good prog J 21 [a0, a1, a2] h K :=
  good_of_W hJ mixed at21 body21 (by kernel_rfl) (Nat.le_of_ble_eq_true rfl) hs
theorem at22 : prog.funcs[22]? = some f22 := by kernel_rfl
theorem body22 : f22.body = some (codeOf f22) := by kernel_rfl
theorem e22 {a0 a1 : Value} : W prog J 14 h.length 22 (codeOf f22) (RG.mk (regs [a0, a1]) []) h (RetQ prog [.tmp 4] h.length K) =
(aBin prog .leq 3 a1 (vint 0) fun v1 =>
cnd v1
(retL h.length K [] [(vint 0)] h)
(Good prog J 66 [a0] h fun v2 h3 =>
aBin prog .add 3 a1 (vint 1) fun v4 =>
aConvI .u64 v4 fun v5 =>
aBin prog .rem 85 v2 v5 fun v6 =>
aConvI .i64 v6 fun v7 =>
retL h.length K [] [v7] h3)) := by kernel_rfl
theorem g22 (hJ : Closed prog main J) {a0 a1 : Value} (hs : heapOk h → W prog J 14 h.length 22 (codeOf f22) (RG.mk (regs [a0, a1]) []) h (RetQ prog [.tmp 4] h.length K)) : Good prog J 22 [a0, a1] h K :=
  good_of_W hJ mixed at22 body22 (by kernel_rfl) (Nat.le_of_ble_eq_true rfl) hs
theorem at23 : prog.funcs[23]? = some f23 := by kernel_rfl
theorem body23 : f23.body = some (codeOf f23) := by kernel_rfl
theorem e23 {a0 : Value} : W prog J 18 h.length 23 (codeOf f23) (RG.mk (regs [a0]) []) h (RetQ prog [.tmp 2] h.length K) =
(Sem J 18 h.length 23 (subC [1, 1, 0, 1, 0] (codeOf f23)) ((((RG.mk (regs [a0]) []).put 2 (vint 0)).put 3 (vint 0)).put 4 (vint 0)) h (contQ prog J 18 h.length 23 [1, 1, 0, 1, 0] (codeOf f23) [] (RetQ prog [.tmp 2] h.length K))) := by kernel_rfl
theorem g23 (hJ : Closed prog main J) {a0 : Value} (hs : heapOk h → W prog J 18 h.length 23 (codeOf f23) (RG.mk (regs [a0]) []) h (RetQ prog [.tmp 2] h.length K)) : Good prog J 23 [a0] h K :=
  good_of_W hJ mixed at23 body23 (by kernel_rfl) (Nat.le_of_ble_eq_true rfl) hs
-- loop [1, 1, 0, 1, 0, 0]
theorem s23_1 {f : RG} {nx0 : RG → List AObj → Prop} : W prog J 18 n0 23 (subC [1, 1, 0, 1, 0, 0] (codeOf f23)) f h (thenK nx0 (contQ prog J 18 n0 23 [1, 1, 0, 1, 0] (codeOf f23) [] (RetQ prog [.tmp 2] n0 K))) =
(aLenS (f.r 0) fun v1 =>
aBin prog .lss 3 (f.r 4) v1 fun v2 =>
cnd v2
(aIdx 1 (f.r 0) (f.r 4) fun v3 =>
aLoad false 1 v3 h fun v4 =>
aBin prog .add 3 (f.r 3) v4 fun v5 =>
aBin prog .add 3 (f.r 4) (vint 1) fun v6 =>
nx0 ((((((((((((((f.put 5 (f.r 4)).put 6 (f.r 0)).put 7 v1).put 8 v2).put 11 (f.r 3)).put 12 (f.r 0)).put 13 (f.r 4)).put 14 v3).put 15 v4).put 16 v5).put 3 v5).put 9 (f.r 4)).put 10 v6).put 4 v6) h)
(retL n0 K f.ds [(f.r 3)] h)) := by kernel_rfl
theorem l23_1 (hJ : Closed prog main J) {S : Type} (μ : S → Nat) (I : S → RG → List AObj → Prop) (hI : ∀ s f h, I s f h → heapOk h → n0 ≤ h.length → W prog J 18 n0 23 (subC [1, 1, 0, 1, 0, 0] (codeOf f23)) f h (thenK (Nx n0 μ I s) (contQ prog J 18 n0 23 [1, 1, 0, 1, 0] (codeOf f23) [] (RetQ prog [.tmp 2] n0 K))))
  {s : S} {f : RG} (hi : Gets n0 I s f h) : Sem J 18 n0 23 (subC [1, 1, 0, 1, 0] (codeOf f23)) f h (contQ prog J 18 n0 23 [1, 1, 0, 1, 0] (codeOf f23) [] (RetQ prog [.tmp 2] n0 K)) :=
  loop_rule hJ mixed (b := subC [1, 1, 0, 1, 0, 0] (codeOf f23)) (by kernel_rfl) μ I hI hi
theorem at24 : prog.funcs[24]? = some f24 := by kernel_rfl
theorem body24 : f24.body = some (codeOf f24) := by kernel_rfl
theorem e24 {a0 : Value} : W prog J 6 h.length 24 (codeOf f24) (RG.mk (regs [a0]) []) h (RetQ prog [.tmp 2] h.length K) =
(((0 * 1 ≤ 16777216 ∧ 0 ≤ 16777216 ∧ List.length [(vint 0)] = 1) ∧ aFill (zrep [(vint 0)] 0) [] fun c1 =>
aNewS 0 c1 h fun v2 h3 =>
((List.length [(vint 0)] = 1 ∧ 0 < 1 ∧ 0 < 8 ∧ 8 ≤ 1024) ∧ aApp 1 v2 a0 h3 fun v4 h5 =>
retL h.length K [] [v4] h5))) := by kernel_rfl
theorem g24 (hJ : Closed prog main J) {a0 : Value} (hs : heapOk h → W prog J 6 h.length 24 (codeOf f24) (RG.mk (regs [a0]) []) h (RetQ prog [.tmp 2] h.length K)) : Good prog J 24 [a0] h K :=
  good_of_W hJ mixed at24 body24 (by kernel_rfl) (Nat.le_of_ble_eq_true rfl) hs
theorem at26 : prog.funcs[26]? = some f26 := by kernel_rfl
theorem body26 : f26.body = some (codeOf f26) := by kernel_rfl
theorem e26 {a0 a1 : Value} : W prog J 81 h.length 26 (codeOf f26) (RG.mk (regs [a0, a1]) []) h (RetQ prog [.tmp 4, .tmp 5] h.length K) =
(aLenS a1 fun v1 =>
aBin prog .eql 3 v1 (vint 0) fun v2 =>
cnd v2
(retL h.length K [] [(Value.slice none 0 0), (vint 7)] h)
(aLenS a1 fun v3 =>
aBin prog .gtr 3 v3 (vint 5) fun v4 =>
cnd v4
(retL h.length K [] [(Value.slice none 0 0), (vint 6)] h)
(Sem J 81 h.length 26 (subC [1, 1, 1, 1, 0, 1, 0] (codeOf f26)) (((((((((((RG.mk (regs [a0, a1]) []).put 4 (Value.slice none 0 0)).put 5 (vint 0)).put 11 a1).put 12 v1).put 13 v2).put 14 a1).put 15 v3).put 16 v4).put 6 (vint 0)).put 7 (vint 0)) h (contQ prog J 81 h.length 26 [1, 1, 1, 1, 0, 1, 0] (codeOf f26) [] (RetQ prog [.tmp 4, .tmp 5] h.length K))))) := by kernel_rfl
theorem g26 (hJ : Closed prog main J) {a0 a1 : Value} (hs : heapOk h → W prog J 81 h.length 26 (codeOf f26) (RG.mk (regs [a0, a1]) []) h (RetQ prog [.tmp 4, .tmp 5] h.length K)) : Good prog J 26 [a0, a1] h K :=
  good_of_W hJ mixed at26 body26 (by kernel_rfl) (Nat.le_of_ble_eq_true rfl) hs
-- loop [1, 1, 1, 1, 0, 1, 0, 0]
theorem s26_1 {f : RG} {nx0 : RG → List AObj → Prop} : W prog J 81 n0 26 (subC [1, 1, 1, 1, 0, 1, 0, 0] (codeOf f26)) f h (thenK nx0 (contQ prog J 81 n0 26 [1, 1, 1, 1, 0, 1, 0] (codeOf f26) [] (RetQ prog [.tmp 4, .tmp 5] n0 K))) =
(aLenS (f.r 1) fun v1 =>
aBin prog .lss 3 (f.r 7) v1 fun v2 =>
cnd v2
(aIdx 1 (f.r 1) (f.r 7) fun v3 =>
aLoad false 1 v3 h fun v4 =>
Good prog J 68 [v4, (vint 0), (vint 300)] h fun v5 h6 =>
aUn .not v5 fun v7 =>
cnd v7
(retL n0 K f.ds [(Value.slice none 0 0), (vint 1)] h6)
(aIdx 1 (f.r 1) (f.r 7) fun v8 =>
aLoad false 1 v8 h6 fun v9 =>
aBin prog .add 3 (f.r 6) v9 fun v10 =>
aBin prog .add 3 (f.r 7) (vint 1) fun v11 =>
nx0 ((((((((((((((((((((f.put 17 (f.r 7)).put 18 (f.r 1)).put 19 v1).put 20 v2).put 23 (f.r 1)).put 24 (f.r 7)).put 25 v3).put 26 v4).put 27 v5).put 28 v7).put 29 (f.r 6)).put 30 (f.r 1)).put 31 (f.r 7)).put 32 v8).put 33 v9).put 34 v10).put 6 v10).put 21 (f.r 7)).put 22 v11).put 7 v11) h6))
(Good prog J 68 [(f.r 0), (vint 0), (f.r 6)] h fun v12 h13 =>
aUn .not v12 fun v14 =>
cnd v14
(retL n0 K f.ds [(Value.slice none 0 0), (vint 1)] h13)
(aLenS (f.r 1) fun v15 =>
((List.length [(vint 0)] = 1 ∧ 8 ≤ 1024) ∧ aMkS [(vint 0)] v15 v15 h13 fun v16 h17 =>
Sem J 81 n0 26 (subC [1, 1, 1, 1, 1, 1, 1, 0, 0] (codeOf f26)) ((((((((((((f.put 17 (f.r 7)).put 18 (f.r 1)).put 19 v1).put 20 v2).put 35 (f.r 0)).put 36 (f.r 6)).put 37 v12).put 38 v14).put 39 (f.r 1)).put 40 v15).put 41 v16).put 8 v16) h17 (contQ prog J 81 n0 26 [1, 1, 1, 1, 1, 1, 1, 0, 0] (codeOf f26) [] (RetQ prog [.tmp 4, .tmp 5] n0 K)))))) := by kernel_rfl
theorem l26_1 (hJ : Closed prog main J) {S : Type} (μ : S → Nat) (I : S → RG → List AObj → Prop) (hI : ∀ s f h, I s f h → heapOk h → n0 ≤ h.length → W prog J 81 n0 26 (subC [1, 1, 1, 1, 0, 1, 0, 0] (codeOf f26)) f h (thenK (Nx n0 μ I s) (contQ prog J 81 n0 26 [1, 1, 1, 1, 0, 1, 0] (codeOf f26) [] (RetQ prog [.tmp 4, .tmp 5] n0 K))))
  {s : S} {f : RG} (hi : Gets n0 I s f h) : Sem J 81 n0 26 (subC [1, 1, 1, 1, 0, 1, 0] (codeOf f26)) f h (contQ prog J 81 n0 26 [1, 1, 1, 1, 0, 1, 0] (codeOf f26) [] (RetQ prog [.tmp 4, .tmp 5] n0 K)) :=
  loop_rule hJ mixed (b := subC [1, 1, 1, 1, 0, 1, 0, 0] (codeOf f26)) (by kernel_rfl) μ I hI hi
-- loop [1, 1, 1, 1, 1, 1, 1, 0, 0, 0]
theorem s26_2 {f : RG} {nx0 : RG → List AObj → Prop} : W prog J 81 n0 26 (subC [1, 1, 1, 1, 1, 1, 1, 0, 0, 0] (codeOf f26)) f h (thenK nx0 (contQ prog J 81 n0 26 [1, 1, 1, 1, 1, 1, 1, 0, 0] (codeOf f26) [] (RetQ prog [.tmp 4, .tmp 5] n0 K))) =
(aBin prog .gtr 3 (f.r 0) (vint 0) fun v1 =>
cnd v1
(Sem J 81 n0 26 (subC [1, 1, 1, 1, 1, 1, 1, 0, 0, 0, 1, 0, 0, 1, 0, 1, 0] (codeOf f26)) ((((f.put 42 (f.r 0)).put 43 v1).put 9 (vint 0)).put 10 (vint 0)) h (contQ prog J 81 n0 26 [1, 1, 1, 1, 1, 1, 1, 0, 0, 0, 1, 0, 0, 1, 0, 1, 0] (codeOf f26) [nx0] (RetQ prog [.tmp 4, .tmp 5] n0 K)))
(retL n0 K f.ds [(f.r 8), (vint 0)] h)) := by kernel_rfl
theorem l26_2 (hJ : Closed prog main J) {S : Type} (μ : S → Nat) (I : S → RG → List AObj → Prop) (hI : ∀ s f h, I s f h → heapOk h → n0 ≤ h.length → W prog J 81 n0 26 (subC [1, 1, 1, 1, 1, 1, 1, 0, 0, 0] (codeOf f26)) f h (thenK (Nx n0 μ I s) (contQ prog J 81 n0 26 [1, 1, 1, 1, 1, 1, 1, 0, 0] (codeOf f26) [] (RetQ prog [.tmp 4, .tmp 5] n0 K))))
  {s : S} {f : RG} (hi : Gets n0 I s f h) : Sem J 81 n0 26 (subC [1, 1, 1, 1, 1, 1, 1, 0, 0] (codeOf f26)) f h (contQ prog J 81 n0 26 [1, 1, 1, 1, 1, 1, 1, 0, 0] (codeOf f26) [] (RetQ prog [.tmp 4, .tmp 5] n0 K)) :=
  loop_rule hJ mixed (b := subC [1, 1, 1, 1, 1, 1, 1, 0, 0, 0] (codeOf f26)) (by kernel_rfl) μ I hI hi
-- loop [1, 1, 1, 1, 1, 1, 1, 0, 0, 0, 1, 0, 0, 1, 0, 1, 0, 0]
theorem s26_3 {f : RG} {nx0 nx1 : RG → List AObj → Prop} : W prog J 81 n0 26 (subC [1, 1, 1, 1, 1, 1, 1, 0, 0, 0, 1, 0, 0, 1, 0, 1, 0, 0] (codeOf f26)) f h (thenK nx1 (contQ prog J 81 n0 26 [1, 1, 1, 1, 1, 1, 1, 0, 0, 0, 1, 0, 0, 1, 0, 1, 0] (codeOf f26) [nx0] (RetQ prog [.tmp 4, .tmp 5] n0 K))) =
(aLenS (f.r 1) fun v1 =>
aBin prog .lss 3 (f.r 10) v1 fun v2 =>
cnd v2
(aIdx 1 (f.r 1) (f.r 10) fun v3 =>
aLoad false 1 v3 h fun v4 =>
aIdx 1 (f.r 8) (f.r 9) fun v5 =>
aLoad false 1 v5 h fun v6 =>
aBin prog .add 3 v6 (vint 1) fun v7 =>
aBin prog .mul 3 v4 v7 fun v8 =>
aIdx 1 (f.r 1) (f.r 9) fun v9 =>
aLoad false 1 v9 h fun v10 =>
aIdx 1 (f.r 8) (f.r 10) fun v11 =>
aLoad false 1 v11 h fun v12 =>
aBin prog .add 3 v12 (vint 1) fun v13 =>
aBin prog .mul 3 v10 v13 fun v14 =>
aBin prog .gtr 3 v8 v14 fun v15 =>
cnd v15
(aBin prog .add 3 (f.r 10) (vint 1) fun v16 =>
nx1 ((((((((((((((((((((((((((((((f.put 46 (f.r 10)).put 47 (f.r 1)).put 48 v1).put 49 v2).put 52 (f.r 1)).put 53 (f.r 10)).put 54 v3).put 55 v4).put 56 (f.r 8)).put 57 (f.r 9)).put 58 v5).put 59 v6).put 60 v7).put 61 v8).put 62 (f.r 1)).put 63 (f.r 9)).put 64 v9).put 65 v10).put 66 (f.r 8)).put 67 (f.r 10)).put 68 v11).put 69 v12).put 70 v13).put 71 v14).put 72 v15).put 73 (f.r 10)).put 9 (f.r 10)).put 50 (f.r 10)).put 51 v16).put 10 v16) h)
(aBin prog .add 3 (f.r 10) (vint 1) fun v17 =>
nx1 ((((((((((((((((((((((((((((f.put 46 (f.r 10)).put 47 (f.r 1)).put 48 v1).put 49 v2).put 52 (f.r 1)).put 53 (f.r 10)).put 54 v3).put 55 v4).put 56 (f.r 8)).put 57 (f.r 9)).put 58 v5).put 59 v6).put 60 v7).put 61 v8).put 62 (f.r 1)).put 63 (f.r 9)).put 64 v9).put 65 v10).put 66 (f.r 8)).put 67 (f.r 10)).put 68 v11).put 69 v12).put 70 v13).put 71 v14).put 72 v15).put 50 (f.r 10)).put 51 v17).put 10 v17) h))
(aIdx 1 (f.r 8) (f.r 9) fun v18 =>
aLoad false 1 v18 h fun v19 =>
aBin prog .add 3 v19 (vint 1) fun v20 =>
aIdx 1 (f.r 8) (f.r 9) fun v21 =>
aStore 1 v21 v20 h fun h22 =>
aBin prog .sub 3 (f.r 0) (vint 1) fun v23 =>
nx0 (((((((((((((f.put 46 (f.r 10)).put 47 (f.r 1)).put 48 v1).put 49 v2).put 74 (f.r 8)).put 75 (f.r 9)).put 76 v18).put 77 v19).put 78 v20).put 79 v21).put 44 (f.r 0)).put 45 v23).put 0 v23) h22)) := by kernel_rfl
theorem l26_3 (hJ : Closed prog main J) {nx0 : RG → List AObj → Prop} {S : Type} (μ : S → Nat) (I : S → RG → List AObj → Prop) (hI : ∀ s f h, I s f h → heapOk h → n0 ≤ h.length → W prog J 81 n0 26 (subC [1, 1, 1, 1, 1, 1, 1, 0, 0, 0, 1, 0, 0, 1, 0, 1, 0, 0] (codeOf f26)) f h (thenK (Nx n0 μ I s) (contQ prog J 81 n0 26 [1, 1, 1, 1, 1, 1, 1, 0, 0, 0, 1, 0, 0, 1, 0, 1, 0] (codeOf f26) [nx0] (RetQ prog [.tmp 4, .tmp 5] n0 K))))
  {s : S} {f : RG} (hi : Gets n0 I s f h) : Sem J 81 n0 26 (subC [1, 1, 1, 1, 1, 1, 1, 0, 0, 0, 1, 0, 0, 1, 0, 1, 0] (codeOf f26)) f h (contQ prog J 81 n0 26 [1, 1, 1, 1, 1, 1, 1, 0, 0, 0, 1, 0, 0, 1, 0, 1, 0] (codeOf f26) [nx0] (RetQ prog [.tmp 4, .tmp 5] n0 K)) :=
  loop_rule hJ mixed (b := subC [1, 1, 1, 1, 1, 1, 1, 0, 0, 0, 1, 0, 0, 1, 0, 1, 0, 0] (codeOf f26)) (by kernel_rfl) μ I hI hi
theorem at27 : prog.funcs[27]? = some f27 := by kernel_rfl
theorem body27 : f27.body = some (codeOf f27) := by kernel_rfl
theorem e27 {a0 a1 : Value} : W prog J 26 h.length 27 (codeOf f27) (RG.mk (regs [a0, a1]) []) h (RetQ prog [.tmp 4] h.length K) =
(aLenS a0 fun v1 =>
aLenS a1 fun v2 =>
aBin prog .neq 3 v1 v2 fun v3 =>
cnd v3
(retL h.length K [] [(Value.bool false)] h)
(Sem J 26 h.length 27 (subC [1, 1, 0, 1, 0] (codeOf f27)) ((((((((RG.mk (regs [a0, a1]) []).put 4 (Value.bool false)).put 6 a0).put 7 v1).put 8 a1).put 9 v2).put 10 v3).put 5 (vint 0)) h (contQ prog J 26 h.length 27 [1, 1, 0, 1, 0] (codeOf f27) [] (RetQ prog [.tmp 4] h.length K)))) := by kernel_rfl
theorem g27 (hJ : Closed prog main J) {a0 a1 : Value} (hs : heapOk h → W prog J 26 h.length 27 (codeOf f27) (RG.mk (regs [a0, a1]) []) h (RetQ prog [.tmp 4] h.length K)) : Good prog J 27 [a0, a1] h K :=
  good_of_W hJ mixed at27 body27 (by kernel_rfl) (Nat.le_of_ble_eq_true rfl) hs
-- loop [1, 1, 0, 1, 0, 0]
theorem s27_1 {f : RG} {nx0 : RG → List AObj → Prop} : W prog J 26 n0 27 (subC [1, 1, 0, 1, 0, 0] (codeOf f27)) f h (thenK nx0 (contQ prog J 26 n0 27 [1, 1, 0, 1, 0] (codeOf f27) [] (RetQ prog [.tmp 4] n0 K))) =
(aLenS (f.r 0) fun v1 =>
aBin prog .lss 3 (f.r 5) v1 fun v2 =>
cnd v2
(aIdx 1 (f.r 0) (f.r 5) fun v3 =>
aLoad false 1 v3 h fun v4 =>
aIdx 1 (f.r 1) (f.r 5) fun v5 =>
aLoad false 1 v5 h fun v6 =>
aBin prog .neq 3 v4 v6 fun v7 =>
cnd v7
(retL n0 K f.ds [(Value.bool false)] h)
(aBin prog .add 3 (f.r 5) (vint 1) fun v8 =>
nx0 ((((((((((((((((f.put 11 (f.r 5)).put 12 (f.r 0)).put 13 v1).put 14 v2).put 17 (f.r 0)).put 18 (f.r 5)).put 19 v3).put 20 v4).put 21 (f.r 1)).put 22 (f.r 5)).put 23 v5).put 24 v6).put 25 v7).put 15 (f.r 5)).put 16 v8).put 5 v8) h))
(retL n0 K f.ds [(Value.bool true)] h)) := by kernel_rfl
theorem l27_1 (hJ : Closed prog main J) {S : Type} (μ : S → Nat) (I : S → RG → List AObj → Prop) (hI : ∀ s f h, I s f h → heapOk h → n0 ≤ h.length → W prog J 26 n0 27 (subC [1, 1, 0, 1, 0, 0] (codeOf f27)) f h (thenK (Nx n0 μ I s) (contQ prog J 26 n0 27 [1, 1, 0, 1, 0] (codeOf f27) [] (RetQ prog [.tmp 4] n0 K))))
  {s : S} {f : RG} (hi : Gets n0 I s f h) : Sem J 26 n0 27 (subC [1, 1, 0, 1, 0] (codeOf f27)) f h (contQ prog J 26 n0 27 [1, 1, 0, 1, 0] (codeOf f27) [] (RetQ prog [.tmp 4] n0 K)) :=
  loop_rule hJ mixed (b := subC [1, 1, 0, 1, 0, 0] (codeOf f27)) (by kernel_rfl) μ I hI hi
theorem at66 : prog.funcs[66]? = some f66 := by kernel_rfl
theorem body66 : f66.body = some (codeOf f66) := by kernel_rfl
theorem e66 {a0 : Value} : W prog J 72 h.length 66 (codeOf f66) (RG.mk (regs [a0]) []) h (RetQ prog [.tmp 2] h.length K) =
(aNil a0 fun v1 =>
aOff v1 1 fun v2 =>
aLoad false 1 v2 h fun v3 =>
aConvI .u64 v3 fun v4 =>
aNil a0 fun v5 =>
aOff v5 1 fun v6 =>
aLoad false 1 v6 h fun v7 =>
aNil a0 fun v8 =>
aOff v8 0 fun v9 =>
aLoad false 1 v9 h fun v10 =>
aLenS v10 fun v11 =>
aBin prog .lss 3 v7 v11 fun v12 =>
cnd v12
(aNil a0 fun v13 =>
aOff v13 0 fun v14 =>
aLoad false 1 v14 h fun v15 =>
aNil a0 fun v16 =>
aOff v16 1 fun v17 =>
aLoad false 1 v17 h fun v18 =>
aIdx 1 v15 v18 fun v19 =>
aLoad false 1 v19 h fun v20 =>
aConvI .u64 v20 fun v21 =>
aNil a0 fun v22 =>
aOff v22 1 fun v23 =>
aLoad false 1 v23 h fun v24 =>
aBin prog .add 3 v24 (vint 1) fun v25 =>
aNil a0 fun v26 =>
aOff v26 1 fun v27 =>
aStore 1 v27 v25 h fun h28 =>
aNil a0 fun v29 =>
aOff v29 2 fun v30 =>
aLoad false 1 v30 h28 fun v31 =>
aBin prog .mul 85 v21 (Value.int .u64 11400714819323198485) fun v32 =>
aBin prog .xor 85 v31 v32 fun v33 =>
aBin prog .shl 85 v33 (Value.int .u64 13) fun v34 =>
aBin prog .xor 85 v33 v34 fun v35 =>
aBin prog .shr 85 v35 (Value.int .u64 7) fun v36 =>
aBin prog .xor 85 v35 v36 fun v37 =>
aBin prog .shl 85 v37 (Value.int .u64 17) fun v38 =>
aBin prog .xor 85 v37 v38 fun v39 =>
aBin prog .add 85 v39 (Value.int .u64 7146057691288625177) fun v40 =>
aNil a0 fun v41 =>
aOff v41 2 fun v42 =>
aStore 1 v42 v40 h28 fun h43 =>
aBin prog .shr 85 v39 (Value.int .u64 31) fun v44 =>
aBin prog .xor 85 v39 v44 fun v45 =>
aBin prog .mul 85 v45 (Value.int .u64 13787848793156543929) fun v46 =>
aBin prog .shr 85 v46 (Value.int .u64 29) fun v47 =>
aBin prog .xor 85 v46 v47 fun v48 =>
aBin prog .shr 85 v48 (Value.int .u64 11) fun v49 =>
retL h.length K [] [v49] h43)
(aNil a0 fun v50 =>
aOff v50 1 fun v51 =>
aLoad false 1 v51 h fun v52 =>
aBin prog .add 3 v52 (vint 1) fun v53 =>
aNil a0 fun v54 =>
aOff v54 1 fun v55 =>
aStore 1 v55 v53 h fun h56 =>
aNil a0 fun v57 =>
aOff v57 2 fun v58 =>
aLoad false 1 v58 h56 fun v59 =>
aBin prog .mul 85 v4 (Value.int .u64 11400714819323198485) fun v60 =>
aBin prog .xor 85 v59 v60 fun v61 =>
aBin prog .shl 85 v61 (Value.int .u64 13) fun v62 =>
aBin prog .xor 85 v61 v62 fun v63 =>
aBin prog .shr 85 v63 (Value.int .u64 7) fun v64 =>
aBin prog .xor 85 v63 v64 fun v65 =>
aBin prog .shl 85 v65 (Value.int .u64 17) fun v66 =>
aBin prog .xor 85 v65 v66 fun v67 =>
aBin prog .add 85 v67 (Value.int .u64 7146057691288625177) fun v68 =>
aNil a0 fun v69 =>
aOff v69 2 fun v70 =>
aStore 1 v70 v68 h56 fun h71 =>
aBin prog .shr 85 v67 (Value.int .u64 31) fun v72 =>
aBin prog .xor 85 v67 v72 fun v73 =>
aBin prog .mul 85 v73 (Value.int .u64 13787848793156543929) fun v74 =>
aBin prog .shr 85 v74 (Value.int .u64 29) fun v75 =>
aBin prog .xor 85 v74 v75 fun v76 =>
aBin prog .shr 85 v76 (Value.int .u64 11) fun v77 =>
retL h.length K [] [v77] h71)) := by kernel_rfl
theorem g66 (hJ : Closed prog main J) {a0 : Value} (hs : heapOk h → W prog J 72 h.length 66 (codeOf f66) (RG.mk (regs [a0]) []) h (RetQ prog [.tmp 2] h.length K)) : Good prog J 66 [a0] h K :=
  good_of_W hJ mixed at66 body66 (by kernel_rfl) (Nat.le_of_ble_eq_true rfl) hs
theorem at68 : prog.funcs[68]? = some f68 := by kernel_rfl
theorem body68 : f68.body = some (codeOf f68) := by kernel_rfl
theorem e68 {a0 a1 a2 : Value} : W prog J 15 h.length 68 (codeOf f68) (RG.mk (regs [a0, a1, a2]) []) h (RetQ prog [.tmp 6] h.length K) =
(aBin prog .geq 3 a0 a1 fun v1 =>
cnd v1
(aBin prog .leq 3 a0 a2 fun v2 =>
retL h.length K [] [v2] h)
(retL h.length K [] [(Value.bool false)] h)) := by kernel_rfl
theorem g68 (hJ : Closed prog main J) {a0 a1 a2 : Value} (hs : heapOk h → W prog J 15 h.length 68 (codeOf f68) (RG.mk (regs [a0, a1, a2]) []) h (RetQ prog [.tmp 6] h.length K)) : Good prog J 68 [a0, a1, a2] h K :=
  good_of_W hJ mixed at68 body68 (by kernel_rfl) (Nat.le_of_ble_eq_true rfl) hs
theorem at3 : prog.funcs[3]? = some f3 := by kernel_rfl
theorem body3 : f3.body = some (codeOf f3) := by kernel_rfl
theorem e3 {a0 a1 a2 : Value} : W prog J 102 h.length 3 (codeOf f3) (RG.mk (regs [a0, a1, a2]) []) h (RetQ prog [.tmp 6] h.length K) =
(aLenS a1 fun v1 =>
aBin prog .gtr 3 v1 (vint 20) fun v2 =>
cnd v2
(Good prog J 18 [] h fun v3 h4 =>
retL h.length K [] [v3] h4)
(Good prog J 19 [a2] h fun v5 h6 =>
Good prog J 20 [v5, (vint 1), (vint 5)] h6 fun v7 h8 =>
Sem J 102 h.length 3 (subC [1, 1, 1, 1, 0, 1, 0] (codeOf f3)) ((((((((((((RG.mk (regs [a0, a1, a2]) []).put 6 (Value.bool false)).put 18 a1).put 19 v1).put 20 v2).put 22 a2).put 23 v5).put 7 v5).put 8 (Value.slice none 0 0)).put 24 v5).put 25 v7).put 9 v7) h8 (contQ prog J 102 h.length 3 [1, 1, 1, 1, 0, 1, 0] (codeOf f3) [] (RetQ prog [.tmp 6] h.length K)))) := by kernel_rfl
theorem g3 (hJ : Closed prog main J) {a0 a1 a2 : Value} (hs : heapOk h → W prog J 102 h.length 3 (codeOf f3) (RG.mk (regs [a0, a1, a2]) []) h (RetQ prog [.tmp 6] h.length K)) : Good prog J 3 [a0, a1, a2] h K :=
  good_of_W hJ mixed at3 body3 (by kernel_rfl) (Nat.le_of_ble_eq_true rfl) hs
-- loop [1, 1, 1, 1, 0, 1, 0, 0]
theorem s3_1 {f : RG} {nx0 : RG → List AObj → Prop} : W prog J 102 n0 3 (subC [1, 1, 1, 1, 0, 1, 0, 0] (codeOf f3)) f h (thenK nx0 (contQ prog J 102 n0 3 [1, 1, 1, 1, 0, 1, 0] (codeOf f3) [] (RetQ prog [.tmp 6] n0 K))) =
(aBin prog .gtr 3 (f.r 9) (vint 0) fun v1 =>
cnd v1
(Good prog J 22 [(f.r 7), (vint 4)] h fun v2 h3 =>
Good prog J 22 [(f.r 7), (vint 40)] h3 fun v4 h5 =>
((2 * 1 ≤ 16777216 ∧ 2 ≤ 16777216 ∧ List.length [(vint 0)] = 1) ∧ aFill (zrep [(vint 0)] 2) [(0, 1, v2), (1, 1, v4)] fun c6 =>
aNewS 2 c6 h5 fun v7 h8 =>
Good prog J 21 [(f.r 7), (vint 0), v7] h8 fun v9 h10 =>
((1 * 1 ≤ 16777216 ∧ 1 ≤ 16777216 ∧ List.length [(vint 0)] = 1) ∧ aFill (zrep [(vint 0)] 1) [(0, 1, v9)] fun c11 =>
aNewS 1 c11 h10 fun v12 h13 =>
((List.length [(vint 0)] = 1 ∧ 0 < 1 ∧ 0 < 8 ∧ 8 ≤ 1024) ∧ aApp 1 (f.r 8) v12 h13 fun v14 h15 =>
aBin prog .sub 3 (f.r 9) (vint 1) fun v16 =>
nx0 ((((((((((((((((f.put 26 (f.r 9)).put 27 v1).put 30 (f.r 8)).put 31 (f.r 7)).put 32 (f.r 7)).put 33 v2).put 34 (f.r 7)).put 35 v4).put 36 v7).put 37 v9).put 38 v12).put 39 v14).put 8 v14).put 28 (f.r 9)).put 29 v16).put 9 v16) h15))))
(Good prog J 23 [(f.r 8)] h fun v17 h18 =>
Good prog J 22 [(f.r 7), v17] h18 fun v19 h20 =>
((3 * 1 ≤ 16777216 ∧ 3 ≤ 16777216 ∧ List.length [(vint 0)] = 1) ∧ aFill (zrep [(vint 0)] 3) [(0, 1, (f.r 0)), (1, 1, v19), (2, 1, (f.r 0))] fun c21 =>
aNewS 3 c21 h20 fun v22 h23 =>
((3 * 1 ≤ 16777216 ∧ 3 ≤ 16777216 ∧ List.length [(Value.slice none 0 0)] = 1) ∧ aFill (zrep [(Value.slice none 0 0)] 3) [(0, 1, (f.r 1)), (1, 1, (f.r 8)), (2, 1, (f.r 8))] fun c24 =>
aNewS 3 c24 h23 fun v25 h26 =>
Sem J 102 n0 3 (subC [1, 1, 1, 1, 1, 1, 0, 1, 0] (codeOf f3)) ((((((((((((((((f.put 26 (f.r 9)).put 27 v1).put 40 (f.r 0)).put 41 (f.r 7)).put 42 (f.r 8)).put 43 v17).put 44 v19).put 45 (f.r 0)).put 46 v22).put 47 (f.r 1)).put 48 (f.r 8)).put 49 (f.r 8)).put 50 v25).put 10 v22).put 11 v25).put 12 (vint 0)) h26 (contQ prog J 102 n0 3 [1, 1, 1, 1, 1, 1, 0, 1, 0] (codeOf f3) [] (RetQ prog [.tmp 6] n0 K)))))) := by kernel_rfl
theorem l3_1 (hJ : Closed prog main J) {S : Type} (μ : S → Nat) (I : S → RG → List AObj → Prop) (hI : ∀ s f h, I s f h → heapOk h → n0 ≤ h.length → W prog J 102 n0 3 (subC [1, 1, 1, 1, 0, 1, 0, 0] (codeOf f3)) f h (thenK (Nx n0 μ I s) (contQ prog J 102 n0 3 [1, 1, 1, 1, 0, 1, 0] (codeOf f3) [] (RetQ prog [.tmp 6] n0 K))))
  {s : S} {f : RG} (hi : Gets n0 I s f h) : Sem J 102 n0 3 (subC [1, 1, 1, 1, 0, 1, 0] (codeOf f3)) f h (contQ prog J 102 n0 3 [1, 1, 1, 1, 0, 1, 0] (codeOf f3) [] (RetQ prog [.tmp 6] n0 K)) :=
  loop_rule hJ mixed (b := subC [1, 1, 1, 1, 0, 1, 0, 0] (codeOf f3)) (by kernel_rfl) μ I hI hi
-- loop [1, 1, 1, 1, 1, 1, 0, 1, 0, 0]
theorem s3_2 {f : RG} {nx0 : RG → List AObj → Prop} : W prog J 102 n0 3 (subC [1, 1, 1, 1, 1, 1, 0, 1, 0, 0] (codeOf f3)) f h (thenK nx0 (contQ prog J 102 n0 3 [1, 1, 1, 1, 1, 1, 0, 1, 0] (codeOf f3) [] (RetQ prog [.tmp 6] n0 K))) =
(aLenS (f.r 10) fun v1 =>
aBin prog .lss 3 (f.r 12) v1 fun v2 =>
cnd v2
(aIdx 1 (f.r 11) (f.r 12) fun v3 =>
aLoad false 1 v3 h fun v4 =>
Good prog J 24 [v4] h fun v5 h6 =>
aIdx 1 (f.r 10) (f.r 12) fun v7 =>
aLoad false 1 v7 h6 fun v8 =>
Good prog J 25 [v8, v5] h6 fun v9 h10 =>
aExt v9 0 fun v11 =>
aExt v9 1 fun v12 =>
aIdx 1 (f.r 10) (f.r 12) fun v13 =>
aLoad false 1 v13 h10 fun v14 =>
aIdx 1 (f.r 11) (f.r 12) fun v15 =>
aLoad false 1 v15 h10 fun v16 =>
Good prog J 26 [v14, v16] h10 fun v17 h18 =>
aExt v17 0 fun v19 =>
aExt v17 1 fun v20 =>
aBin prog .neq 32 v12 v20 fun v21 =>
cnd v21
(cnd (Value.bool true)
(W prog J 102 n0 3 (subC [1, 1, 1, 1, 1, 1, 0, 1, 0, 0, 1, 0, 0, 1, 1, 1, 1] (codeOf f3)) (((((((((((((((((((((((((((((((((((((((((((((((((((((((f.put 51 (f.r 12)).put 52 (f.r 10)).put 53 v1).put 54 v2).put 57 (f.r 11)).put 58 (f.r 12)).put 59 v3).put 60 v4).put 61 v5).put 13 v5).put 63 (f.r 10)).put 64 (f.r 12)).put 65 v7).put 66 v8).put 67 v5).put 68 v9).put 62 v9).put 69 v11).put 70 v12).put 14 v11).put 15 v12).put 72 (f.r 10)).put 73 (f.r 12)).put 74 v13).put 75 v14).put 76 (f.r 11)).put 77 (f.r 12)).put 78 v15).put 79 v16).put 80 v17).put 71 v17).put 81 v19).put 82 v20).put 16 v19).put 17 v20).put 83 v12).put 84 v20).put 85 v21).put 86 v21).put 86 (Value.bool true)).put 87 undef).put 88 undef).put 89 undef).put 90 undef).put 91 (Value.bool true)).put 92 (Value.bool true)).put 92 (Value.bool true)).put 93 undef).put 94 undef).put 95 undef).put 96 undef).put 97 undef).put 98 undef).put 99 undef).put 100 (Value.bool true)) h18 (contQ prog J 102 n0 3 [1, 1, 1, 1, 1, 1, 0, 1, 0, 0, 1, 0, 0, 1, 1, 1, 1] (codeOf f3) [nx0] (RetQ prog [.tmp 6] n0 K)))
(aIdx 1 (f.r 11) (f.r 12) fun v22 =>
aLoad false 1 v22 h18 fun v23 =>
Good prog J 27 [v5, v23] h18 fun v24 h25 =>
aUn .not v24 fun v26 =>
W prog J 102 n0 3 (subC [1, 1, 1, 1, 1, 1, 0, 1, 0, 0, 1, 0, 0, 1, 1, 1, 1] (codeOf f3)) (((((((((((((((((((((((((((((((((((((((((((((((((((((((f.put 51 (f.r 12)).put 52 (f.r 10)).put 53 v1).put 54 v2).put 57 (f.r 11)).put 58 (f.r 12)).put 59 v3).put 60 v4).put 61 v5).put 13 v5).put 63 (f.r 10)).put 64 (f.r 12)).put 65 v7).put 66 v8).put 67 v5).put 68 v9).put 62 v9).put 69 v11).put 70 v12).put 14 v11).put 15 v12).put 72 (f.r 10)).put 73 (f.r 12)).put 74 v13).put 75 v14).put 76 (f.r 11)).put 77 (f.r 12)).put 78 v15).put 79 v16).put 80 v17).put 71 v17).put 81 v19).put 82 v20).put 16 v19).put 17 v20).put 83 v12).put 84 v20).put 85 v21).put 86 v21).put 86 (Value.bool true)).put 87 undef).put 88 undef).put 89 undef).put 90 undef).put 91 (Value.bool true)).put 92 (Value.bool true)).put 92 (Value.bool false)).put 93 v5).put 94 (f.r 11)).put 95 (f.r 12)).put 96 v22).put 97 v23).put 98 v24).put 99 v26).put 100 v26) h25 (contQ prog J 102 n0 3 [1, 1, 1, 1, 1, 1, 0, 1, 0, 0, 1, 0, 0, 1, 1, 1, 1] (codeOf f3) [nx0] (RetQ prog [.tmp 6] n0 K))))
(Good prog J 27 [v11, v19] h18 fun v27 h28 =>
aUn .not v27 fun v29 =>
cnd v29
(W prog J 102 n0 3 (subC [1, 1, 1, 1, 1, 1, 0, 1, 0, 0, 1, 0, 0, 1, 1, 1, 1] (codeOf f3)) (((((((((((((((((((((((((((((((((((((((((((((((((((((((f.put 51 (f.r 12)).put 52 (f.r 10)).put 53 v1).put 54 v2).put 57 (f.r 11)).put 58 (f.r 12)).put 59 v3).put 60 v4).put 61 v5).put 13 v5).put 63 (f.r 10)).put 64 (f.r 12)).put 65 v7).put 66 v8).put 67 v5).put 68 v9).put 62 v9).put 69 v11).put 70 v12).put 14 v11).put 15 v12).put 72 (f.r 10)).put 73 (f.r 12)).put 74 v13).put 75 v14).put 76 (f.r 11)).put 77 (f.r 12)).put 78 v15).put 79 v16).put 80 v17).put 71 v17).put 81 v19).put 82 v20).put 16 v19).put 17 v20).put 83 v12).put 84 v20).put 85 v21).put 86 v21).put 86 (Value.bool false)).put 87 v11).put 88 v19).put 89 v27).put 90 v29).put 91 v29).put 92 v29).put 92 (Value.bool true)).put 93 undef).put 94 undef).put 95 undef).put 96 undef).put 97 undef).put 98 undef).put 99 undef).put 100 (Value.bool true)) h28 (contQ prog J 102 n0 3 [1, 1, 1, 1, 1, 1, 0, 1, 0, 0, 1, 0, 0, 1, 1, 1, 1] (codeOf f3) [nx0] (RetQ prog [.tmp 6] n0 K)))
(aIdx 1 (f.r 11) (f.r 12) fun v30 =>
aLoad false 1 v30 h28 fun v31 =>
Good prog J 27 [v5, v31] h28 fun v32 h33 =>
aUn .not v32 fun v34 =>
W prog J 102 n0 3 (subC [1, 1, 1, 1, 1, 1, 0, 1, 0, 0, 1, 0, 0, 1, 1, 1, 1] (codeOf f3)) (((((((((((((((((((((((((((((((((((((((((((((((((((((((f.put 51 (f.r 12)).put 52 (f.r 10)).put 53 v1).put 54 v2).put 57 (f.r 11)).put 58 (f.r 12)).put 59 v3).put 60 v4).put 61 v5).put 13 v5).put 63 (f.r 10)).put 64 (f.r 12)).put 65 v7).put 66 v8).put 67 v5).put 68 v9).put 62 v9).put 69 v11).put 70 v12).put 14 v11).put 15 v12).put 72 (f.r 10)).put 73 (f.r 12)).put 74 v13).put 75 v14).put 76 (f.r 11)).put 77 (f.r 12)).put 78 v15).put 79 v16).put 80 v17).put 71 v17).put 81 v19).put 82 v20).put 16 v19).put 17 v20).put 83 v12).put 84 v20).put 85 v21).put 86 v21).put 86 (Value.bool false)).put 87 v11).put 88 v19).put 89 v27).put 90 v29).put 91 v29).put 92 v29).put 92 (Value.bool false)).put 93 v5).put 94 (f.r 11)).put 95 (f.r 12)).put 96 v30).put 97 v31).put 98 v32).put 99 v34).put 100 v34) h33 (contQ prog J 102 n0 3 [1, 1, 1, 1, 1, 1, 0, 1, 0, 0, 1, 0, 0, 1, 1, 1, 1] (codeOf f3) [nx0] (RetQ prog [.tmp 6] n0 K)))))
(Good prog J 18 [] h fun v35 h36 =>
retL n0 K f.ds [v35] h36)) := by kernel_rfl
theorem l3_2 (hJ : Closed prog main J) {S : Type} (μ : S → Nat) (I : S → RG → List AObj → Prop) (hI : ∀ s f h, I s f h → heapOk h → n0 ≤ h.length → W prog J 102 n0 3 (subC [1, 1, 1, 1, 1, 1, 0, 1, 0, 0] (codeOf f3)) f h (thenK (Nx n0 μ I s) (contQ prog J 102 n0 3 [1, 1, 1, 1, 1, 1, 0, 1, 0] (codeOf f3) [] (RetQ prog [.tmp 6] n0 K))))
  {s : S} {f : RG} (hi : Gets n0 I s f h) : Sem J 102 n0 3 (subC [1, 1, 1, 1, 1, 1, 0, 1, 0] (codeOf f3)) f h (contQ prog J 102 n0 3 [1, 1, 1, 1, 1, 1, 0, 1, 0] (codeOf f3) [] (RetQ prog [.tmp 6] n0 K)) :=
  loop_rule hJ mixed (b := subC [1, 1, 1, 1, 1, 1, 0, 1, 0, 0] (codeOf f3)) (by kernel_rfl) μ I hI hi
-- join [1, 1, 1, 1, 1, 1, 0, 1, 0, 0, 1, 0, 0, 1, 1, 1, 1]
theorem s3_3 {f : RG} {nx0 : RG → List AObj → Prop} : W prog J 102 n0 3 (subC [1, 1, 1, 1, 1, 1, 0, 1, 0, 0, 1, 0, 0, 1, 1, 1, 1] (codeOf f3)) f h (contQ prog J 102 n0 3 [1, 1, 1, 1, 1, 1, 0, 1, 0, 0, 1, 0, 0, 1, 1, 1, 1] (codeOf f3) [nx0] (RetQ prog [.tmp 6] n0 K)) =
(cnd (f.r 100)
(retL n0 K f.ds [(Value.bool false)] h)
(aBin prog .add 3 (f.r 12) (vint 1) fun v1 =>
nx0 (((f.put 55 (f.r 12)).put 56 v1).put 12 v1) h)) := by kernel_rfl
theorem at7 : prog.funcs[7]? = some f7 := by kernel_rfl
theorem body7 : f7.body = some (codeOf f7) := by kernel_rfl
theorem e7 {a0 : Value} : W prog J 163 h.length 7 (codeOf f7) (RG.mk (regs [a0]) []) h (RetQ prog [.tmp 2] h.length K) =
(Good prog J 19 [a0] h fun v1 h2 =>
Good prog J 20 [v1, (vint 1), (vint 5)] h2 fun v3 h4 =>
Sem J 163 h.length 7 (subC [1, 1, 1, 0, 1, 0] (codeOf f7)) (((((((((RG.mk (regs [a0]) []).put 2 (Value.bool false)).put 17 a0).put 18 v1).put 3 v1).put 4 (Value.slice none 0 0)).put 19 v1).put 20 v3).put 5 v3) h4 (contQ prog J 163 h.length 7 [1, 1, 1, 0, 1, 0] (codeOf f7) [] (RetQ prog [.tmp 2] h.length K))) := by kernel_rfl
theorem g7 (hJ : Closed prog main J) {a0 : Value} (hs : heapOk h → W prog J 163 h.length 7 (codeOf f7) (RG.mk (regs [a0]) []) h (RetQ prog [.tmp 2] h.length K)) : Good prog J 7 [a0] h K :=
  good_of_W hJ mixed at7 body7 (by kernel_rfl) (Nat.le_of_ble_eq_true rfl) hs
-- loop [1, 1, 1, 0, 1, 0, 0]
theorem s7_1 {f : RG} {nx0 : RG → List AObj → Prop} : W prog J 163 n0 7 (subC [1, 1, 1, 0, 1, 0, 0] (codeOf f7)) f h (thenK nx0 (contQ prog J 163 n0 7 [1, 1, 1, 0, 1, 0] (codeOf f7) [] (RetQ prog [.tmp 2] n0 K))) =
(aBin prog .gtr 3 (f.r 5) (vint 0) fun v1 =>
cnd v1
(Good prog J 22 [(f.r 3), (vint 5)] h fun v2 h3 =>
Good prog J 22 [(f.r 3), (vint 60)] h3 fun v4 h5 =>
((2 * 1 ≤ 16777216 ∧ 2 ≤ 16777216 ∧ List.length [(vint 0)] = 1) ∧ aFill (zrep [(vint 0)] 2) [(0, 1, v2), (1, 1, v4)] fun c6 =>
aNewS 2 c6 h5 fun v7 h8 =>
Good prog J 21 [(f.r 3), (vint 0), v7] h8 fun v9 h10 =>
((1 * 1 ≤ 16777216 ∧ 1 ≤ 16777216 ∧ List.length [(vint 0)] = 1) ∧ aFill (zrep [(vint 0)] 1) [(0, 1, v9)] fun c11 =>
aNewS 1 c11 h10 fun v12 h13 =>
((List.length [(vint 0)] = 1 ∧ 0 < 1 ∧ 0 < 8 ∧ 8 ≤ 1024) ∧ aApp 1 (f.r 4) v12 h13 fun v14 h15 =>
aBin prog .sub 3 (f.r 5) (vint 1) fun v16 =>
nx0 ((((((((((((((((f.put 21 (f.r 5)).put 22 v1).put 25 (f.r 4)).put 26 (f.r 3)).put 27 (f.r 3)).put 28 v2).put 29 (f.r 3)).put 30 v4).put 31 v7).put 32 v9).put 33 v12).put 34 v14).put 4 v14).put 23 (f.r 5)).put 24 v16).put 5 v16) h15))))
(Good prog J 23 [(f.r 4)] h fun v17 h18 =>
Good prog J 22 [(f.r 3), v17] h18 fun v19 h20 =>
Good prog J 25 [v19, (f.r 4)] h20 fun v21 h22 =>
aExt v21 0 fun v23 =>
aExt v21 1 fun v24 =>
aBin prog .neq 32 v24 (vint 0) fun v25 =>
cnd v25
(cnd (Value.bool true)
(W prog J 163 n0 7 (subC [1, 1, 1, 1, 1, 1, 1, 0, 1] (codeOf f7)) ((((((((((((((((((((((((((((((((((f.put 21 (f.r 5)).put 22 v1).put 35 (f.r 4)).put 36 v17).put 6 v17).put 37 (f.r 3)).put 38 v17).put 39 v19).put 7 v19).put 41 v19).put 42 (f.r 4)).put 43 v21).put 40 v21).put 44 v23).put 45 v24).put 8 v23).put 9 v24).put 46 v24).put 47 v25).put 48 v25).put 48 (Value.bool true)).put 49 undef).put 50 undef).put 51 undef).put 52 undef).put 53 undef).put 54 (Value.bool true)).put 55 (Value.bool true)).put 55 (Value.bool true)).put 56 undef).put 57 undef).put 58 undef).put 59 undef).put 60 (Value.bool true)) h22 (contQ prog J 163 n0 7 [1, 1, 1, 1, 1, 1, 1, 0, 1] (codeOf f7) [] (RetQ prog [.tmp 2] n0 K)))
(Good prog J 23 [v23] h22 fun v26 h27 =>
aBin prog .neq 3 v26 v19 fun v28 =>
W prog J 163 n0 7 (subC [1, 1, 1, 1, 1, 1, 1, 0, 1] (codeOf f7)) ((((((((((((((((((((((((((((((((((f.put 21 (f.r 5)).put 22 v1).put 35 (f.r 4)).put 36 v17).put 6 v17).put 37 (f.r 3)).put 38 v17).put 39 v19).put 7 v19).put 41 v19).put 42 (f.r 4)).put 43 v21).put 40 v21).put 44 v23).put 45 v24).put 8 v23).put 9 v24).put 46 v24).put 47 v25).put 48 v25).put 48 (Value.bool true)).put 49 undef).put 50 undef).put 51 undef).put 52 undef).put 53 undef).put 54 (Value.bool true)).put 55 (Value.bool true)).put 55 (Value.bool false)).put 56 v23).put 57 v26).put 58 v19).put 59 v28).put 60 v28) h27 (contQ prog J 163 n0 7 [1, 1, 1, 1, 1, 1, 1, 0, 1] (codeOf f7) [] (RetQ prog [.tmp 2] n0 K))))
(aLenS v23 fun v29 =>
aLenS (f.r 4) fun v30 =>
aBin prog .neq 3 v29 v30 fun v31 =>
cnd v31
(W prog J 163 n0 7 (subC [1, 1, 1, 1, 1, 1, 1, 0, 1] (codeOf f7)) ((((((((((((((((((((((((((((((((((f.put 21 (f.r 5)).put 22 v1).put 35 (f.r 4)).put 36 v17).put 6 v17).put 37 (f.r 3)).put 38 v17).put 39 v19).put 7 v19).put 41 v19).put 42 (f.r 4)).put 43 v21).put 40 v21).put 44 v23).put 45 v24).put 8 v23).put 9 v24).put 46 v24).put 47 v25).put 48 v25).put 48 (Value.bool false)).put 49 v23).put 50 v29).put 51 (f.r 4)).put 52 v30).put 53 v31).put 54 v31).put 55 v31).put 55 (Value.bool true)).put 56 undef).put 57 undef).put 58 undef).put 59 undef).put 60 (Value.bool true)) h22 (contQ prog J 163 n0 7 [1, 1, 1, 1, 1, 1, 1, 0, 1] (codeOf f7) [] (RetQ prog [.tmp 2] n0 K)))
(Good prog J 23 [v23] h22 fun v32 h33 =>
aBin prog .neq 3 v32 v19 fun v34 =>
W prog J 163 n0 7 (subC [1, 1, 1, 1, 1, 1, 1, 0, 1] (codeOf f7)) ((((((((((((((((((((((((((((((((((f.put 21 (f.r 5)).put 22 v1).put 35 (f.r 4)).put 36 v17).put 6 v17).put 37 (f.r 3)).put 38 v17).put 39 v19).put 7 v19).put 41 v19).put 42 (f.r 4)).put 43 v21).put 40 v21).put 44 v23).put 45 v24).put 8 v23).put 9 v24).put 46 v24).put 47 v25).put 48 v25).put 48 (Value.bool false)).put 49 v23).put 50 v29).put 51 (f.r 4)).put 52 v30).put 53 v31).put 54 v31).put 55 v31).put 55 (Value.bool false)).put 56 v23).put 57 v32).put 58 v19).put 59 v34).put 60 v34) h33 (contQ prog J 163 n0 7 [1, 1, 1, 1, 1, 1, 1, 0, 1] (codeOf f7) [] (RetQ prog [.tmp 2] n0 K)))))) := by kernel_rfl
theorem l7_1 (hJ : Closed prog main J) {S : Type} (μ : S → Nat) (I : S → RG → List AObj → Prop) (hI : ∀ s f h, I s f h → heapOk h → n0 ≤ h.length → W prog J 163 n0 7 (subC [1, 1, 1, 0, 1, 0, 0] (codeOf f7)) f h (thenK (Nx n0 μ I s) (contQ prog J 163 n0 7 [1, 1, 1, 0, 1, 0] (codeOf f7) [] (RetQ prog [.tmp 2] n0 K))))
  {s : S} {f : RG} (hi : Gets n0 I s f h) : Sem J 163 n0 7 (subC [1, 1, 1, 0, 1, 0] (codeOf f7)) f h (contQ prog J 163 n0 7 [1, 1, 1, 0, 1, 0] (codeOf f7) [] (RetQ prog [.tmp 2] n0 K)) :=
  loop_rule hJ mixed (b := subC [1, 1, 1, 0, 1, 0, 0] (codeOf f7)) (by kernel_rfl) μ I hI hi
-- join [1, 1, 1, 1, 1, 1, 1, 0, 1]
theorem s7_2 {f : RG} : W prog J 163 n0 7 (subC [1, 1, 1, 1, 1, 1, 1, 0, 1] (codeOf f7)) f h (contQ prog J 163 n0 7 [1, 1, 1, 1, 1, 1, 1, 0, 1] (codeOf f7) [] (RetQ prog [.tmp 2] n0 K)) =
(cnd (f.r 60)
(retL n0 K f.ds [(Value.bool false)] h)
(Sem J 163 n0 7 (subC [1, 1, 1, 1, 1, 1, 1, 1, 0, 1, 0] (codeOf f7)) (f.put 10 (vint 0)) h (contQ prog J 163 n0 7 [1, 1, 1, 1, 1, 1, 1, 1, 0, 1, 0] (codeOf f7) [] (RetQ prog [.tmp 2] n0 K)))) := by kernel_rfl
-- loop [1, 1, 1, 1, 1, 1, 1, 1, 0, 1, 0, 0]
theorem s7_3 {f : RG} {nx0 : RG → List AObj → Prop} : W prog J 163 n0 7 (subC [1, 1, 1, 1, 1, 1, 1, 1, 0, 1, 0, 0] (codeOf f7)) f h (thenK nx0 (contQ prog J 163 n0 7 [1, 1, 1, 1, 1, 1, 1, 1, 0, 1, 0] (codeOf f7) [] (RetQ prog [.tmp 2] n0 K))) =
(aLenS (f.r 8) fun v1 =>
aBin prog .lss 3 (f.r 10) v1 fun v2 =>
cnd v2
(aIdx 1 (f.r 8) (f.r 10) fun v3 =>
aLoad false 1 v3 h fun v4 =>
aBin prog .lss 3 v4 (vint 0) fun v5 =>
cnd v5
(W prog J 163 n0 7 (subC [1, 1, 1, 1, 1, 1, 1, 1, 0, 1, 0, 0, 1, 0, 0, 0, 1] (codeOf f7)) (((((((((((((((((((((f.put 61 (f.r 10)).put 62 (f.r 8)).put 63 v1).put 64 v2).put 67 (f.r 8)).put 68 (f.r 10)).put 69 v3).put 70 v4).put 71 v5).put 72 v5).put 72 (Value.bool true)).put 73 undef).put 74 undef).put 75 undef).put 76 undef).put 77 undef).put 78 undef).put 79 undef).put 80 undef).put 81 undef).put 82 (Value.bool true)) h (contQ prog J 163 n0 7 [1, 1, 1, 1, 1, 1, 1, 1, 0, 1, 0, 0, 1, 0, 0, 0, 1] (codeOf f7) [nx0] (RetQ prog [.tmp 2] n0 K)))
(aIdx 1 (f.r 8) (f.r 10) fun v6 =>
aLoad false 1 v6 h fun v7 =>
aIdx 1 (f.r 4) (f.r 10) fun v8 =>
aLoad false 1 v8 h fun v9 =>
aBin prog .gtr 3 v7 v9 fun v10 =>
W prog J 163 n0 7 (subC [1, 1, 1, 1, 1, 1, 1, 1, 0, 1, 0, 0, 1, 0, 0, 0, 1] (codeOf f7)) (((((((((((((((((((((f.put 61 (f.r 10)).put 62 (f.r 8)).put 63 v1).put 64 v2).put 67 (f.r 8)).put 68 (f.r 10)).put 69 v3).put 70 v4).put 71 v5).put 72 v5).put 72 (Value.bool false)).put 73 (f.r 8)).put 74 (f.r 10)).put 75 v6).put 76 v7).put 77 (f.r 4)).put 78 (f.r 10)).put 79 v8).put 80 v9).put 81 v10).put 82 v10) h (contQ prog J 163 n0 7 [1, 1, 1, 1, 1, 1, 1, 1, 0, 1, 0, 0, 1, 0, 0, 0, 1] (codeOf f7) [nx0] (RetQ prog [.tmp 2] n0 K))))
(aBin prog .lss 3 (f.r 7) (f.r 6) fun v11 =>
cnd v11
(aBin prog .add 3 (f.r 7) (vint 1) fun v12 =>
Good prog J 25 [v12, (f.r 4)] h fun v13 h14 =>
aExt v13 0 fun v15 =>
aExt v13 1 fun v16 =>
aBin prog .neq 32 v16 (vint 0) fun v17 =>
cnd v17
(W prog J 163 n0 7 (subC [1, 1, 1, 1, 1, 1, 1, 1, 1, 0, 1, 0, 1, 0, 1] (codeOf f7)) ((((((((((((((((((((((((((f.put 61 (f.r 10)).put 62 (f.r 8)).put 63 v1).put 64 v2).put 128 (f.r 7)).put 129 (f.r 6)).put 130 v11).put 132 (f.r 7)).put 133 v12).put 134 (f.r 4)).put 135 v13).put 131 v13).put 136 v15).put 137 v16).put 14 v15).put 15 v16).put 138 v16).put 139 v17).put 140 v17).put 140 (Value.bool true)).put 141 undef).put 142 undef).put 143 undef).put 144 undef).put 145 undef).put 146 (Value.bool true)) h14 (contQ prog J 163 n0 7 [1, 1, 1, 1, 1, 1, 1, 1, 1, 0, 1, 0, 1, 0, 1] (codeOf f7) [] (RetQ prog [.tmp 2] n0 K)))
(aLenS v15 fun v18 =>
aLenS (f.r 8) fun v19 =>
aBin prog .neq 3 v18 v19 fun v20 =>
W prog J 163 n0 7 (subC [1, 1, 1, 1, 1, 1, 1, 1, 1, 0, 1, 0, 1, 0, 1] (codeOf f7)) ((((((((((((((((((((((((((f.put 61 (f.r 10)).put 62 (f.r 8)).put 63 v1).put 64 v2).put 128 (f.r 7)).put 129 (f.r 6)).put 130 v11).put 132 (f.r 7)).put 133 v12).put 134 (f.r 4)).put 135 v13).put 131 v13).put 136 v15).put 137 v16).put 14 v15).put 15 v16).put 138 v16).put 139 v17).put 140 v17).put 140 (Value.bool false)).put 141 v15).put 142 v18).put 143 (f.r 8)).put 144 v19).put 145 v20).put 146 v20) h14 (contQ prog J 163 n0 7 [1, 1, 1, 1, 1, 1, 1, 1, 1, 0, 1, 0, 1, 0, 1] (codeOf f7) [] (RetQ prog [.tmp 2] n0 K))))
(Good prog J 18 [] h fun v21 h22 =>
retL n0 K f.ds [v21] h22))) := by kernel_rfl
theorem l7_3 (hJ : Closed prog main J) {S : Type} (μ : S → Nat) (I : S → RG → List AObj → Prop) (hI : ∀ s f h, I s f h → heapOk h → n0 ≤ h.length → W prog J 163 n0 7 (subC [1, 1, 1, 1, 1, 1, 1, 1, 0, 1, 0, 0] (codeOf f7)) f h (thenK (Nx n0 μ I s) (contQ prog J 163 n0 7 [1, 1, 1, 1, 1, 1, 1, 1, 0, 1, 0] (codeOf f7) [] (RetQ prog [.tmp 2] n0 K))))
  {s : S} {f : RG} (hi : Gets n0 I s f h) : Sem J 163 n0 7 (subC [1, 1, 1, 1, 1, 1, 1, 1, 0, 1, 0] (codeOf f7)) f h (contQ prog J 163 n0 7 [1, 1, 1, 1, 1, 1, 1, 1, 0, 1, 0] (codeOf f7) [] (RetQ prog [.tmp 2] n0 K)) :=
  loop_rule hJ mixed (b := subC [1, 1, 1, 1, 1, 1, 1, 1, 0, 1, 0, 0] (codeOf f7)) (by kernel_rfl) μ I hI hi
-- join [1, 1, 1, 1, 1, 1, 1, 1, 0, 1, 0, 0, 1, 0, 0, 0, 1]
theorem s7_4 {f : RG} {nx0 : RG → List AObj → Prop} : W prog J 163 n0 7 (subC [1, 1, 1, 1, 1, 1, 1, 1, 0, 1, 0, 0, 1, 0, 0, 0, 1] (codeOf f7)) f h (contQ prog J 163 n0 7 [1, 1, 1, 1, 1, 1, 1, 1, 0, 1, 0, 0, 1, 0, 0, 0, 1] (codeOf f7) [nx0] (RetQ prog [.tmp 2] n0 K)) =
(cnd (f.r 82)
(retL n0 K f.ds [(Value.bool false)] h)
(Sem J 163 n0 7 (subC [1, 1, 1, 1, 1, 1, 1, 1, 0, 1, 0, 0, 1, 0, 0, 1, 1, 0] (codeOf f7)) (f.put 11 (vint 0)) h (contQ prog J 163 n0 7 [1, 1, 1, 1, 1, 1, 1, 1, 0, 1, 0, 0, 1, 0, 0, 1, 1, 0] (codeOf f7) [nx0] (RetQ prog [.tmp 2] n0 K)))) := by kernel_rfl
-- join [1, 1, 1, 1, 1, 1, 1, 1, 1, 0, 1, 0, 1, 0, 1]
theorem s7_5 {f : RG} : W prog J 163 n0 7 (subC [1, 1, 1, 1, 1, 1, 1, 1, 1, 0, 1, 0, 1, 0, 1] (codeOf f7)) f h (contQ prog J 163 n0 7 [1, 1, 1, 1, 1, 1, 1, 1, 1, 0, 1, 0, 1, 0, 1] (codeOf f7) [] (RetQ prog [.tmp 2] n0 K)) =
(cnd (f.r 146)
(retL n0 K f.ds [(Value.bool false)] h)
(Sem J 163 n0 7 (subC [1, 1, 1, 1, 1, 1, 1, 1, 1, 0, 1, 0, 1, 1, 1, 0] (codeOf f7)) (f.put 16 (vint 0)) h (contQ prog J 163 n0 7 [1, 1, 1, 1, 1, 1, 1, 1, 1, 0, 1, 0, 1, 1, 1, 0] (codeOf f7) [] (RetQ prog [.tmp 2] n0 K)))) := by kernel_rfl
-- loop [1, 1, 1, 1, 1, 1, 1, 1, 0, 1, 0, 0, 1, 0, 0, 1, 1, 0, 0]
theorem s7_6 {f : RG} {nx0 nx1 : RG → List AObj → Prop} : W prog J 163 n0 7 (subC [1, 1, 1, 1, 1, 1, 1, 1, 0, 1, 0, 0, 1, 0, 0, 1, 1, 0, 0] (codeOf f7)) f h (thenK nx1 (contQ prog J 163 n0 7 [1, 1, 1, 1, 1, 1, 1, 1, 0, 1, 0, 0, 1, 0, 0, 1, 1, 0] (codeOf f7) [nx0] (RetQ prog [.tmp 2] n0 K))) =
(aLenS (f.r 8) fun v1 =>
aBin prog .lss 3 (f.r 11) v1 fun v2 =>
cnd v2
(aIdx 1 (f.r 4) (f.r 10) fun v3 =>
aLoad false 1 v3 h fun v4 =>
aIdx 1 (f.r 8) (f.r 11) fun v5 =>
aLoad false 1 v5 h fun v6 =>
aBin prog .add 3 v6 (vint 1) fun v7 =>
aBin prog .mul 3 v4 v7 fun v8 =>
aIdx 1 (f.r 4) (f.r 11) fun v9 =>
aLoad false 1 v9 h fun v10 =>
aIdx 1 (f.r 8) (f.r 10) fun v11 =>
aLoad false 1 v11 h fun v12 =>
aBin prog .mul 3 v10 v12 fun v13 =>
aIdx 1 (f.r 8) (f.r 10) fun v14 =>
aLoad false 1 v14 h fun v15 =>
aBin prog .gtr 3 v15 (vint 0) fun v16 =>
cnd v16
(aBin prog .lss 3 v8 v13 fun v17 =>
cnd v17
(W prog J 163 n0 7 (subC [1, 1, 1, 1, 1, 1, 1, 1, 0, 1, 0, 0, 1, 0, 0, 1, 1, 0, 0, 1, 0, 0, 1, 1] (codeOf f7)) (((((((((((((((((((((((((((((((((((((((((((((((f.put 83 (f.r 11)).put 84 (f.r 8)).put 85 v1).put 86 v2).put 89 (f.r 4)).put 90 (f.r 10)).put 91 v3).put 92 v4).put 93 (f.r 8)).put 94 (f.r 11)).put 95 v5).put 96 v6).put 97 v7).put 98 v8).put 99 (f.r 4)).put 100 (f.r 11)).put 101 v9).put 102 v10).put 103 (f.r 8)).put 104 (f.r 10)).put 105 v11).put 106 v12).put 107 v13).put 12 v8).put 13 v13).put 108 (f.r 8)).put 109 (f.r 10)).put 110 v14).put 111 v15).put 112 v16).put 113 v16).put 113 (Value.bool true)).put 114 v8).put 115 v13).put 116 v17).put 117 v17).put 117 (Value.bool true)).put 118 undef).put 119 undef).put 120 undef).put 121 undef).put 122 undef).put 123 undef).put 124 undef).put 125 undef).put 126 (Value.bool true)).put 127 (Value.bool true)) h (contQ prog J 163 n0 7 [1, 1, 1, 1, 1, 1, 1, 1, 0, 1, 0, 0, 1, 0, 0, 1, 1, 0, 0, 1, 0, 0, 1, 1] (codeOf f7) [nx0, nx1] (RetQ prog [.tmp 2] n0 K)))
(aBin prog .eql 3 v8 v13 fun v18 =>
cnd v18
(aBin prog .lss 3 (f.r 11) (f.r 10) fun v19 =>
W prog J 163 n0 7 (subC [1, 1, 1, 1, 1, 1, 1, 1, 0, 1, 0, 0, 1, 0, 0, 1, 1, 0, 0, 1, 0, 0, 1, 1] (codeOf f7)) ((((((((((((((((((((((((((((((((((((((((((((((((f.put 83 (f.r 11)).put 84 (f.r 8)).put 85 v1).put 86 v2).put 89 (f.r 4)).put 90 (f.r 10)).put 91 v3).put 92 v4).put 93 (f.r 8)).put 94 (f.r 11)).put 95 v5).put 96 v6).put 97 v7).put 98 v8).put 99 (f.r 4)).put 100 (f.r 11)).put 101 v9).put 102 v10).put 103 (f.r 8)).put 104 (f.r 10)).put 105 v11).put 106 v12).put 107 v13).put 12 v8).put 13 v13).put 108 (f.r 8)).put 109 (f.r 10)).put 110 v14).put 111 v15).put 112 v16).put 113 v16).put 113 (Value.bool true)).put 114 v8).put 115 v13).put 116 v17).put 117 v17).put 117 (Value.bool false)).put 118 v8).put 119 v13).put 120 v18).put 121 v18).put 121 (Value.bool true)).put 122 (f.r 11)).put 123 (f.r 10)).put 124 v19).put 125 v19).put 126 v19).put 127 v19) h (contQ prog J 163 n0 7 [1, 1, 1, 1, 1, 1, 1, 1, 0, 1, 0, 0, 1, 0, 0, 1, 1, 0, 0, 1, 0, 0, 1, 1] (codeOf f7) [nx0, nx1] (RetQ prog [.tmp 2] n0 K)))
(W prog J 163 n0 7 (subC [1, 1, 1, 1, 1, 1, 1, 1, 0, 1, 0, 0, 1, 0, 0, 1, 1, 0, 0, 1, 0, 0, 1, 1] (codeOf f7)) ((((((((((((((((((((((((((((((((((((((((((((((((f.put 83 (f.r 11)).put 84 (f.r 8)).put 85 v1).put 86 v2).put 89 (f.r 4)).put 90 (f.r 10)).put 91 v3).put 92 v4).put 93 (f.r 8)).put 94 (f.r 11)).put 95 v5).put 96 v6).put 97 v7).put 98 v8).put 99 (f.r 4)).put 100 (f.r 11)).put 101 v9).put 102 v10).put 103 (f.r 8)).put 104 (f.r 10)).put 105 v11).put 106 v12).put 107 v13).put 12 v8).put 13 v13).put 108 (f.r 8)).put 109 (f.r 10)).put 110 v14).put 111 v15).put 112 v16).put 113 v16).put 113 (Value.bool true)).put 114 v8).put 115 v13).put 116 v17).put 117 v17).put 117 (Value.bool false)).put 118 v8).put 119 v13).put 120 v18).put 121 v18).put 121 (Value.bool false)).put 122 undef).put 123 undef).put 124 undef).put 125 (Value.bool false)).put 126 (Value.bool false)).put 127 (Value.bool false)) h (contQ prog J 163 n0 7 [1, 1, 1, 1, 1, 1, 1, 1, 0, 1, 0, 0, 1, 0, 0, 1, 1, 0, 0, 1, 0, 0, 1, 1] (codeOf f7) [nx0, nx1] (RetQ prog [.tmp 2] n0 K)))))
(W prog J 163 n0 7 (subC [1, 1, 1, 1, 1, 1, 1, 1, 0, 1, 0, 0, 1, 0, 0, 1, 1, 0, 0, 1, 0, 0, 1, 1] (codeOf f7)) ((((((((((((((((((((((((((((((((((((((((((((((f.put 83 (f.r 11)).put 84 (f.r 8)).put 85 v1).put 86 v2).put 89 (f.r 4)).put 90 (f.r 10)).put 91 v3).put 92 v4).put 93 (f.r 8)).put 94 (f.r 11)).put 95 v5).put 96 v6).put 97 v7).put 98 v8).put 99 (f.r 4)).put 100 (f.r 11)).put 101 v9).put 102 v10).put 103 (f.r 8)).put 104 (f.r 10)).put 105 v11).put 106 v12).put 107 v13).put 12 v8).put 13 v13).put 108 (f.r 8)).put 109 (f.r 10)).put 110 v14).put 111 v15).put 112 v16).put 113 v16).put 113 (Value.bool false)).put 114 undef).put 115 undef).put 116 undef).put 117 undef).put 118 undef).put 119 undef).put 120 undef).put 121 undef).put 122 undef).put 123 undef).put 124 undef).put 125 undef).put 126 undef).put 127 (Value.bool false)) h (contQ prog J 163 n0 7 [1, 1, 1, 1, 1, 1, 1, 1, 0, 1, 0, 0, 1, 0, 0, 1, 1, 0, 0, 1, 0, 0, 1, 1] (codeOf f7) [nx0, nx1] (RetQ prog [.tmp 2] n0 K))))
(aBin prog .add 3 (f.r 10) (vint 1) fun v20 =>
nx0 (((((((f.put 83 (f.r 11)).put 84 (f.r 8)).put 85 v1).put 86 v2).put 65 (f.r 10)).put 66 v20).put 10 v20) h)) := by kernel_rfl
theorem l7_6 (hJ : Closed prog main J) {nx0 : RG → List AObj → Prop} {S : Type} (μ : S → Nat) (I : S → RG → List AObj → Prop) (hI : ∀ s f h, I s f h → heapOk h → n0 ≤ h.length → W prog J 163 n0 7 (subC [1, 1, 1, 1, 1, 1, 1, 1, 0, 1, 0, 0, 1, 0, 0, 1, 1, 0, 0] (codeOf f7)) f h (thenK (Nx n0 μ I s) (contQ prog J 163 n0 7 [1, 1, 1, 1, 1, 1, 1, 1, 0, 1, 0, 0, 1, 0, 0, 1, 1, 0] (codeOf f7) [nx0] (RetQ prog [.tmp 2] n0 K))))
  {s : S} {f : RG} (hi : Gets n0 I s f h) : Sem J 163 n0 7 (subC [1, 1, 1, 1, 1, 1, 1, 1, 0, 1, 0, 0, 1, 0, 0, 1, 1, 0] (codeOf f7)) f h (contQ prog J 163 n0 7 [1, 1, 1, 1, 1, 1, 1, 1, 0, 1, 0, 0, 1, 0, 0, 1, 1, 0] (codeOf f7) [nx0] (RetQ prog [.tmp 2] n0 K)) :=
  loop_rule hJ mixed (b := subC [1, 1, 1, 1, 1, 1, 1, 1, 0, 1, 0, 0, 1, 0, 0, 1, 1, 0, 0] (codeOf f7)) (by kernel_rfl) μ I hI hi
-- loop [1, 1, 1, 1, 1, 1, 1, 1, 1, 0, 1, 0, 1, 1, 1, 0, 0]
theorem s7_7 {f : RG} {nx0 : RG → List AObj → Prop} : W prog J 163 n0 7 (subC [1, 1, 1, 1, 1, 1, 1, 1, 1, 0, 1, 0, 1, 1, 1, 0, 0] (codeOf f7)) f h (thenK nx0 (contQ prog J 163 n0 7 [1, 1, 1, 1, 1, 1, 1, 1, 1, 0, 1, 0, 1, 1, 1, 0] (codeOf f7) [] (RetQ prog [.tmp 2] n0 K))) =
(aLenS (f.r 8) fun v1 =>
aBin prog .lss 3 (f.r 16) v1 fun v2 =>
cnd v2
(aIdx 1 (f.r 14) (f.r 16) fun v3 =>
aLoad false 1 v3 h fun v4 =>
aIdx 1 (f.r 8) (f.r 16) fun v5 =>
aLoad false 1 v5 h fun v6 =>
aBin prog .lss 3 v4 v6 fun v7 =>
cnd v7
(retL n0 K f.ds [(Value.bool false)] h)
(aBin prog .add 3 (f.r 16) (vint 1) fun v8 =>
nx0 ((((((((((((((((f.put 147 (f.r 16)).put 148 (f.r 8)).put 149 v1).put 150 v2).put 153 (f.r 14)).put 154 (f.r 16)).put 155 v3).put 156 v4).put 157 (f.r 8)).put 158 (f.r 16)).put 159 v5).put 160 v6).put 161 v7).put 151 (f.r 16)).put 152 v8).put 16 v8) h))
(Good prog J 18 [] h fun v9 h10 =>
retL n0 K f.ds [v9] h10)) := by kernel_rfl
theorem l7_7 (hJ : Closed prog main J) {S : Type} (μ : S → Nat) (I : S → RG → List AObj → Prop) (hI : ∀ s f h, I s f h → heapOk h → n0 ≤ h.length → W prog J 163 n0 7 (subC [1, 1, 1, 1, 1, 1, 1, 1, 1, 0, 1, 0, 1, 1, 1, 0, 0] (codeOf f7)) f h (thenK (Nx n0 μ I s) (contQ prog J 163 n0 7 [1, 1, 1, 1, 1, 1, 1, 1, 1, 0, 1, 0, 1, 1, 1, 0] (codeOf f7) [] (RetQ prog [.tmp 2] n0 K))))
  {s : S} {f : RG} (hi : Gets n0 I s f h) : Sem J 163 n0 7 (subC [1, 1, 1, 1, 1, 1, 1, 1, 1, 0, 1, 0, 1, 1, 1, 0] (codeOf f7)) f h (contQ prog J 163 n0 7 [1, 1, 1, 1, 1, 1, 1, 1, 1, 0, 1, 0, 1, 1, 1, 0] (codeOf f7) [] (RetQ prog [.tmp 2] n0 K)) :=
  loop_rule hJ mixed (b := subC [1, 1, 1, 1, 1, 1, 1, 1, 1, 0, 1, 0, 1, 1, 1, 0, 0] (codeOf f7)) (by kernel_rfl) μ I hI hi
-- join [1, 1, 1, 1, 1, 1, 1, 1, 0, 1, 0, 0, 1, 0, 0, 1, 1, 0, 0, 1, 0, 0, 1, 1]
theorem s7_8 {f : RG} {nx0 nx1 : RG → List AObj → Prop} : W prog J 163 n0 7 (subC [1, 1, 1, 1, 1, 1, 1, 1, 0, 1, 0, 0, 1, 0, 0, 1, 1, 0, 0, 1, 0, 0, 1, 1] (codeOf f7)) f h (contQ prog J 163 n0 7 [1, 1, 1, 1, 1, 1, 1, 1, 0, 1, 0, 0, 1, 0, 0, 1, 1, 0, 0, 1, 0, 0, 1, 1] (codeOf f7) [nx0, nx1] (RetQ prog [.tmp 2] n0 K)) =
(cnd (f.r 127)
(retL n0 K f.ds [(Value.bool false)] h)
(aBin prog .add 3 (f.r 11) (vint 1) fun v1 =>
nx1 (((f.put 87 (f.r 11)).put 88 v1).put 11 v1) h)) := by kernel_rfl
end
end Go.Proofs.Ytdgpacdknpahnaa

/- Contracts: the hand that deals numbers. No conditions. -/
namespace Go.Proofs.Ytdgpacdknpahnaa
open Go.Conc Go.Proofs.Try

/-- A hand lies in block b: its list, how many it has dealt, its state. -/
structure HandAt (h : List AObj) (b : Nat) (nv : Value) (nums : List Int) (k : Nat) (s : Int) : Prop where
  at_ : h[b]? = some (.cells [nv, vint k, .int .u64 s] true 0)
  list : Sli h nv 1 nums.length (nums.map vint)
  sane : nums.length < 4611686018427387904
  few : k < 4611686018427387904
  lo : 0 ≤ s
  hi : s < 18446744073709551616

section
variable {main : Bool} {J : JT} {h : List AObj} {K : Value → List AObj → Prop}

theorem nil_ok {b o : Nat} {K : Value → Prop} : aNil (ptr b o) K = K (ptr b o) := rfl
theorem off_ok {b o d : Nat} {K : Value → Prop} : aOff (ptr b o) d K = K (ptr b (o + d)) := rfl
theorem conv_u {n : Int} {K : Value → Prop} (hk : ∀ y, 0 ≤ y → y < 18446744073709551616 → K (.int .u64 y)) : aConvI .u64 (vint n) K := hk _ (wrapU _).1 (wrapU _).2

theorem u_shr11 {t : TypeId} {y : Int} (h1 : 0 ≤ y) (h2 : y < 18446744073709551616) {K : Value → Prop} : aBin prog .shr t (.int .u64 y) (.int .u64 11) K = K (.int .u64 (y / 2048)) := by
  have e : min (Int.toNat 11) IntKind.u64.bits = 11 := by decide
  simp only [aBin, aShift, e]
  rw [Int.fdiv_eq_ediv_of_nonneg _ (by decide)]
  simp

theorem set_twice {b : Nat} {x y : AObj} (hb : h[b]? = some x) : (h.set b y)[b]? = some y := by
  have : b < h.length := (List.getElem?_eq_some_iff.1 hb).1
  simp [this]

theorem good66 (hJ : Closed prog main J) {b : Nat} {nv : Value} {nums : List Int} {k : Nat} {s : Int} (H : HandAt h b nv nums k s)
    (hK : ∀ x s', 0 ≤ x → x < 9007199254740992 → 0 ≤ s' → s' < 18446744073709551616 → K (.int .u64 x) (h.set b (.cells [nv, vint (k + 1), .int .u64 s'] true 0))) : Good prog J 66 [ptr b 0] h K := by
  refine g66 hJ fun ok => ?_
  rw [e66]
  obtain ⟨hb, hl, hsane, hfew, hlo, hhi⟩ := H
  have hnv : kn1 nv = true := by
    obtain ⟨_, _, rfl, _⟩ := hl
    rfl
  have l0 : ∀ K, aLoad false 1 (ptr b 0) h K = K nv := fun K => load_cell hb rfl hnv
  have l1 : ∀ K, aLoad false 1 (ptr b 1) h K = K (vint k) := fun K => load_cell hb rfl rfl
  -- what stands behind the joining of the ways
  have rest : ∀ x : Int, aBin prog .add 3 (vint k) (vint 1) fun v25 =>
      aStore 1 (ptr b 1) v25 h fun h28 =>
      aLoad false 1 (ptr b 2) h28 fun v31 =>
      aBin prog .mul 85 (.int .u64 x) (Value.int .u64 11400714819323198485) fun v32 =>
      aBin prog .xor 85 v31 v32 fun v33 =>
      aBin prog .shl 85 v33 (Value.int .u64 13) fun v34 =>
      aBin prog .xor 85 v33 v34 fun v35 =>
      aBin prog .shr 85 v35 (Value.int .u64 7) fun v36 =>
      aBin prog .xor 85 v35 v36 fun v37 =>
      aBin prog .shl 85 v37 (Value.int .u64 17) fun v38 =>
      aBin prog .xor 85 v37 v38 fun v39 =>
      aBin prog .add 85 v39 (Value.int .u64 7146057691288625177) fun v40 =>
      aStore 1 (ptr b 2) v40 h28 fun h43 =>
      aBin prog .shr 85 v39 (Value.int .u64 31) fun v44 =>
      aBin prog .xor 85 v39 v44 fun v45 =>
      aBin prog .mul 85 v45 (Value.int .u64 13787848793156543929) fun v46 =>
      aBin prog .shr 85 v46 (Value.int .u64 29) fun v47 =>
      aBin prog .xor 85 v46 v47 fun v48 =>
      aBin prog .shr 85 v48 (Value.int .u64 11) fun v49 =>
      retL h.length K [] [v49] h43 := by
    intro x
    rw [b_add (by omega)]
    refine store_cell hb (by simp) rfl rfl ?_
    have hb2 : (h.set b (.cells ([nv, vint k, .int .u64 s].set 1 (vint (k + 1))) true 0))[b]? = some (.cells [nv, vint (k + 1), .int .u64 s] true 0) := set_twice hb
    rw [load_cell hb2 rfl rfl]
    refine u_mul fun y1 a1 b1 => u_xor fun y2 a2 b2 => u_shl (by omega) fun y3 a3 b3 => u_xor fun y4 a4 b4 => u_shr (by omega) a4 b4 fun y5 a5 b5 => u_xor fun y6 a6 b6 => u_shl (by omega) fun y7 a7 b7 => u_xor fun y8 a8 b8 => u_add fun y9 a9 b9 => ?_
    refine store_cell hb2 (by simp) rfl rfl ?_
    refine u_shr (by omega) a8 b8 fun z1 c1 d1 => u_xor fun z2 c2 d2 => u_mul fun z3 c3 d3 => u_shr (by omega) c3 d3 fun z4 c4 d4 => u_xor fun z5 c5 d5 => ?_
    rw [u_shr11 c5 d5]
    refine retL_same (by simp [unk]) ?_
    rw [List.set_set]
    exact hK _ _ (by omega) (by omega) a9 b9
  simp only [nil_ok, off_ok, Nat.zero_add, l0, l1]
  refine conv_u fun x0 _ _ => ?_
  simp only [sli_len hl, b_lss, cnd_dec]
  refine ⟨fun hlt => idx_load hl ⟨by omega, by omega⟩ (map_get (by simpa using hlt)) fun p => conv_u fun x1 _ _ => rest x1, fun _ => rest x0⟩

/-- The hand in block b has dealt some more: what lies there now. -/
def Dealt (h : List AObj) (b : Nat) (nv : Value) (k n : Nat) (h' : List AObj) : Prop :=
  ∃ (k' : Nat) (s' : Int), k' ≤ k + n ∧ 0 ≤ s' ∧ s' < 18446744073709551616 ∧ h' = h.set b (.cells [nv, vint k', .int .u64 s'] true 0)

theorem good22 (hJ : Closed prog main J) {b : Nat} {nv : Value} {nums : List Int} {k : Nat} {s m : Int} (H : HandAt h b nv nums k s) (hm : m < 9223372036854775807)
    (hK : ∀ y h', 0 ≤ y → (y ≤ m ∨ y = 0) → Dealt h b nv k 1 h' → K (vint y) h') : Good prog J 22 [ptr b 0, vint m] h K := by
  refine g22 hJ fun ok => ?_
  rw [e22]
  simp only [b_leq, cnd_dec]
  refine ⟨fun h0 => retL_same (by simp [unk]) (hK 0 h (by omega) (.inr rfl) ⟨k, s, by omega, H.lo, H.hi, ?_⟩), fun h0 => ?_⟩
  · have hb : b < h.length := (List.getElem?_eq_some_iff.1 H.at_).1
    apply List.ext_getElem?
    intro i
    rw [List.getElem?_set]
    split
    · rename_i e
      subst e
      exact H.at_
    · rfl
  · refine good66 hJ H fun x s' hx hx2 hs hs2 => ?_
    rw [b_add (by omega)]
    have e1 : ∀ n : Int, 0 ≤ n → n < 9223372036854775808 → IntKind.u64.wrap n = n := fun n a b => by
      simp only [IntKind.wrap, IntKind.bits, IntKind.signed]
      simp
      omega
    have hmod : Int.tmod x (m + 1) = x % (m + 1) := Int.tmod_eq_emod_of_nonneg hx
    have h1 := Int.emod_nonneg x (b := m + 1) (by omega)
    have h2 := Int.emod_lt_of_pos x (b := m + 1) (by omega)
    simp only [aConvI, e1 (m + 1) (by omega) (by omega), aBin, aInt, true_and]
    rw [hmod, wrap64 (by omega) (by omega)]
    exact ⟨by omega, retL_same (by simp [unk]) (hK _ _ h1 (.inl (by omega)) ⟨k + 1, s', by omega, hs, hs2, rfl⟩)⟩

theorem good20 (hJ : Closed prog main J) {b : Nat} {nv : Value} {nums : List Int} {k : Nat} {s lo hi : Int} (H : HandAt h b nv nums k s) (h1 : -1000000000000 ≤ lo ∧ lo ≤ 1000000000000) (h2 : -1000000000000 ≤ hi ∧ hi ≤ 1000000000000)
    (hK : ∀ y h', lo ≤ y → (y ≤ hi ∨ y = lo) → Dealt h b nv k 1 h' → K (vint y) h') : Good prog J 20 [ptr b 0, vint lo, vint hi] h K := by
  refine g20 hJ fun ok => ?_
  rw [e20, b_sub (by omega)]
  refine good22 hJ H (by omega) fun y h' hy hy2 hd => ?_
  rw [b_add (by omega)]
  exact retL_same (by simp [unk]) (hK _ _ (by omega) (by omega) hd)

theorem good19 (hJ : Closed prog main J) {base : Option Addr} {n c : Nat}
    (hK : K (ptr h.length 0) (h ++ [.cells [.slice base n c, vint 0, .int .u64 88172645463325252] true 0])) : Good prog J 19 [.slice base n c] h K := by
  refine g19 hJ fun ok => ?_
  rw [e19]
  simp [aFill, aBox, wrAt, Value.cells, one]
  exact retL_same (vs := [ptr h.length 0]) (by simp [unk]) hK

theorem good21 (hJ : Closed prog main J) {b : Nat} {nv ov : Value} {nums others : List Int} {k : Nat} {s a : Int} (H : HandAt h b nv nums k s) (ho : ∀ h', Dealt h b nv k 1 h' → Sli h' ov 1 others.length (others.map vint)) (hl : others.length < 1000000)
    (hK : ∀ y h', (y = a ∨ y ∈ others) → Dealt h b nv k 1 h' → K (vint y) h') : Good prog J 21 [ptr b 0, vint a, ov] h K := by
  refine g21 hJ fun ok => ?_
  rw [e21]
  have hd0 : Dealt h b nv k 1 h := by
    refine ⟨k, s, by omega, H.lo, H.hi, ?_⟩
    apply List.ext_getElem?
    intro i
    rw [List.getElem?_set]
    split
    · rename_i e
      subst e
      have hb : b < h.length := (List.getElem?_eq_some_iff.1 H.at_).1
      rw [if_pos hb]
      exact H.at_
    · rfl
  rw [sli_len (ho h hd0)]
  refine good22 hJ H (by omega) fun y h' hy hy2 hd => ?_
  simp only [b_gtr, cnd_dec]
  refine ⟨fun hg => ?_, fun _ => retL_same (by simp [unk]) (hK _ _ (.inl rfl) hd)⟩
  rw [b_sub (by omega)]
  refine idx_load (ho h' hd) ⟨by omega, by omega⟩ (map_get (by omega)) fun p => ?_
  refine retL_same (by simp [unk]) (hK _ _ (.inr ?_) hd)
  have : (y - 1).toNat < others.length := by omega
  simp only [List.getD_eq_getElem?_getD, List.getElem?_eq_getElem this, Option.getD_some]
  exact List.getElem_mem this
end
end Go.Proofs.Ytdgpacdknpahnaa

/- Contracts: within, SameInts, Total, CopyInts. No conditions. -/
namespace Go.Proofs.Ytdgpacdknpahnaa
open Go.Conc Go.Proofs.Try
section
variable {main : Bool} {J : JT} {h : List AObj} {K : Value → List AObj → Prop}

theorem good68 (hJ : Closed prog main J) {n lo hi : Int} (hK : K (.bool (decide (lo ≤ n ∧ n ≤ hi))) h) : Good prog J 68 [vint n, vint lo, vint hi] h K := by
  refine g68 hJ fun ok => ?_
  rw [e68]
  simp only [b_leq, b_geq, cnd_dec]
  refine ⟨fun h1 => retL_same (by simp [unk]) ?_, fun h1 => retL_same (by simp [unk]) ?_⟩
  · simpa [pack, h1] using hK
  · simpa [pack, h1] using hK

theorem good27 (hJ : Closed prog main J) {av bv : Value} {xs ys : List Int} (ha : Sli h av 1 xs.length (xs.map vint)) (hb : Sli h bv 1 ys.length (ys.map vint)) (hl : xs.length < 4611686018427387904)
    (hK : K (.bool (decide (xs = ys))) h) : Good prog J 27 [av, bv] h K := by
  refine g27 hJ fun ok => ?_
  rw [e27]
  simp only [sli_len ha, sli_len hb, b_neq, cnd_dec]
  refine ⟨fun hne => retL_same (by simp [unk]) ?_, fun heq => ?_⟩
  · have : xs ≠ ys := fun e => hne (by rw [e])
    simpa [pack, this] using hK
  · have hlen : xs.length = ys.length := by omega
    refine l27_1 hJ (fun i => xs.length - i) (fun i f h' => h' = h ∧ f.ds = [] ∧ f.r 0 = av ∧ f.r 1 = bv ∧ f.r 5 = vint (i : Nat) ∧ i ≤ xs.length ∧ xs.take i = ys.take i) ?_ (s := 0) (.inl ⟨rfl, rfl, rfl, rfl, rfl, by omega, by simp⟩)
    rintro i f h' ⟨rfl, hds, h0, h1, h5, hi, ht⟩ _ hn
    rw [s27_1]
    simp only [h0, h1, h5, hds, sli_len ha, b_lss, cnd_dec]
    refine ⟨fun hlt => ?_, fun hge => ?_⟩
    · have e1 : i < xs.length := by omega
      refine idx_load ha ⟨by omega, by omega⟩ (map_get (by omega)) fun p1 => ?_
      refine idx_load hb ⟨by omega, by omega⟩ (map_get (by omega)) fun p2 => ?_
      simp only [b_neq, cnd_dec, Int.toNat_natCast]
      refine ⟨fun hne => retL_same (by simp [unk]) ?_, fun heq => ?_⟩
      · have : xs ≠ ys := fun e => hne (by rw [e])
        simpa [pack, this] using hK
      · rw [b_add (by omega)]
        refine ⟨i + 1, by dsimp only; omega, .inl ⟨rfl, hds, h0, h1, rfl, by omega, ?_⟩⟩
        have heq : xs.getD i 0 = ys.getD i 0 := by simpa using heq
        simp only [List.getD_eq_getElem?_getD, List.getElem?_eq_getElem e1, List.getElem?_eq_getElem (show i < ys.length by omega), Option.getD_some] at heq
        rw [List.take_add_one, List.take_add_one, ht, List.getElem?_eq_getElem e1, List.getElem?_eq_getElem (show i < ys.length by omega), heq]
    · have : i = xs.length := by omega
      subst this
      rw [List.take_length, hlen, List.take_length] at ht
      refine retL_same (by simp [unk]) ?_
      simpa [pack, ht] using hK

theorem good23 (hJ : Closed prog main J) {av : Value} {xs : List Int} (ha : Sli h av 1 xs.length (xs.map vint)) (hl : xs.length < 1000000) (hx : ∀ x ∈ xs, -1000000 ≤ x ∧ x ≤ 1000000)
    (hK : K (vint xs.sum) h) : Good prog J 23 [av] h K := by
  refine g23 hJ fun ok => ?_
  rw [e23]
  have bd : ∀ l : List Int, (∀ x ∈ l, -1000000 ≤ x ∧ x ≤ 1000000) → -1000000 * (l.length : Int) ≤ l.sum ∧ l.sum ≤ 1000000 * l.length := by
    intro l
    induction l with
    | nil => simp
    | cons x l ih =>
      intro h
      have := ih fun y hy => h y (by simp [hy])
      have := h x (by simp)
      simp only [List.sum_cons, List.length_cons]
      omega
  refine l23_1 hJ (fun i => xs.length - i) (fun i f h' => h' = h ∧ f.ds = [] ∧ f.r 0 = av ∧ f.r 3 = vint (xs.take i).sum ∧ f.r 4 = vint (i : Nat) ∧ i ≤ xs.length) ?_ (s := 0) (.inl ⟨rfl, rfl, rfl, rfl, rfl, by omega⟩)
  rintro i f h' ⟨rfl, hds, h0, h3, h4, hi⟩ _ hn
  rw [s23_1]
  simp only [h0, h3, h4, hds, sli_len ha, b_lss, cnd_dec]
  refine ⟨fun hlt => ?_, fun hge => ?_⟩
  · have e1 : i < xs.length := by omega
    refine idx_load ha ⟨by omega, by omega⟩ (x := vint xs[i]) (by simp [e1]) fun p1 => ?_
    have b1 := bd (xs.take i) fun x hx' => hx x (List.mem_of_mem_take hx')
    have b2 := hx _ (List.getElem_mem e1)
    have b3 : (xs.take i).length ≤ 1000000 := by simp; omega
    rw [b_add (by omega), b_add (by omega)]
    refine ⟨i + 1, by dsimp only; omega, .inl ⟨rfl, hds, h0, ?_, rfl, by omega⟩⟩
    show vint ((xs.take i).sum + xs[i]) = vint (xs.take (i + 1)).sum
    congr 1
    rw [List.take_add_one, List.sum_append, List.getElem?_eq_getElem e1]
    simp
  · have : i = xs.length := by omega
    subst this
    rw [List.take_length]
    exact retL_same (by simp [unk]) hK

theorem ints_ok (n : Nat) (xs : List Int) : LOk n (xs.map vint) := by
  rw [LOk_iff]
  intro v hv
  obtain ⟨x, _, rfl⟩ := List.mem_map.1 hv
  simp [VOk]

theorem good24 (hJ : Closed prog main J) {av : Value} {xs : List Int} (ha : Sli h av 1 xs.length (xs.map vint)) (hl : xs.length < 1000000)
    (hK : ∀ c sz, K (.slice (some ⟨h.length, 0, none⟩) xs.length c) (h ++ [.cells (xs.map vint) true sz])) : Good prog J 24 [av] h K := by
  refine g24 hJ fun ok => ?_
  rw [e24]
  have hr : room = 1073741824 := rfl
  refine ⟨by decide, ?_⟩
  simp only [zrep, aFill, aNewS]
  refine ⟨by decide, ?_⟩
  have ha' := sli_app (g := [.cells [] true 0]) ha
  by_cases h0 : xs.length = 0
  · have : xs = [] := List.length_eq_zero_iff.1 h0
    subst this
    obtain ⟨yb, yc, rfl, _⟩ := id ha'
    refine ⟨by simp, src_sli ha' (by omega) ?_⟩
    have hb : (h ++ [AObj.cells [] true 0])[h.length]? = some (.cells [] true 0) := by simp
    simp only [hb]
    have hf : fz = 1180591620717411303424 := rfl
    refine ⟨⟨by simp, rfl⟩, fun _ => ⟨fun _ => ⟨trivial, by simp, ?_⟩, fun x => absurd x (by simp)⟩, fun x => absurd x (by omega)⟩
    refine retL_same (by simp [unk]) ?_
    have := hK 0 0
    simpa [wrAt, pack] using this
  · refine app_copy (n := 0) (m := xs.length) (cs := []) (wr := true) (sz := 0) (by simp) (by simp) rfl (by omega) (by omega) ha' (by omega) ?_
    simp only [Nat.zero_mul, List.drop_nil, List.take_nil, List.nil_append, Nat.zero_add]
    rw [List.append_assoc]
    refine retL_one (k := (h ++ [AObj.cells [] true 0]).length) (o := .cells (xs.map vint) true 1) ok (Nat.le_refl _) (by simp) (by simp) (ints_ok _ _) (hK _ _)
end
end Go.Proofs.Ytdgpacdknpahnaa

/- Contracts: tally.between, tally.Shares. No conditions. -/
namespace Go.Proofs.Ytdgpacdknpahnaa
open Go.Conc Go.Proofs.Try
section
variable {main : Bool} {J : JT} {h : List AObj} {K : Value → List AObj → Prop}

theorem good67 (hJ : Closed prog main J) {n lo hi : Int} (hK : K (.bool (decide (lo ≤ n ∧ n ≤ hi))) h) : Good prog J 67 [vint n, vint lo, vint hi] h K := by
  refine g67 hJ fun ok => ?_
  rw [e67]
  simp only [vint, b_leq, cnd_dec]
  refine ⟨fun h1 => retL_same (by simp [unk]) ?_, fun h1 => retL_same (by simp [unk]) ?_⟩
  · simpa [pack, h1] using hK
  · simpa [pack, h1] using hK

def whoAt (hs out : List Int) : Nat → Nat
  | 0 => 0
  | i + 1 => if hs.getD i 0 * (out.getD (whoAt hs out i) 0 + 1) > hs.getD (whoAt hs out i) 0 * (out.getD i 0 + 1) then i else whoAt hs out i
def outAt (hs : List Int) : Nat → List Int
  | 0 => List.replicate hs.length 0
  | j + 1 => (outAt hs j).set (whoAt hs (outAt hs j) hs.length) ((outAt hs j).getD (whoAt hs (outAt hs j) hs.length) 0 + 1)
def inR (hs : List Int) : Prop := ∀ x ∈ hs, 0 ≤ x ∧ x ≤ 300

theorem sum_le {l : List Int} (h : inR l) : 0 ≤ l.sum ∧ l.sum ≤ 300 * l.length := by
  induction l with
  | nil => simp
  | cons x l ih =>
    have := ih fun y hy => h y (by simp [hy])
    have := h x (by simp)
    simp only [List.sum_cons, List.length_cons]
    omega

structure I1 (h0 : List AObj) (hv : Value) (loss : Int) (hs : List Int) (i : Nat) (f : RG) (h : List AObj) : Prop where
  hp : h = h0
  ds : f.ds = []
  r0 : f.r 0 = vint loss
  r1 : f.r 1 = hv
  r21 : f.r 21 = hv
  r22 : f.r 22 = vint hs.length
  r23 : f.r 23 = vint i
  r6 : f.r 6 = vint (hs.take i).sum
  le : i ≤ hs.length
  ok : inR (hs.take i)

structure I2 (h0 : List AObj) (hv : Value) (loss : Int) (hs : List Int) (j : Nat) (f : RG) (h : List AObj) : Prop where
  hp : h = h0 ++ [.cells ((outAt hs j).map vint) true 0]
  ds : f.ds = []
  r1 : f.r 1 = hv
  r9 : f.r 9 = .slice (some ⟨h0.length, 0, none⟩) hs.length hs.length
  r41 : f.r 41 = vint loss
  r42 : f.r 42 = vint j
  le : j ≤ loss

structure I3 (h0 : List AObj) (hv : Value) (loss : Int) (hs : List Int) (j : Nat) (i : Nat) (f : RG) (h : List AObj) : Prop extends I2 h0 hv loss hs j f h where
  r10 : f.r 10 = vint (whoAt hs (outAt hs j) i)
  r44 : f.r 44 = hv
  r45 : f.r 45 = vint hs.length
  r46 : f.r 46 = vint i
  li : i ≤ hs.length

theorem out_len (hs : List Int) : ∀ j, (outAt hs j).length = hs.length
  | 0 => by simp [outAt]
  | j + 1 => by simp [outAt, out_len hs j]
theorem who_lt (hs out : List Int) (h : 0 < hs.length) : ∀ i, i ≤ hs.length → whoAt hs out i < hs.length
  | 0, _ => h
  | i + 1, hi => by
    unfold whoAt
    split
    · omega
    · exact who_lt hs out h i (by omega)
theorem getD_mem {l : List Int} {k : Nat} (h : k < l.length) : l.getD k 0 ∈ l := by
  simp only [List.getD_eq_getElem?_getD, List.getElem?_eq_getElem h, Option.getD_some]
  exact List.getElem_mem h
theorem out_bd (hs : List Int) : ∀ j, ∀ x ∈ outAt hs j, 0 ≤ x ∧ x ≤ j
  | 0 => by
    intro x hx
    simp only [outAt, List.mem_replicate] at hx
    omega
  | j + 1 => by
    intro x hx
    simp only [outAt] at hx
    rcases List.mem_or_eq_of_mem_set hx with h | rfl
    · have := out_bd hs j x h
      omega
    · rcases Nat.lt_or_ge (whoAt hs (outAt hs j) hs.length) (outAt hs j).length with h | h
      · have := out_bd hs j _ (getD_mem h)
        omega
      · simp only [List.getD_eq_getElem?_getD, List.getElem?_eq_none h, Option.getD_none]
        omega

theorem good25 (hJ : Closed prog main J) {hv : Value} {loss : Int} {hs : List Int} (hsl : Sli h hv 1 hs.length (hs.map vint))
    (k1 : hs.length = 0 → K (.tuple ⟨[.slice none 0 0, vint 7]⟩) h) (k2 : hs.length > 5 → K (.tuple ⟨[.slice none 0 0, vint 6]⟩) h)
    (k3 : 0 < hs.length → hs.length ≤ 5 → ¬ (inR hs ∧ 0 ≤ loss ∧ loss ≤ hs.sum) → K (.tuple ⟨[.slice none 0 0, vint 1]⟩) h)
    (k4 : 0 < hs.length → hs.length ≤ 5 → inR hs → 0 ≤ loss → loss ≤ hs.sum → K (.tuple ⟨[.slice (some ⟨h.length, 0, none⟩) hs.length hs.length, vint 0]⟩) (h ++ [.cells ((outAt hs loss.toNat).map vint) true 0])) :
    Good prog J 25 [vint loss, hv] h K := by
  refine g25 hJ fun ok => ?_
  rw [e25]
  simp only [sli_len hsl, b_eql, b_gtr, cnd_dec]
  refine ⟨fun h1 => retL_same (by simp [unk]) (k1 (by omega)), fun h1 => ⟨fun h2 => retL_same (by simp [unk]) (k2 (by omega)), fun h2 => ?_⟩⟩
  refine l25_1 hJ (fun i => hs.length - i) (I1 h hv loss hs) ?_ (s := 0) (.inl ⟨rfl, rfl, rfl, rfl, rfl, rfl, rfl, rfl, by omega, by simp [inR]⟩)
  rintro i f h ⟨rfl, hds, hr0, hr1, hr21, hr22, hr23, hr6, hle, hok⟩ _ hn
  rw [s25_1]
  simp only [hr23, hr22, hr21, hr6, hr0, hr1, hds, b_lss, cnd_dec]
  refine ⟨fun hi => ?_, fun hi => ?_⟩
  · have hil : i < hs.length := by omega
    refine idx_load hsl ⟨by omega, by omega⟩ (x := vint hs[i]) (by simp [hil]) fun p => ?_
    refine good67 hJ ?_
    simp only [u_not, cnd_ndec]
    have htk : hs.take (i + 1) = hs.take i ++ [hs[i]] := by rw [List.take_add_one]; simp [hil]
    refine ⟨fun hb => retL_same (by simp [unk]) (k3 (by omega) (by omega) fun x => hb (x.1 _ (List.getElem_mem hil))), fun hb => ?_⟩
    have hsum := sum_le hok
    have hlen : (hs.take i).length = i := by simp; omega
    rw [b_add (by omega), b_add (by omega)]
    refine ⟨i + 1, by dsimp only; omega, .inl ⟨rfl, hds, hr0, hr1, hr21, hr22, rfl, ?_, by omega, ?_⟩⟩
    · show vint ((hs.take i).sum + hs[i]) = _
      congr 1
      rw [htk, List.sum_append]
      simp only [List.sum_cons, List.sum_nil]
      omega
    · rw [htk]
      intro x hx
      rcases List.mem_append.1 hx with hx | hx
      · exact hok x hx
      · simp at hx
        rw [hx]
        exact hb
  · have hil : i = hs.length := by omega
    subst hil
    rw [List.take_length] at hok
    simp only [List.take_length]
    have hsum := sum_le hok
    refine good67 hJ ?_
    simp only [u_not, cnd_ndec, sli_len hsl]
    refine ⟨fun hb => retL_same (by simp [unk]) (k3 (by omega) (by omega) fun x => hb x.2), fun hb => ⟨by decide, ?_⟩⟩
    refine mkS_one (by simp only [room]; omega) ?_
    refine l25_2 hJ (fun j => loss.toNat - j) (I2 h hv loss hs) ?_ (s := 0) (.inl ⟨by simp [outAt], hds, hr1, rfl, rfl, rfl, by omega⟩)
    rintro j f _ ⟨rfl, hds, hr1, hr9, hr41, hr42, hle⟩ ok hn
    rw [s25_2]
    have hsl' := sli_app (g := [.cells ((outAt hs j).map vint) true 0]) hsl
    simp only [hr42, hr41, hr1, hr9, hds, b_lss, cnd_dec, sli_len hsl']
    refine ⟨fun hj => ?_, fun hj => ?_⟩
    · refine l25_3 hJ (fun i => hs.length - i) (I3 h hv loss hs j) ?_ (s := 0) (.inl ⟨⟨rfl, hds, hr1, hr9, hr41, hr42, hle⟩, rfl, rfl, rfl, rfl, by omega⟩)
      rintro i f _ ⟨⟨rfl, hds, hr1, hr9, hr41, hr42, hle⟩, hr10, hr44, hr45, hr46, hli⟩ ok hn
      rw [s25_3]
      have hnew : Sli (h ++ [.cells ((outAt hs j).map vint) true 0]) (.slice (some ⟨h.length, 0, none⟩) hs.length hs.length) 1 hs.length ((outAt hs j).map vint) :=
        sli_new (wr := true) (sz := 0) (by simp) (by simp [out_len]) (kn_ints _)
      have hw := who_lt hs (outAt hs j) (by omega) i hli
      simp only [hr42, hr41, hr1, hr9, hds, hr10, hr44, hr45, hr46, b_lss, cnd_dec]
      have hol := out_len hs j
      have ow := out_bd hs j _ (getD_mem (l := outAt hs j) (k := whoAt hs (outAt hs j) i) (by omega))
      have hw' := hok _ (getD_mem hw)
      refine ⟨fun hi => ?_, fun hi => ?_⟩
      · have oi := out_bd hs j _ (getD_mem (l := outAt hs j) (k := i) (by omega))
        have hi' := hok _ (getD_mem (l := hs) (k := i) (by omega))
        have m1 := mul_bd hi'.1 hi'.2 (b := (outAt hs j).getD (whoAt hs (outAt hs j) i) 0 + 1) (B := 1501) (by omega) (by omega)
        have m2 := mul_bd hw'.1 hw'.2 (b := (outAt hs j).getD i 0 + 1) (B := 1501) (by omega) (by omega)
        refine idx_load hsl' ⟨by omega, by omega⟩ (map_get (by simpa using hi)) fun p1 => ?_
        refine idx_load hnew ⟨by omega, by omega⟩ (map_get (by simp; omega)) fun p2 => ?_
        rw [Int.toNat_natCast, Int.toNat_natCast, b_add (by omega), b_mul (by omega)]
        refine idx_load hsl' ⟨by omega, by omega⟩ (map_get (by simp; omega)) fun p3 => ?_
        refine idx_load hnew ⟨by omega, by omega⟩ (map_get (by simp; omega)) fun p4 => ?_
        rw [Int.toNat_natCast, Int.toNat_natCast, b_add (by omega), b_mul (by omega), b_gtr, cnd_dec]
        rw [b_add (by omega), b_add (by omega)]
        refine ⟨fun hg => ⟨i + 1, by dsimp only; omega, .inl ⟨⟨rfl, hds, hr1, hr9, hr41, hr42, hle⟩, ?_, hr44, hr45, rfl, by omega⟩⟩, fun hg => ⟨i + 1, by dsimp only; omega, .inl ⟨⟨rfl, hds, hr1, hr9, hr41, hr42, hle⟩, ?_, hr44, hr45, rfl, by omega⟩⟩⟩
        · show vint (i : Nat) = _
          rw [whoAt, if_pos hg]
        · show f.r 10 = _
          rw [hr10, whoAt, if_neg hg]
      · have hil : i = hs.length := by omega
        subst hil
        refine idx_load hnew ⟨by omega, by omega⟩ (map_get (by simp; omega)) fun p1 => ?_
        rw [Int.toNat_natCast, b_add (by omega), idx_ok]
        refine ⟨⟨by omega, by omega⟩, ?_⟩
        refine store_cell (sz := 0) (c := (outAt hs j).map vint) (by simp) (by simp; omega) rfl rfl ?_
        rw [b_add (by omega)]
        refine ⟨j + 1, by dsimp only; omega, .inl ⟨?_, hds, hr1, hr9, hr41, rfl, by omega⟩⟩
        rw [outAt]
        simp
    · have : loss.toNat = j := by omega
      refine retL_same (by simp [unk]) ?_
      have := k4 (by omega) (by omega) hok hb.1 hb.2
      simpa [pack, *] using this
end
end Go.Proofs.Ytdgpacdknpahnaa

/- Contracts: counted, reads, Reads. No conditions. -/
namespace Go.Proofs.Ytdgpacdknpahnaa
open Go.Conc Go.Proofs.Try
set_option maxRecDepth 100000

/-- A count: gate, man, number, error. -/
structure Cnt where
  gate : Int
  man : Int
  num : Int
  err : Int

def Cnt.cells (c : Cnt) : List Value := [vint c.gate, vint c.man, vint c.num, vint c.err]
def Cnt.val (c : Cnt) : Value := .agg ⟨c.cells⟩

/-- Which error a count has. -/
def cntErr (c : Cnt) (gates : Int) : Int :=
  if ¬ (0 ≤ c.gate ∧ c.gate ≤ gates - 1) then 3 else if ¬ (1 ≤ c.man ∧ c.man ≤ 9) ∨ ¬ (0 ≤ c.num ∧ c.num ≤ 300) ∨ ¬ (0 ≤ c.err ∧ c.err ≤ 20) then 1 else 0

def rdLo (c : Cnt) : Int := (100 * c.num + 99 + c.err) / (100 + c.err)
def rdHi (c : Cnt) : Int := (100 * c.num) / (100 - c.err)

section
variable {main : Bool} {J : JT} {h : List AObj} {K : Value → List AObj → Prop}

theorem good77 (hJ : Closed prog main J) {c : Cnt} {gates : Int} (hg : -1000000 ≤ gates ∧ gates ≤ 1000000) (hK : K (vint (cntErr c gates)) h) : Good prog J 77 [c.val, vint gates] h K := by
  refine g77 hJ fun ok => ?_
  rw [e77]
  unfold Cnt.val Cnt.cells
  refine box_agg rfl ?_
  have hb : ∀ g, (h ++ [AObj.cells [vint c.gate, vint c.man, vint c.num, vint c.err] true 0] ++ g)[h.length]? = some (.cells [vint c.gate, vint c.man, vint c.num, vint c.err] true 0) := by simp
  have hb := hb []
  rw [List.append_nil] at hb
  simp only [off_okp, Nat.zero_add]
  rw [load_cell hb (v := vint c.gate) rfl rfl, b_sub (by omega)]
  refine good67 hJ ?_
  simp only [u_not, cnd_ndec]
  have fin : ∀ e : Int, cntErr c gates = e → retL h.length K [] [vint e] (h ++ [.cells [vint c.gate, vint c.man, vint c.num, vint c.err] true 0]) := fun e he => by
    subst he
    exact retL_drop ok (Nat.le_refl _) (by simp [unk]) (by simp [pack, VOk]) hK
  refine ⟨fun h1 => fin 3 (by unfold cntErr; rw [if_pos h1]), fun h1 => ?_⟩
  rw [load_cell hb (v := vint c.man) rfl rfl]
  refine good67 hJ ?_
  simp only [u_not, cnd_ndec]
  refine ⟨fun h2 => ?_, fun h2 => ?_⟩
  · rw [s77_1]
    show cnd (.bool (!decide _)) _ _
    rw [cnd_ndec]
    exact ⟨fun _ => fin 1 (by unfold cntErr; rw [if_neg (by simpa using h1), if_pos (.inl h2)]), fun x => absurd x h2⟩
  · rw [load_cell hb (v := vint c.num) rfl rfl]
    refine good67 hJ ?_
    simp only [u_not, cnd_ndec]
    refine ⟨fun h3 => ?_, fun h3 => ?_⟩
    · rw [s77_1]
      show cnd (.bool (!decide (0 ≤ c.num ∧ c.num ≤ 300))) _ _
      rw [cnd_ndec]
      exact ⟨fun _ => fin 1 (by unfold cntErr; rw [if_neg (by simpa using h1), if_pos (.inr (.inl h3))]), fun x => absurd x h3⟩
    · rw [load_cell hb (v := vint c.err) rfl rfl]
      refine good67 hJ ?_
      simp only [u_not]
      rw [s77_1]
      show cnd (.bool (!decide (0 ≤ c.err ∧ c.err ≤ 20))) _ _
      rw [cnd_ndec]
      refine ⟨fun h4 => fin 1 (by unfold cntErr; rw [if_neg (by simpa using h1), if_pos (.inr (.inr h4))]), fun h4 => fin 0 ?_⟩
      unfold cntErr
      rw [if_neg (by simpa using h1), if_neg]
      rintro (x | x | x)
      · exact x h2
      · exact x h3
      · exact x h4

theorem tk98 : tk prog 98 = some (true, 2) := by kernel_rfl
theorem tk38 : tk prog 38 = some (true, 2) := by kernel_rfl

theorem good78 (hJ : Closed prog main J) {c : Cnt} (h1 : 0 ≤ c.num ∧ c.num ≤ 300) (h2 : 0 ≤ c.err ∧ c.err ≤ 20) (hK : K (.agg ⟨[vint (rdLo c), vint (rdHi c)]⟩) h) : Good prog J 78 [c.val] h K := by
  refine g78 hJ fun ok => ?_
  rw [e78]
  unfold Cnt.val Cnt.cells
  refine box_agg rfl ?_
  simp only [aAlloc, off_okp, Nat.zero_add]
  have hb : (h ++ [AObj.cells [vint c.gate, vint c.man, vint c.num, vint c.err] true 0] ++ [AObj.cells [vint 0, vint 0] true 0])[h.length]? = some (.cells [vint c.gate, vint c.man, vint c.num, vint c.err] true 0) := by simp
  rw [load_cell hb (v := vint c.num) rfl rfl, b_mul (by omega), b_add (by omega), load_cell hb (v := vint c.err) rfl rfl, b_add (by omega), load_cell hb (v := vint c.err) rfl rfl, b_add (by omega)]
  refine b_quo (by omega) (by omega) (by omega) ?_
  rw [load_cell hb (v := vint c.num) rfl rfl, b_mul (by omega), load_cell hb (v := vint c.err) rfl rfl, b_sub (by omega)]
  refine b_quo (by omega) (by omega) (by omega) ?_
  refine fill1 rfl rfl (by decide) (fill1 rfl rfl (by simp) ?_)
  simp only [fill0, List.set_cons_zero, List.set_cons_succ]
  refine store_agg (cs := [vint 0, vint 0]) (sz := 0) (by simp) rfl rfl rfl ?_
  rw [List.append_assoc, List.set_append_right _ _ (by simp)]
  have e : (h ++ [AObj.cells [vint c.gate, vint c.man, vint c.num, vint c.err] true 0]).length - h.length = 1 := by simp
  rw [e]
  refine retQ_drop rfl ok (Nat.le_refl _) ?_
  refine resW_cell tk98 ?_
  show aLoad true 2 (ptr (h ++ [AObj.cells [vint c.gate, vint c.man, vint c.num, vint c.err] true 0]).length 0) _ _
  refine load_part (cs := [vint (rdLo c), vint (rdHi c)]) (wr := true) (sz := 0) ?_ (by simp) rfl rfl ?_
  · simp [rdLo, rdHi]
  · exact resW_nil ⟨by simp [pack, VOk, AOk, LOk], hK⟩

theorem good40 (hJ : Closed prog main J) {c : Cnt} (k0 : cntErr c 5 ≠ 0 → K (.tuple ⟨[.agg ⟨[vint 0, vint 0]⟩, vint (cntErr c 5)]⟩) h) (k1 : cntErr c 5 = 0 → K (.tuple ⟨[.agg ⟨[vint (rdLo c), vint (rdHi c)]⟩, vint 0]⟩) h) : Good prog J 40 [c.val] h K := by
  refine g40 hJ fun ok => ?_
  rw [e40]
  have hval : c.val = .agg ⟨c.cells⟩ := rfl
  rw [hval]
  refine box_agg rfl ?_
  simp only [aAlloc]
  have hb : ∀ o : AObj, (h ++ [AObj.cells c.cells true 0] ++ [o])[h.length]? = some (.cells c.cells true 0) := by simp
  have hlen : (h ++ [AObj.cells c.cells true 0]).length = h.length + 1 := by simp
  refine load_part (hb _) (by simp [Cnt.cells]) rfl rfl ?_
  refine good77 hJ (c := c) (by omega) ?_
  simp only [b_neq, cnd_dec]
  refine ⟨fun hne => ?_, fun heq => ?_⟩
  · simp only [fill0]
    refine store_agg (cs := [vint 0, vint 0]) (sz := 0) (by simp) rfl rfl rfl ?_
    rw [List.append_assoc, List.set_append_right _ _ (by simp)]
    refine retQ_drop rfl ok (Nat.le_refl _) ?_
    refine resW_cell tk38 ?_
    show aLoad true 2 (ptr (h ++ [AObj.cells c.cells true 0]).length 0) _ _
    refine load_part (cs := [vint 0, vint 0]) (wr := true) (sz := 0) (by simp) (by simp) rfl rfl ?_
    refine resW_tmp (by show vint (cntErr c 5) ≠ unk; simp [unk]) (resW_nil ⟨by show VOk _ (.tuple ⟨[_, vint (cntErr c 5)]⟩); simp [VOk, AOk, LOk], k0 (by omega)⟩)
  · have hz : cntErr c 5 = 0 := by omega
    have hok : (0 ≤ c.num ∧ c.num ≤ 300) ∧ (0 ≤ c.err ∧ c.err ≤ 20) := by
      unfold cntErr at hz
      split at hz
      · omega
      · split at hz
        · omega
        · rename_i h1 h2
          omega
    refine load_part (hb _) (by simp [Cnt.cells]) rfl rfl ?_
    refine good78 hJ (c := c) hok.1 hok.2 ?_
    refine store_agg (cs := [vint 0, vint 0]) (sz := 0) (by simp) rfl rfl rfl ?_
    rw [List.append_assoc, List.set_append_right _ _ (by simp)]
    refine retQ_drop rfl ok (Nat.le_refl _) ?_
    refine resW_cell tk38 ?_
    show aLoad true 2 (ptr (h ++ [AObj.cells c.cells true 0]).length 0) _ _
    refine load_part (cs := [vint (rdLo c), vint (rdHi c)]) (wr := true) (sz := 0) (by simp) (by simp) rfl rfl ?_
    refine resW_tmp (by show vint 0 ≠ unk; simp [unk]) (resW_nil ⟨by show VOk _ (.tuple ⟨[_, vint 0]⟩); simp [VOk, AOk, LOk], k1 hz⟩)
end
end Go.Proofs.Ytdgpacdknpahnaa

/- Ranges, counts, tallies as values. No conditions. -/
namespace Go.Proofs.Ytdgpacdknpahnaa
open Go.Conc Go.Proofs.Try

structure Rng where
  lo : Int
  hi : Int
def Rng.cells (r : Rng) : List Value := [vint r.lo, vint r.hi]
def Rng.val (r : Rng) : Value := .agg ⟨r.cells⟩

structure Tal where
  gates : Int
  first : Rng
  changes : List Rng
  most : Int
  counts : List Cnt

/-- A slice of structs: their cells one behind the other. -/
def SliE {α : Type} (h : List AObj) (v : Value) (s : Nat) (enc : α → List Value) (xs : List α) : Prop := Sli h v s xs.length (xs.flatMap enc)

/-- The cells of tallies whose lists are the slices cv and nv. -/
def talCells (t : Tal) (cv nv : Value) : List Value := [vint t.gates, vint t.first.lo, vint t.first.hi, cv, vint t.most, nv]

/-- The value v is the tallies t. -/
structure TalAt (h : List AObj) (v : Value) (t : Tal) (cv nv : Value) : Prop where
  val : v = .agg ⟨talCells t cv nv⟩
  ch : SliE h cv 2 Rng.cells t.changes
  co : SliE h nv 4 Cnt.cells t.counts

theorem flat_take {α : Type} {enc : α → List Value} {s : Nat} (hen : ∀ x, (enc x).length = s) : ∀ (xs : List α) (i : Nat) (hi : i < xs.length), ((xs.flatMap enc).drop (i * s)).take s = enc xs[i]
  | [], i, hi => by simp at hi
  | x :: xs, 0, hi => by
    simp only [List.flatMap_cons, Nat.zero_mul, List.drop_zero, List.getElem_cons_zero]
    rw [List.take_append_of_le_length (by rw [hen]; exact Nat.le_refl _), List.take_of_length_le (by rw [hen]; exact Nat.le_refl _)]
  | x :: xs, i + 1, hi => by
    simp only [List.flatMap_cons, List.getElem_cons_succ]
    have : (i + 1) * s = (enc x).length + i * s := by rw [hen, Nat.succ_mul, Nat.add_comm]
    rw [this, ← List.drop_drop, List.drop_left]
    exact flat_take hen xs i (by simpa using hi)

section
variable {h g : List AObj} {K : Value → Prop}

theorem sliE_app {α : Type} {v : Value} {s : Nat} {enc : α → List Value} {xs : List α} (hs : SliE h v s enc xs) : SliE (h ++ g) v s enc xs := sli_app hs
theorem talAt_app {v cv nv : Value} {t : Tal} (ht : TalAt h v t cv nv) : TalAt (h ++ g) v t cv nv := ⟨ht.val, sliE_app ht.ch, sliE_app ht.co⟩
theorem sliE_len {α : Type} {v : Value} {s : Nat} {enc : α → List Value} {xs : List α} (hs : SliE h v s enc xs) : aLenS v K = K (vint xs.length) := sli_len hs

/-- An element of a slice of structs: where it lies. -/
theorem sliE_elem {α : Type} {v : Value} {s : Nat} {enc : α → List Value} {xs : List α} (hen : ∀ x, (enc x).length = s) (hpos : 0 < s) (hs : SliE h v s enc xs) {i : Nat} (hi : i < xs.length) :
    ∃ b o cs wr sz, (∀ K : Value → Prop, K (ptr b o) → aIdx s v (vint i) K) ∧ h[b]? = some (.cells cs wr sz) ∧ o + s ≤ cs.length ∧ (cs.drop o).take s = enc xs[i] ∧ kn (enc xs[i]) = true := by
  obtain ⟨base, c, rfl, ⟨hl, hkn⟩, hc⟩ := hs
  have hft := flat_take hen xs i hi
  have hmul : (i + 1) * s ≤ xs.length * s := Nat.mul_le_mul_right s (by omega)
  have hsucc : (i + 1) * s = i * s + s := Nat.succ_mul i s
  rcases hc with ⟨_, h0⟩ | ⟨b, o, rfl, h0 | ⟨cs, wr, sz, hb, hx⟩⟩
  · omega
  · omega
  · rw [← hx] at hl hft
    simp only [List.length_take, List.length_drop] at hl
    refine ⟨b, o + i * s, cs, wr, sz, fun K hK => ?_, hb, by omega, ?_, ?_⟩
    · rw [idx_ok]
      exact ⟨⟨by omega, by omega⟩, by simpa using hK⟩
    · rw [← hft, List.drop_take, List.drop_drop, List.take_take]
      congr 1
      omega
    · have : kn ((xs.flatMap enc).drop (i * s)) = true := by
        unfold kn at hkn ⊢
        rw [List.all_eq_true] at hkn ⊢
        exact fun y hy => hkn y (List.mem_of_mem_drop hy)
      rw [← flat_take hen xs i hi]
      unfold kn at this ⊢
      rw [List.all_eq_true] at this ⊢
      exact fun y hy => this y (List.mem_of_mem_take hy)

/-- A field of a struct that lies in a row of cells. -/
theorem part_get {cs e : List Value} {o s j : Nat} {x : Value} (ht : (cs.drop o).take s = e) (hx : e[j]? = some x) : cs[o + j]? = some x := by
  rw [← ht, List.getElem?_take] at hx
  split at hx
  · rw [List.getElem?_drop] at hx
    exact hx
  · cases hx
end

/-! ### which error -/
def rngErr (lo hi : Int) (r : Rng) : Int := if ¬ (lo ≤ r.lo ∧ r.lo ≤ hi) ∨ ¬ (lo ≤ r.hi ∧ r.hi ≤ hi) then 1 else if r.lo > r.hi then 5 else 0
def firstE : List Int → Int
  | [] => 0
  | e :: l => if e ≠ 0 then e else firstE l
def talErr (t : Tal) : Int :=
  if ¬ (1 ≤ t.gates ∧ t.gates ≤ 5) then 1 else if rngErr 0 300 t.first ≠ 0 then rngErr 0 300 t.first else
  if (t.changes.length : Int) < t.gates - 1 then 7 else if (t.changes.length : Int) > t.gates - 1 then 6 else
  if firstE (t.changes.map (rngErr (-60) 60)) ≠ 0 then firstE (t.changes.map (rngErr (-60) 60)) else
  if ¬ (0 ≤ t.most ∧ t.most ≤ 60) then 1 else if t.counts.length > 7 then 6 else firstE (t.counts.map fun c => cntErr c t.gates)

theorem firstE_cons (l l2 : List Int) (e : Int) (h : firstE l = 0) : firstE (l ++ e :: l2) = if e ≠ 0 then e else firstE l2 := by
  induction l with
  | nil => rfl
  | cons a l ih =>
    unfold firstE at h
    split at h
    · omega
    · rename_i ha
      simp only [List.cons_append]
      conv => lhs; unfold firstE
      rw [if_neg ha]
      exact ih h

/-- Going through a list for its first error. -/
theorem firstE_step {α : Type} {f : α → Int} {xs : List α} {i : Nat} (hi : i < xs.length) (h : firstE ((xs.take i).map f) = 0) :
    (f xs[i] ≠ 0 → firstE (xs.map f) = f xs[i]) ∧ (f xs[i] = 0 → firstE ((xs.take (i + 1)).map f) = 0) := by
  have e1 : xs = xs.take i ++ xs[i] :: xs.drop (i + 1) := by simp
  refine ⟨fun hne => ?_, fun h0 => ?_⟩
  · have : xs.map f = (xs.take i).map f ++ f xs[i] :: (xs.drop (i + 1)).map f := by
      rw [← List.map_cons, ← List.map_append, ← e1]
    rw [this, firstE_cons _ _ _ h, if_pos hne]
  · have : xs.take (i + 1) = xs.take i ++ [xs[i]] := by rw [List.take_add_one]; simp [hi]
    rw [this, List.map_append]
    show firstE (_ ++ f xs[i] :: []) = 0
    rw [firstE_cons _ _ _ h, if_neg (by simpa using h0)]
    rfl

section
variable {main : Bool} {J : JT} {h : List AObj} {K : Value → List AObj → Prop}
end
end Go.Proofs.Ytdgpacdknpahnaa

/- Contracts: ordered, Check, and the reference's checks. No conditions. -/
namespace Go.Proofs.Ytdgpacdknpahnaa
open Go.Conc Go.Proofs.Try
set_option maxRecDepth 100000

section
variable {main : Bool} {J : JT} {h : List AObj} {K : Value → List AObj → Prop}

theorem good86 (hJ : Closed prog main J) {r : Rng} {lo hi : Int} (hK : K (vint (rngErr lo hi r)) h) : Good prog J 86 [r.val, vint lo, vint hi] h K := by
  refine g86 hJ fun ok => ?_
  rw [e86]
  unfold Rng.val Rng.cells
  refine box_agg rfl ?_
  have hb : (h ++ [AObj.cells [vint r.lo, vint r.hi] true 0])[h.length]? = some (.cells [vint r.lo, vint r.hi] true 0) := by simp
  have l0 : ∀ {K : Value → Prop}, aLoad false 1 (ptr h.length 0) (h ++ [AObj.cells [vint r.lo, vint r.hi] true 0]) K = K (vint r.lo) := load_cell hb rfl rfl
  have l1 : ∀ {K : Value → Prop}, aLoad false 1 (ptr h.length 1) (h ++ [AObj.cells [vint r.lo, vint r.hi] true 0]) K = K (vint r.hi) := load_cell hb rfl rfl
  have fin : ∀ e : Int, rngErr lo hi r = e → retL h.length K [] [vint e] (h ++ [.cells [vint r.lo, vint r.hi] true 0]) := fun e he => by
    subst he
    exact retL_drop ok (Nat.le_refl _) (by simp [unk]) (by simp [pack, VOk]) hK
  simp only [off_okp, Nat.zero_add, l0, l1]
  refine good67 hJ ?_
  simp only [u_not, cnd_ndec]
  refine ⟨fun h1 => ?_, fun h1 => ?_⟩
  · rw [s86_1]
    show cnd (.bool (!decide (lo ≤ r.lo ∧ r.lo ≤ hi))) _ _
    rw [cnd_ndec]
    exact ⟨fun _ => fin 1 (by unfold rngErr; rw [if_pos (.inl h1)]), fun x => absurd x h1⟩
  · rw [l1]
    refine good67 hJ ?_
    simp only [u_not]
    rw [s86_1]
    show cnd (.bool (!decide (lo ≤ r.hi ∧ r.hi ≤ hi))) _ _
    rw [cnd_ndec]
    refine ⟨fun h2 => fin 1 (by unfold rngErr; rw [if_pos (.inr h2)]), fun h2 => ?_⟩
    have hn : ¬ (¬ (lo ≤ r.lo ∧ r.lo ≤ hi) ∨ ¬ (lo ≤ r.hi ∧ r.hi ≤ hi)) := by
      rintro (x | x)
      · exact x h1
      · exact x h2
    show aOff (ptr h.length 0) 0 _
    simp only [off_okp, Nat.zero_add, l0]
    show aOff (ptr h.length 0) 1 _
    simp only [off_okp, Nat.zero_add, l1, b_gtr, cnd_dec]
    exact ⟨fun h3 => fin 5 (by unfold rngErr; rw [if_neg hn, if_pos h3]), fun h3 => fin 0 (by unfold rngErr; rw [if_neg hn, if_neg h3])⟩

theorem good87 (hJ : Closed prog main J) {r : Rng} {lo hi : Int} (hK : K (vint (rngErr lo hi r)) h) : Good prog J 87 [r.val, vint lo, vint hi] h K := by
  refine g87 hJ fun ok => ?_
  rw [e87]
  unfold Rng.val Rng.cells
  refine box_agg rfl ?_
  have hb : (h ++ [AObj.cells [vint r.lo, vint r.hi] true 0])[h.length]? = some (.cells [vint r.lo, vint r.hi] true 0) := by simp
  have l0 : ∀ {K : Value → Prop}, aLoad false 1 (ptr h.length 0) (h ++ [AObj.cells [vint r.lo, vint r.hi] true 0]) K = K (vint r.lo) := load_cell hb rfl rfl
  have l1 : ∀ {K : Value → Prop}, aLoad false 1 (ptr h.length 1) (h ++ [AObj.cells [vint r.lo, vint r.hi] true 0]) K = K (vint r.hi) := load_cell hb rfl rfl
  have fin : ∀ e : Int, rngErr lo hi r = e → retL h.length K [] [vint e] (h ++ [.cells [vint r.lo, vint r.hi] true 0]) := fun e he => by
    subst he
    exact retL_drop ok (Nat.le_refl _) (by simp [unk]) (by simp [pack, VOk]) hK
  simp only [off_okp, Nat.zero_add, l0, l1]
  refine good68 hJ ?_
  simp only [u_not, cnd_ndec]
  refine ⟨fun h1 => ?_, fun h1 => ?_⟩
  · rw [s87_1]
    show cnd (.bool true) _ _
    rw [cnd_true]
    exact fin 1 (by unfold rngErr; rw [if_pos (.inl h1)])
  · rw [l1]
    refine good68 hJ ?_
    simp only [u_not]
    rw [s87_1]
    show cnd (.bool (!decide (lo ≤ r.hi ∧ r.hi ≤ hi))) _ _
    rw [cnd_ndec]
    refine ⟨fun h2 => fin 1 (by unfold rngErr; rw [if_pos (.inr h2)]), fun h2 => ?_⟩
    have hn : ¬ (¬ (lo ≤ r.lo ∧ r.lo ≤ hi) ∨ ¬ (lo ≤ r.hi ∧ r.hi ≤ hi)) := by
      rintro (x | x)
      · exact x h1
      · exact x h2
    show aOff (ptr h.length 0) 0 _
    simp only [off_okp, Nat.zero_add, l0]
    show aOff (ptr h.length 0) 1 _
    simp only [off_okp, Nat.zero_add, l1, b_gtr, cnd_dec]
    exact ⟨fun h3 => fin 5 (by unfold rngErr; rw [if_neg hn, if_pos h3]), fun h3 => fin 0 (by unfold rngErr; rw [if_neg hn, if_neg h3])⟩

theorem good84 (hJ : Closed prog main J) {c : Cnt} {gates : Int} (hg : -1000000 ≤ gates ∧ gates ≤ 1000000) (hK : K (vint (cntErr c gates)) h) : Good prog J 84 [c.val, vint gates] h K := by
  refine g84 hJ fun ok => ?_
  rw [e84]
  unfold Cnt.val
  refine box_agg rfl ?_
  have hb : (h ++ [AObj.cells c.cells true 0])[h.length]? = some (.cells c.cells true 0) := by simp
  have l0 : ∀ {K : Value → Prop}, aLoad false 1 (ptr h.length 0) (h ++ [AObj.cells c.cells true 0]) K = K (vint c.gate) := load_cell hb rfl rfl
  have l1 : ∀ {K : Value → Prop}, aLoad false 1 (ptr h.length 1) (h ++ [AObj.cells c.cells true 0]) K = K (vint c.man) := load_cell hb rfl rfl
  have l2 : ∀ {K : Value → Prop}, aLoad false 1 (ptr h.length 2) (h ++ [AObj.cells c.cells true 0]) K = K (vint c.num) := load_cell hb rfl rfl
  have l3 : ∀ {K : Value → Prop}, aLoad false 1 (ptr h.length 3) (h ++ [AObj.cells c.cells true 0]) K = K (vint c.err) := load_cell hb rfl rfl
  have fin : ∀ e : Int, cntErr c gates = e → retL h.length K [] [vint e] (h ++ [.cells c.cells true 0]) := fun e he => by
    subst he
    exact retL_drop ok (Nat.le_refl _) (by simp [unk]) (by simp [pack, VOk]) hK
  simp only [off_okp, Nat.zero_add, l0, l1, l2, l3]
  rw [b_sub (by omega)]
  refine good68 hJ ?_
  simp only [u_not, cnd_ndec]
  refine ⟨fun h1 => fin 3 (by unfold cntErr; rw [if_pos h1]), fun h1 => ?_⟩
  have one : (¬ (1 ≤ c.man ∧ c.man ≤ 9) ∨ ¬ (0 ≤ c.num ∧ c.num ≤ 300) ∨ ¬ (0 ≤ c.err ∧ c.err ≤ 20)) → retL h.length K [] [vint 1] (h ++ [.cells c.cells true 0]) := fun x => fin 1 (by unfold cntErr; rw [if_neg (by simpa using h1), if_pos x])
  rw [l1]
  refine good68 hJ ?_
  simp only [u_not, cnd_ndec]
  refine ⟨fun h2 => ?_, fun h2 => ?_⟩
  · rw [cnd_true, s84_1]
    show cnd (.bool true) _ _
    rw [cnd_true]
    exact one (.inl h2)
  · rw [l2]
    refine good68 hJ ?_
    simp only [u_not, cnd_ndec]
    refine ⟨fun h3 => ?_, fun h3 => ?_⟩
    · rw [s84_1]
      show cnd (.bool true) _ _
      rw [cnd_true]
      exact one (.inr (.inl h3))
    · rw [l3]
      refine good68 hJ ?_
      simp only [u_not]
      rw [s84_1]
      show cnd (.bool (!decide (0 ≤ c.err ∧ c.err ≤ 20))) _ _
      rw [cnd_ndec]
      refine ⟨fun h4 => one (.inr (.inr h4)), fun h4 => fin 0 ?_⟩
      unfold cntErr
      rw [if_neg (by simpa using h1), if_neg]
      rintro (x | x | x)
      · exact x h2
      · exact x h3
      · exact x h4

/-- What is at the beginning of both checks, once the tallies lie in a block of their own. -/
theorem tal_loads {v cv nv : Value} {t : Tal} (ht : TalAt h v t cv nv) (g : List AObj) :
    (∀ {K : Value → Prop}, aLoad false 1 (ptr h.length 0) (h ++ [AObj.cells (talCells t cv nv) true 0] ++ g) K = K (vint t.gates)) ∧
    (∀ {K : Value → Prop}, K t.first.val → aLoad true 2 (ptr h.length 1) (h ++ [AObj.cells (talCells t cv nv) true 0] ++ g) K) ∧
    (∀ {K : Value → Prop}, aLoad false 1 (ptr h.length 3) (h ++ [AObj.cells (talCells t cv nv) true 0] ++ g) K = K cv) ∧
    (∀ {K : Value → Prop}, aLoad false 1 (ptr h.length 4) (h ++ [AObj.cells (talCells t cv nv) true 0] ++ g) K = K (vint t.most)) ∧
    (∀ {K : Value → Prop}, aLoad false 1 (ptr h.length 5) (h ++ [AObj.cells (talCells t cv nv) true 0] ++ g) K = K nv) := by
  have hb : (h ++ [AObj.cells (talCells t cv nv) true 0] ++ g)[h.length]? = some (.cells (talCells t cv nv) true 0) := by simp
  have c1 : kn1 cv = true := by
    obtain ⟨_, _, rfl, _⟩ := ht.ch
    rfl
  have c2 : kn1 nv = true := by
    obtain ⟨_, _, rfl, _⟩ := ht.co
    rfl
  exact ⟨load_cell hb rfl rfl, fun hk => load_part hb (by simp [talCells]) rfl rfl hk, load_cell hb rfl c1, load_cell hb rfl rfl, load_cell hb rfl c2⟩

theorem tal_one {v cv nv : Value} {t : Tal} (ht : TalAt h v t cv nv) : (talCells t cv nv).all one = true := by
  obtain ⟨_, _, rfl, _⟩ := ht.ch
  obtain ⟨_, _, rfl, _⟩ := ht.co
  rfl

theorem rng_len (r : Rng) : r.cells.length = 2 := rfl
theorem cnt_len (c : Cnt) : c.cells.length = 4 := rfl

theorem good51 (hJ : Closed prog main J) {v cv nv : Value} {t : Tal} (ht : TalAt h v t cv nv) (hK : K (vint (talErr t)) h) : Good prog J 51 [v] h K := by
  refine g51 hJ fun ok => ?_
  rw [e51, ht.val]
  refine box_agg (tal_one ht) ?_
  have fin : ∀ (e : Int) (g : List AObj), talErr t = e → retL h.length K [] [vint e] (h ++ [.cells (talCells t cv nv) true 0] ++ g) := fun e g he => by
    subst he
    rw [List.append_assoc]
    exact retL_drop ok (Nat.le_refl _) (by simp [unk]) (by simp [pack, VOk]) hK
  have fin0 : ∀ (e : Int), talErr t = e → retL h.length K [] [vint e] (h ++ [.cells (talCells t cv nv) true 0]) := fun e he => by
    have := fin e [] he
    rwa [List.append_nil] at this
  obtain ⟨l0, l1, l3, l4, l5⟩ := tal_loads ht []
  rw [List.append_nil] at l0 l1 l3 l4 l5
  have S3 := sliE_app (g := [.cells (talCells t cv nv) true 0]) ht.ch
  simp only [off_okp, Nat.zero_add, l0]
  refine good67 hJ ?_
  simp only [u_not, cnd_ndec]
  refine ⟨fun h1 => fin0 1 (by unfold talErr; rw [if_pos h1]), fun h1 => l1 ?_⟩
  refine good86 hJ ?_
  simp only [b_neq, cnd_dec]
  refine ⟨fun h2 => fin0 _ (by unfold talErr; rw [if_neg (by simpa using h1), if_pos h2]), fun h2 => ?_⟩
  have h2' : rngErr 0 300 t.first = 0 := by omega
  simp only [l3, l0, sliE_len S3]
  rw [b_sub (by omega)]
  simp only [b_lss, cnd_dec]
  refine ⟨fun h3 => fin0 7 (by unfold talErr; rw [if_neg (by simpa using h1), if_neg (by omega), if_pos h3]), fun h3 => ?_⟩
  rw [b_sub (by omega)]
  simp only [b_gtr, cnd_dec]
  refine ⟨fun h4 => fin0 6 (by unfold talErr; rw [if_neg (by simpa using h1), if_neg (by omega), if_neg h3, if_pos h4]), fun h4 => ?_⟩
  refine l51_1 hJ (fun i : Nat => t.changes.length - i) (fun i f h' => (∃ g, h' = h ++ [.cells (talCells t cv nv) true 0] ++ g) ∧ f.ds = [] ∧ f.r 1 = ptr h.length 0 ∧ f.r 37 = cv ∧ f.r 38 = vint t.changes.length ∧ f.r 39 = vint (i : Nat) ∧ i ≤ t.changes.length ∧ firstE ((t.changes.take i).map (rngErr (-60) 60)) = 0) ?_ (s := 0)
    (.inl ⟨⟨[], by simp⟩, rfl, rfl, rfl, rfl, rfl, by omega, rfl⟩)
  rintro i f _ ⟨⟨g, rfl⟩, hds, r1, r37, r38, r39, hi, hz⟩ ok' hn
  obtain ⟨l0, l1, l3, l4, l5⟩ := tal_loads ht g
  rw [s51_1]
  simp only [r1, r37, r38, r39, hds, b_lss, cnd_dec]
  refine ⟨fun hlt => ?_, fun hge => ?_⟩
  · have hil : i < t.changes.length := by omega
    have S3' := sliE_app (g := g) S3
    obtain ⟨b, o, cs, wr, sz, hidx, hb, hle, hpart, hkn⟩ := sliE_elem rng_len (by omega) S3' hil
    obtain ⟨s1, s2⟩ := firstE_step (f := rngErr (-60) 60) hil hz
    refine hidx _ (load_part hb hle hpart hkn ?_)
    simp only [aAlloc]
    refine store_agg (cs := [vint 0, vint 0]) (sz := 0) (by simp) rfl rfl rfl ?_
    rw [show ∀ (l : List AObj) (x y : AObj), (l ++ [x]).set l.length y = l ++ [y] from fun l x y => by simp]
    refine load_part (cs := t.changes[i].cells) (wr := true) (sz := 0) (by simp) (by simp [Rng.cells]) rfl rfl ?_
    refine good86 hJ (r := t.changes[i]) ?_
    simp only [b_neq, cnd_dec]
    rw [List.append_assoc (h ++ [AObj.cells (talCells t cv nv) true 0])]
    refine ⟨fun hne => fin _ _ ?_, fun h0 => ?_⟩
    · unfold talErr
      rw [if_neg (by simpa using h1), if_neg (by omega), if_neg h3, if_neg h4, if_pos (by rw [s1 hne]; exact hne), s1 hne]
    · rw [b_add (by omega)]
      exact ⟨i + 1, by dsimp only; omega, .inl ⟨⟨_, rfl⟩, hds, r1, r37, r38, rfl, by omega, s2 (by omega)⟩⟩
  · have hil : i = t.changes.length := by omega
    subst hil
    rw [List.take_length] at hz
    simp only [off_okp, Nat.zero_add, l4, l5]
    refine good67 hJ ?_
    simp only [u_not, cnd_ndec]
    have pre : ∀ e : Int, (if ¬ (0 ≤ t.most ∧ t.most ≤ 60) then (1 : Int) else if t.counts.length > 7 then 6 else firstE (t.counts.map fun c => cntErr c t.gates)) = e → talErr t = e := fun e he => by
      unfold talErr
      rw [if_neg (by simpa using h1), if_neg (by omega), if_neg h3, if_neg h4, if_neg (by omega)]
      exact he
    refine ⟨fun h5 => fin 1 _ (pre _ (by rw [if_pos h5])), fun h5 => ?_⟩
    have S5 := sliE_app (g := g) (sliE_app (g := [.cells (talCells t cv nv) true 0]) ht.co)
    simp only [l5, sliE_len S5, b_gtr, cnd_dec]
    refine ⟨fun h6 => fin 6 _ (pre _ (by rw [if_neg (by simpa using h5), if_pos (by omega)])), fun h6 => ?_⟩
    refine l51_2 hJ (fun i : Nat => t.counts.length - i) (fun i f h' => (∃ g, h' = h ++ [.cells (talCells t cv nv) true 0] ++ g) ∧ f.ds = [] ∧ f.r 1 = ptr h.length 0 ∧ f.r 58 = nv ∧ f.r 59 = vint t.counts.length ∧ f.r 60 = vint (i : Nat) ∧ i ≤ t.counts.length ∧ firstE ((t.counts.take i).map fun c => cntErr c t.gates) = 0) ?_ (s := 0)
      (.inl ⟨⟨g, rfl⟩, hds, r1, rfl, rfl, rfl, by omega, rfl⟩)
    rintro i f _ ⟨⟨g, rfl⟩, hds, r1, r58, r59, r60, hi, hz2⟩ ok' hn
    rw [s51_2]
    simp only [r1, r58, r59, r60, hds, b_lss, cnd_dec]
    refine ⟨fun hlt => ?_, fun hge => ?_⟩
    · have hil : i < t.counts.length := by omega
      have S5' := sliE_app (g := g) (sliE_app (g := [.cells (talCells t cv nv) true 0]) ht.co)
      obtain ⟨b, o, cs, wr, sz, hidx, hb, hle, hpart, hkn⟩ := sliE_elem cnt_len (by omega) S5' hil
      obtain ⟨s1, s2⟩ := firstE_step (f := fun c => cntErr c t.gates) hil hz2
      refine hidx _ (load_part hb hle hpart hkn ?_)
      simp only [aAlloc]
      refine store_agg (cs := [vint 0, vint 0, vint 0, vint 0]) (sz := 0) (by simp) rfl rfl rfl ?_
      rw [show ∀ (l : List AObj) (x y : AObj), (l ++ [x]).set l.length y = l ++ [y] from fun l x y => by simp]
      refine load_part (cs := t.counts[i].cells) (wr := true) (sz := 0) (by simp) (by simp [Cnt.cells]) rfl rfl ?_
      rw [List.append_assoc (h ++ [AObj.cells (talCells t cv nv) true 0])]
      obtain ⟨l0, _, _, _, _⟩ := tal_loads ht (g ++ [.cells t.counts[i].cells true 0])
      simp only [off_okp, Nat.zero_add, l0]
      refine good77 hJ (c := t.counts[i]) (by omega) ?_
      simp only [b_neq, cnd_dec]
      refine ⟨fun hne => fin _ _ (pre _ ?_), fun h0 => ?_⟩
      · rw [if_neg (by simpa using h5), if_neg (by omega), s1 hne]
      · rw [b_add (by omega)]
        exact ⟨i + 1, by dsimp only; omega, .inl ⟨⟨_, rfl⟩, hds, r1, r58, r59, rfl, by omega, s2 (by omega)⟩⟩
    · have hil : i = t.counts.length := by omega
      subst hil
      rw [List.take_length] at hz2
      exact fin 0 _ (pre _ (by rw [if_neg (by simpa using h5), if_neg (by omega), hz2]))
end
end Go.Proofs.Ytdgpacdknpahnaa

/- Contract: the reference's Shares. No conditions. -/
namespace Go.Proofs.Ytdgpacdknpahnaa
open Go.Conc Go.Proofs.Try
section
variable {main : Bool} {J : JT} {h : List AObj} {K : Value → List AObj → Prop}

theorem good26 (hJ : Closed prog main J) {hv : Value} {loss : Int} {hs : List Int} (hsl : Sli h hv 1 hs.length (hs.map vint))
    (k1 : hs.length = 0 → K (.tuple ⟨[.slice none 0 0, vint 7]⟩) h) (k2 : hs.length > 5 → K (.tuple ⟨[.slice none 0 0, vint 6]⟩) h)
    (k3 : 0 < hs.length → hs.length ≤ 5 → ¬ (inR hs ∧ 0 ≤ loss ∧ loss ≤ hs.sum) → K (.tuple ⟨[.slice none 0 0, vint 1]⟩) h)
    (k4 : 0 < hs.length → hs.length ≤ 5 → inR hs → 0 ≤ loss → loss ≤ hs.sum → K (.tuple ⟨[.slice (some ⟨h.length, 0, none⟩) hs.length hs.length, vint 0]⟩) (h ++ [.cells ((outAt hs loss.toNat).map vint) true 0])) :
    Good prog J 26 [vint loss, hv] h K := by
  refine g26 hJ fun ok => ?_
  rw [e26]
  simp only [sli_len hsl, b_eql, b_gtr, cnd_dec]
  refine ⟨fun h1 => retL_same (by simp [unk]) (k1 (by omega)), fun h1 => ⟨fun h2 => retL_same (by simp [unk]) (k2 (by omega)), fun h2 => ?_⟩⟩
  refine l26_1 hJ (fun i => hs.length - i) (fun i f h' => h' = h ∧ f.ds = [] ∧ f.r 0 = vint loss ∧ f.r 1 = hv ∧ f.r 7 = vint (i : Nat) ∧ f.r 6 = vint (hs.take i).sum ∧ i ≤ hs.length ∧ inR (hs.take i)) ?_ (s := 0) (.inl ⟨rfl, rfl, rfl, rfl, rfl, rfl, by omega, by simp [inR]⟩)
  rintro i f h ⟨rfl, hds, hr0, hr1, hr7, hr6, hle, hok⟩ _ hn
  rw [s26_1]
  simp only [hr7, hr6, hr0, hr1, hds, sli_len hsl, b_lss, cnd_dec]
  refine ⟨fun hi => ?_, fun hi => ?_⟩
  · have hil : i < hs.length := by omega
    refine idx_load hsl ⟨by omega, by omega⟩ (x := vint hs[i]) (by simp [hil]) fun p => ?_
    refine good68 hJ ?_
    simp only [u_not, cnd_ndec]
    have htk : hs.take (i + 1) = hs.take i ++ [hs[i]] := by rw [List.take_add_one]; simp [hil]
    refine ⟨fun hb => retL_same (by simp [unk]) (k3 (by omega) (by omega) fun x => hb (x.1 _ (List.getElem_mem hil))), fun hb => ?_⟩
    refine idx_load hsl ⟨by omega, by omega⟩ (x := vint hs[i]) (by simp [hil]) fun p => ?_
    have hsum := sum_le hok
    have hlen : (hs.take i).length = i := by simp; omega
    rw [b_add (by omega), b_add (by omega)]
    refine ⟨i + 1, by dsimp only; omega, .inl ⟨rfl, hds, hr0, hr1, rfl, ?_, by omega, ?_⟩⟩
    · show vint ((hs.take i).sum + hs[i]) = _
      congr 1
      rw [htk, List.sum_append]
      simp only [List.sum_cons, List.sum_nil]
      omega
    · rw [htk]
      intro x hx
      rcases List.mem_append.1 hx with hx | hx
      · exact hok x hx
      · simp at hx
        rw [hx]
        exact hb
  · have hil : i = hs.length := by omega
    subst hil
    rw [List.take_length] at hok
    simp only [List.take_length]
    have hsum := sum_le hok
    refine good68 hJ ?_
    simp only [u_not, cnd_ndec]
    refine ⟨fun hb => retL_same (by simp [unk]) (k3 (by omega) (by omega) fun x => hb x.2), fun hb => ⟨by decide, ?_⟩⟩
    refine mkS_one (by simp only [room]; omega) ?_
    refine l26_2 hJ (fun j => loss.toNat - j) (fun j f h' => h' = h ++ [.cells ((outAt hs j).map vint) true 0] ∧ f.ds = [] ∧ f.r 1 = hv ∧ f.r 8 = .slice (some ⟨h.length, 0, none⟩) hs.length hs.length ∧ f.r 0 = vint (loss - (j : Nat)) ∧ (j : Int) ≤ loss) ?_ (s := 0)
      (.inl ⟨by simp [outAt], hds, hr1, rfl, by show f.r 0 = _; rw [hr0]; simp, by omega⟩)
    rintro j f _ ⟨rfl, hds, hr1, hr8, hr0, hle⟩ ok hn
    rw [s26_2]
    simp only [hr0, hr1, hr8, hds, b_gtr, cnd_dec]
    have hsl' := sli_app (g := [.cells ((outAt hs j).map vint) true 0]) hsl
    refine ⟨fun hj => ?_, fun hj => ?_⟩
    · refine l26_3 hJ (fun i => hs.length - i) (fun i f h' => h' = h ++ [.cells ((outAt hs j).map vint) true 0] ∧ f.ds = [] ∧ f.r 1 = hv ∧ f.r 8 = .slice (some ⟨h.length, 0, none⟩) hs.length hs.length ∧ f.r 0 = vint (loss - (j : Nat)) ∧ f.r 9 = vint (whoAt hs (outAt hs j) i : Nat) ∧ f.r 10 = vint (i : Nat) ∧ i ≤ hs.length) ?_ (s := 0)
        (.inl ⟨rfl, hds, hr1, hr8, hr0, rfl, rfl, by omega⟩)
      rintro i f _ ⟨rfl, hds, hr1, hr8, hr0, hr9, hr10, hli⟩ ok hn
      rw [s26_3]
      have hnew : Sli (h ++ [.cells ((outAt hs j).map vint) true 0]) (.slice (some ⟨h.length, 0, none⟩) hs.length hs.length) 1 hs.length ((outAt hs j).map vint) :=
        sli_new (wr := true) (sz := 0) (by simp) (by simp [out_len]) (kn_ints _)
      have hw := who_lt hs (outAt hs j) (by omega) i hli
      simp only [hr0, hr1, hr8, hds, hr9, hr10, sli_len hsl', b_lss, cnd_dec]
      have hol := out_len hs j
      have ow := out_bd hs j _ (getD_mem (l := outAt hs j) (k := whoAt hs (outAt hs j) i) (by omega))
      have hw' := hok _ (getD_mem hw)
      refine ⟨fun hi => ?_, fun hi => ?_⟩
      · have oi := out_bd hs j _ (getD_mem (l := outAt hs j) (k := i) (by omega))
        have hi' := hok _ (getD_mem (l := hs) (k := i) (by omega))
        have m1 := mul_bd hi'.1 hi'.2 (b := (outAt hs j).getD (whoAt hs (outAt hs j) i) 0 + 1) (B := 1501) (by omega) (by omega)
        have m2 := mul_bd hw'.1 hw'.2 (b := (outAt hs j).getD i 0 + 1) (B := 1501) (by omega) (by omega)
        refine idx_load hsl' ⟨by omega, by omega⟩ (map_get (by simpa using hi)) fun p1 => ?_
        refine idx_load hnew ⟨by omega, by omega⟩ (map_get (by simp; omega)) fun p2 => ?_
        rw [Int.toNat_natCast, Int.toNat_natCast, b_add (by omega), b_mul (by omega)]
        refine idx_load hsl' ⟨by omega, by omega⟩ (map_get (by simp; omega)) fun p3 => ?_
        refine idx_load hnew ⟨by omega, by omega⟩ (map_get (by simp; omega)) fun p4 => ?_
        rw [Int.toNat_natCast, Int.toNat_natCast, b_add (by omega), b_mul (by omega), b_gtr, cnd_dec]
        rw [b_add (by omega), b_add (by omega)]
        refine ⟨fun hg => ⟨i + 1, by dsimp only; omega, .inl ⟨rfl, hds, hr1, hr8, hr0, ?_, rfl, by omega⟩⟩, fun hg => ⟨i + 1, by dsimp only; omega, .inl ⟨rfl, hds, hr1, hr8, hr0, ?_, rfl, by omega⟩⟩⟩
        · show vint (i : Nat) = _
          rw [whoAt, if_pos hg]
        · show f.r 9 = _
          rw [hr9, whoAt, if_neg hg]
      · have hil : i = hs.length := by omega
        subst hil
        refine idx_load hnew ⟨by omega, by omega⟩ (map_get (by simp; omega)) fun p1 => ?_
        rw [Int.toNat_natCast, b_add (by omega), idx_ok]
        refine ⟨⟨by omega, by omega⟩, ?_⟩
        refine store_cell (sz := 0) (c := (outAt hs j).map vint) (by simp) (by simp; omega) rfl rfl ?_
        rw [b_sub (by omega)]
        refine ⟨j + 1, by dsimp only; omega, .inl ⟨?_, hds, hr1, hr8, ?_, by omega⟩⟩
        · rw [outAt]
          simp
        · show vint (loss - j - 1) = _
          congr 1
          omega
    · have : loss.toNat = j := by omega
      refine retL_same (by simp [unk]) ?_
      have := k4 (by omega) (by omega) hok hb.1 hb.2
      simpa [pack, *] using this
end
end Go.Proofs.Ytdgpacdknpahnaa
