/- Parts of the proof, 3. No conditions. -/
import Derived.Test.YtdgpacdknpahnaaK2

/- Printed by program: the forms to which the bodies of some functions come down. No conditions. -/
namespace Go.Proofs.Ytdgpacdknpahnaa
open Go.Conc Go.Proofs.Try
set_option maxRecDepth 100000
set_option linter.unusedVariables false
section
variable {main : Bool} {J : JT} {n0 : Nat} {h : List AObj} {K : Value → List AObj → Prop}
theorem at103 : prog.funcs[103]? = some f103 := by kernel_rfl
theorem body103 : f103.body = some (codeOf f103) := by kernel_rfl
theorem e103 {a0 a1 : Value} : W prog J 18 h.length 103 (codeOf f103) (RG.mk (regs [a0, a1]) []) h (RetQ prog [.tmp 4] h.length K) =
(aLenS a1 fun v1 =>
Sem J 18 h.length 103 (subC [1, 0, 1, 0] (codeOf f103)) (((((RG.mk (regs [a0, a1]) []).put 4 (vint 0)).put 7 a1).put 8 v1).put 9 (vint 0)) h (contQ prog J 18 h.length 103 [1, 0, 1, 0] (codeOf f103) [] (RetQ prog [.tmp 4] h.length K))) := by kernel_rfl
theorem g103 (hJ : Closed prog main J) {a0 a1 : Value} (hs : heapOk h → W prog J 18 h.length 103 (codeOf f103) (RG.mk (regs [a0, a1]) []) h (RetQ prog [.tmp 4] h.length K)) : Good prog J 103 [a0, a1] h K :=
  good_of_W hJ mixed at103 body103 (by kernel_rfl) (Nat.le_of_ble_eq_true rfl) hs
-- loop [1, 0, 1, 0, 0]
theorem s103_1 {f : RG} {nx0 : RG → List AObj → Prop} : W prog J 18 n0 103 (subC [1, 0, 1, 0, 0] (codeOf f103)) f h (thenK nx0 (contQ prog J 18 n0 103 [1, 0, 1, 0] (codeOf f103) [] (RetQ prog [.tmp 4] n0 K))) =
(aBin prog .lss 3 (f.r 9) (f.r 8) fun v1 =>
cnd v1
(aIdx 1 (f.r 7) (f.r 9) fun v2 =>
aLoad false 1 v2 h fun v3 =>
aMin (f.r 0) [v3] fun v4 =>
aBin prog .add 3 (f.r 9) (vint 1) fun v5 =>
nx0 ((((((((((f.put 10 v1).put 11 v2).put 12 v3).put 6 v3).put 13 (f.r 0)).put 14 v3).put 15 v4).put 0 v4).put 16 v5).put 9 v5) h)
(retL n0 K f.ds [(f.r 0)] h)) := by kernel_rfl
theorem l103_1 (hJ : Closed prog main J) {S : Type} (μ : S → Nat) (I : S → RG → List AObj → Prop) (hI : ∀ s f h, I s f h → heapOk h → n0 ≤ h.length → W prog J 18 n0 103 (subC [1, 0, 1, 0, 0] (codeOf f103)) f h (thenK (Nx n0 μ I s) (contQ prog J 18 n0 103 [1, 0, 1, 0] (codeOf f103) [] (RetQ prog [.tmp 4] n0 K))))
  {s : S} {f : RG} (hi : Gets n0 I s f h) : Sem J 18 n0 103 (subC [1, 0, 1, 0] (codeOf f103)) f h (contQ prog J 18 n0 103 [1, 0, 1, 0] (codeOf f103) [] (RetQ prog [.tmp 4] n0 K)) :=
  loop_rule hJ mixed (b := subC [1, 0, 1, 0, 0] (codeOf f103)) (by kernel_rfl) μ I hI hi
theorem at102 : prog.funcs[102]? = some f102 := by kernel_rfl
theorem body102 : f102.body = some (codeOf f102) := by kernel_rfl
theorem e102 {a0 a1 : Value} : W prog J 16 h.length 102 (codeOf f102) (RG.mk (regs [a0, a1]) []) h (RetQ prog [.tmp 3] h.length K) =
(aLoad false 1 a1 h fun v1 =>
aIdx 2 v1 a0 fun v2 =>
aOff v2 1 fun v3 =>
aLoad false 1 v3 h fun v4 =>
aLoad false 1 a1 h fun v5 =>
aIdx 2 v5 a0 fun v6 =>
aOff v6 0 fun v7 =>
aLoad false 1 v7 h fun v8 =>
aBin prog .sub 3 v4 v8 fun v9 =>
aBin prog .add 3 v9 (vint 1) fun v10 =>
retL h.length K [] [v10] h) := by kernel_rfl
theorem g102 (hJ : Closed prog main J) {a0 a1 : Value} (hs : heapOk h → W prog J 16 h.length 102 (codeOf f102) (RG.mk (regs [a0, a1]) []) h (RetQ prog [.tmp 3] h.length K)) : Good prog J 102 [a0, a1] h K :=
  good_of_W hJ mixed at102 body102 (by kernel_rfl) (Nat.le_of_ble_eq_true rfl) hs
theorem at73 : prog.funcs[73]? = some f73 := by kernel_rfl
theorem body73 : f73.body = some (codeOf f73) := by kernel_rfl
theorem e73 {a0 a1 a2 a3 : Value} : W prog J 162 h.length 73 (codeOf f73) (RG.mk (regs [a0, a1, a2, a3]) []) h (RetQ prog [.cell 8 98] h.length K) =
(aBox a1 h fun v1 h2 =>
aAlloc [(vint 0), (vint 0)] h2 fun v3 h4 =>
aMkF 102 [] [v1] fun v5 =>
callV prog (Good prog J) v5 [a2] h4 fun v6 h7 =>
((List.length [(vint 0), (vint 0)] = 2 ∧ 16 ≤ 1024) ∧ aMkS [(vint 0), (vint 0)] v6 v6 h7 fun v8 h9 =>
Sem J 162 h.length 73 (subC [1, 1, 1, 0, 1, 0] (codeOf f73)) ((((((((((((RG.mk (regs [a0, a1, a2, a3]) []).put 5 v1).put 8 v3).put 22 v5).put 9 v5).put 23 v5).put 24 a2).put 25 v6).put 26 v8).put 10 v8).put 27 a2).put 11 a2) h9 (contQ prog J 162 h.length 73 [1, 1, 1, 0, 1, 0] (codeOf f73) [] (RetQ prog [.cell 8 98] h.length K)))) := by kernel_rfl
theorem g73 (hJ : Closed prog main J) {a0 a1 a2 a3 : Value} (hs : heapOk h → W prog J 162 h.length 73 (codeOf f73) (RG.mk (regs [a0, a1, a2, a3]) []) h (RetQ prog [.cell 8 98] h.length K)) : Good prog J 73 [a0, a1, a2, a3] h K :=
  good_of_W hJ mixed at73 body73 (by kernel_rfl) (Nat.le_of_ble_eq_true rfl) hs
-- loop [1, 1, 1, 0, 1, 0, 0]
theorem s73_1 {f : RG} {nx0 : RG → List AObj → Prop} : W prog J 162 n0 73 (subC [1, 1, 1, 0, 1, 0, 0] (codeOf f73)) f h (thenK nx0 (contQ prog J 162 n0 73 [1, 1, 1, 0, 1, 0] (codeOf f73) [] (RetQ prog [.cell 8 98] n0 K))) =
(aBin prog .lss 3 (f.r 11) (f.r 3) fun v1 =>
cnd v1
(aBin prog .add 3 (f.r 11) (vint 1) fun v2 =>
callV prog (Good prog J) (f.r 9) [v2] h fun v3 h4 =>
((List.length [(vint 0), (vint 0)] = 2 ∧ 16 ≤ 1024) ∧ aMkS [(vint 0), (vint 0)] v3 v3 h4 fun v5 h6 =>
aLenS v5 fun v7 =>
Sem J 162 n0 73 (subC [1, 1, 1, 0, 1, 0, 0, 1, 0, 0, 1, 0, 1, 0] (codeOf f73)) ((((((((((((f.put 28 (f.r 11)).put 29 (f.r 3)).put 30 v1).put 33 (f.r 9)).put 34 (f.r 11)).put 35 v2).put 36 v3).put 37 v5).put 12 v5).put 38 v5).put 39 v7).put 40 (vint 0)) h6 (contQ prog J 162 n0 73 [1, 1, 1, 0, 1, 0, 0, 1, 0, 0, 1, 0, 1, 0] (codeOf f73) [nx0] (RetQ prog [.cell 8 98] n0 K))))
(aIdx 2 (f.r 10) (vint 0) fun v8 =>
aLoad true 2 v8 h fun v9 =>
aAlloc [(vint 0), (vint 0)] h fun v10 h11 =>
aStore 2 v10 v9 h11 fun h12 =>
aLenS (f.r 10) fun v13 =>
Sem J 162 n0 73 (subC [1, 1, 1, 1, 1, 0, 1, 0] (codeOf f73)) ((((((((((f.put 28 (f.r 11)).put 29 (f.r 3)).put 30 v1).put 139 (f.r 10)).put 140 v8).put 141 v9).put 19 v10).put 142 (f.r 10)).put 143 v13).put 144 (vint 0)) h12 (contQ prog J 162 n0 73 [1, 1, 1, 1, 1, 0, 1, 0] (codeOf f73) [] (RetQ prog [.cell 8 98] n0 K)))) := by kernel_rfl
theorem l73_1 (hJ : Closed prog main J) {S : Type} (μ : S → Nat) (I : S → RG → List AObj → Prop) (hI : ∀ s f h, I s f h → heapOk h → n0 ≤ h.length → W prog J 162 n0 73 (subC [1, 1, 1, 0, 1, 0, 0] (codeOf f73)) f h (thenK (Nx n0 μ I s) (contQ prog J 162 n0 73 [1, 1, 1, 0, 1, 0] (codeOf f73) [] (RetQ prog [.cell 8 98] n0 K))))
  {s : S} {f : RG} (hi : Gets n0 I s f h) : Sem J 162 n0 73 (subC [1, 1, 1, 0, 1, 0] (codeOf f73)) f h (contQ prog J 162 n0 73 [1, 1, 1, 0, 1, 0] (codeOf f73) [] (RetQ prog [.cell 8 98] n0 K)) :=
  loop_rule hJ mixed (b := subC [1, 1, 1, 0, 1, 0, 0] (codeOf f73)) (by kernel_rfl) μ I hI hi
-- loop [1, 1, 1, 0, 1, 0, 0, 1, 0, 0, 1, 0, 1, 0, 0]
theorem s73_2 {f : RG} {nx0 nx1 : RG → List AObj → Prop} : W prog J 162 n0 73 (subC [1, 1, 1, 0, 1, 0, 0, 1, 0, 0, 1, 0, 1, 0, 0] (codeOf f73)) f h (thenK nx1 (contQ prog J 162 n0 73 [1, 1, 1, 0, 1, 0, 0, 1, 0, 0, 1, 0, 1, 0] (codeOf f73) [nx0] (RetQ prog [.cell 8 98] n0 K))) =
(aBin prog .lss 3 (f.r 40) (f.r 39) fun v1 =>
cnd v1
(aFill [(vint 0), (vint 0)] [(0, 1, (vint 1048576)), (1, 1, (vint (-1)))] fun c2 =>
aIdx 2 (f.r 12) (f.r 40) fun v3 =>
aStore 2 v3 (Value.agg ⟨c2⟩) h fun h4 =>
aLoad false 1 (f.r 5) h4 fun v5 =>
aBin prog .add 3 (f.r 11) (vint 1) fun v6 =>
aIdx 2 v5 v6 fun v7 =>
aOff v7 0 fun v8 =>
aLoad false 1 v8 h4 fun v9 =>
aBin prog .add 3 v9 (f.r 40) fun v10 =>
aLenS (f.r 10) fun v11 =>
Sem J 162 n0 73 (subC [1, 1, 1, 0, 1, 0, 0, 1, 0, 0, 1, 0, 1, 0, 0, 1, 1, 0, 0, 1, 1, 1, 1, 0] (codeOf f73)) (((((((((((((((((((f.put 41 v1).put 42 (f.r 40)).put 13 (f.r 40)).put 43 (f.r 12)).put 44 (f.r 40)).put 45 (Value.agg ⟨c2⟩)).put 46 v3).put 47 v5).put 48 (f.r 11)).put 49 v6).put 50 v7).put 51 v8).put 52 v9).put 53 (f.r 40)).put 54 v10).put 14 v10).put 55 (f.r 10)).put 56 v11).put 57 (vint 0)) h4 (contQ prog J 162 n0 73 [1, 1, 1, 0, 1, 0, 0, 1, 0, 0, 1, 0, 1, 0, 0, 1, 1, 0, 0, 1, 1, 1, 1, 0] (codeOf f73) [nx0, nx1] (RetQ prog [.cell 8 98] n0 K)))
(aBin prog .add 3 (f.r 11) (vint 1) fun v12 =>
nx0 ((((((f.put 41 v1).put 138 (f.r 12)).put 10 (f.r 12)).put 31 (f.r 11)).put 32 v12).put 11 v12) h)) := by kernel_rfl
theorem l73_2 (hJ : Closed prog main J) {nx0 : RG → List AObj → Prop} {S : Type} (μ : S → Nat) (I : S → RG → List AObj → Prop) (hI : ∀ s f h, I s f h → heapOk h → n0 ≤ h.length → W prog J 162 n0 73 (subC [1, 1, 1, 0, 1, 0, 0, 1, 0, 0, 1, 0, 1, 0, 0] (codeOf f73)) f h (thenK (Nx n0 μ I s) (contQ prog J 162 n0 73 [1, 1, 1, 0, 1, 0, 0, 1, 0, 0, 1, 0, 1, 0] (codeOf f73) [nx0] (RetQ prog [.cell 8 98] n0 K))))
  {s : S} {f : RG} (hi : Gets n0 I s f h) : Sem J 162 n0 73 (subC [1, 1, 1, 0, 1, 0, 0, 1, 0, 0, 1, 0, 1, 0] (codeOf f73)) f h (contQ prog J 162 n0 73 [1, 1, 1, 0, 1, 0, 0, 1, 0, 0, 1, 0, 1, 0] (codeOf f73) [nx0] (RetQ prog [.cell 8 98] n0 K)) :=
  loop_rule hJ mixed (b := subC [1, 1, 1, 0, 1, 0, 0, 1, 0, 0, 1, 0, 1, 0, 0] (codeOf f73)) (by kernel_rfl) μ I hI hi
-- loop [1, 1, 1, 1, 1, 0, 1, 0, 0]
theorem s73_3 {f : RG} {nx0 : RG → List AObj → Prop} : W prog J 162 n0 73 (subC [1, 1, 1, 1, 1, 0, 1, 0, 0] (codeOf f73)) f h (thenK nx0 (contQ prog J 162 n0 73 [1, 1, 1, 1, 1, 0, 1, 0] (codeOf f73) [] (RetQ prog [.cell 8 98] n0 K))) =
(aBin prog .lss 3 (f.r 144) (f.r 143) fun v1 =>
cnd v1
(aIdx 2 (f.r 142) (f.r 144) fun v2 =>
aLoad true 2 v2 h fun v3 =>
aAlloc [(vint 0), (vint 0)] h fun v4 h5 =>
aStore 2 v4 v3 h5 fun h6 =>
(∃ B, aOff (f.r 19) 0 fun v7 =>
aLoad false 1 v7 h6 fun v8 =>
RdOk (some B) (ptrBlk v7) ∧ (aOff v4 0 fun v9 =>
aLoad false 1 v9 h6 fun v10 =>
RdOk (some B) (ptrBlk v9) ∧ (aOff (f.r 19) 1 fun v11 =>
aLoad false 1 v11 h6 fun v12 =>
RdOk (some B) (ptrBlk v11) ∧ (aOff v4 1 fun v13 =>
aLoad false 1 v13 h6 fun v14 =>
RdOk (some B) (ptrBlk v13) ∧ (aMax v12 [v14] fun v15 =>
((1 * 1 ≤ 16777216 ∧ 1 ≤ 16777216 ∧ List.length [(vint 0)] = 1) ∧ aFill (zrep [(vint 0)] 1) [(0, 1, v10)] fun c16 =>
aNewS 1 c16 h6 fun v17 h18 =>
SameB (some B) h6 h18 ∧ (Good prog J 103 [v8, v17] h18 fun v19 h20 =>
SameB (some B) h6 h20 ∧ (aFill [(vint 0), (vint 0)] [(0, 1, v19), (1, 1, v15)] fun c21 =>
aStore 2 (f.r 19) (Value.agg ⟨c21⟩) h20 fun h22 =>
aBin prog .add 3 (f.r 144) (vint 1) fun v23 =>
nx0 ((((((((((((((((((f.put 145 v1).put 146 v2).put 147 v3).put 21 v4).put 148 v7).put 149 v8).put 150 v9).put 151 v10).put 154 v11).put 155 v12).put 156 v13).put 157 v14).put 158 v15).put 152 v17).put 153 v19).put 159 (Value.agg ⟨c21⟩)).put 160 v23).put 144 v23) h22)))))))))
(aLoad true 2 (f.r 19) h fun v24 =>
aStore 2 (f.r 8) v24 h fun h25 =>
RetQ prog [.cell 8 98] n0 K .ret ((f.put 145 v1).put 161 v24) h25)) := by kernel_rfl
theorem l73_3 (hJ : Closed prog main J) {S : Type} (μ : S → Nat) (I : S → RG → List AObj → Prop) (hI : ∀ s f h, I s f h → heapOk h → n0 ≤ h.length → W prog J 162 n0 73 (subC [1, 1, 1, 1, 1, 0, 1, 0, 0] (codeOf f73)) f h (thenK (Nx n0 μ I s) (contQ prog J 162 n0 73 [1, 1, 1, 1, 1, 0, 1, 0] (codeOf f73) [] (RetQ prog [.cell 8 98] n0 K))))
  {s : S} {f : RG} (hi : Gets n0 I s f h) : Sem J 162 n0 73 (subC [1, 1, 1, 1, 1, 0, 1, 0] (codeOf f73)) f h (contQ prog J 162 n0 73 [1, 1, 1, 1, 1, 0, 1, 0] (codeOf f73) [] (RetQ prog [.cell 8 98] n0 K)) :=
  loop_rule hJ mixed (b := subC [1, 1, 1, 1, 1, 0, 1, 0, 0] (codeOf f73)) (by kernel_rfl) μ I hI hi
-- loop [1, 1, 1, 0, 1, 0, 0, 1, 0, 0, 1, 0, 1, 0, 0, 1, 1, 0, 0, 1, 1, 1, 1, 0, 0]
theorem s73_4 {f : RG} {nx0 nx1 nx2 : RG → List AObj → Prop} : W prog J 162 n0 73 (subC [1, 1, 1, 0, 1, 0, 0, 1, 0, 0, 1, 0, 1, 0, 0, 1, 1, 0, 0, 1, 1, 1, 1, 0, 0] (codeOf f73)) f h (thenK nx2 (contQ prog J 162 n0 73 [1, 1, 1, 0, 1, 0, 0, 1, 0, 0, 1, 0, 1, 0, 0, 1, 1, 0, 0, 1, 1, 1, 1, 0] (codeOf f73) [nx0, nx1] (RetQ prog [.cell 8 98] n0 K))) =
(aBin prog .lss 3 (f.r 57) (f.r 56) fun v1 =>
cnd v1
(aIdx 2 (f.r 55) (f.r 57) fun v2 =>
aLoad true 2 v2 h fun v3 =>
aAlloc [(vint 0), (vint 0)] h fun v4 h5 =>
aStore 2 v4 v3 h5 fun h6 =>
aLoad false 1 (f.r 5) h6 fun v7 =>
aIdx 2 v7 (f.r 11) fun v8 =>
aOff v8 0 fun v9 =>
aLoad false 1 v9 h6 fun v10 =>
aBin prog .add 3 v10 (f.r 57) fun v11 =>
(∃ B, aNil (f.r 0) fun v12 =>
aOff v12 0 fun v13 =>
aOff v13 3 fun v14 =>
aLoad false 1 v14 h6 fun v15 =>
RdOk (some B) (ptrBlk v14) ∧ (aIdx 2 v15 (f.r 11) fun v16 =>
aOff v16 0 fun v17 =>
aLoad false 1 v17 h6 fun v18 =>
RdOk (some B) (ptrBlk v17) ∧ (aBin prog .add 3 v11 v18 fun v19 =>
aBin prog .sub 3 v19 (f.r 14) fun v20 =>
aMax (vint 0) [v20] fun v21 =>
aNil (f.r 0) fun v22 =>
aOff v22 0 fun v23 =>
aOff v23 4 fun v24 =>
aLoad false 1 v24 h6 fun v25 =>
RdOk (some B) (ptrBlk v24) ∧ (aNil (f.r 0) fun v26 =>
aOff v26 0 fun v27 =>
aOff v27 3 fun v28 =>
aLoad false 1 v28 h6 fun v29 =>
RdOk (some B) (ptrBlk v28) ∧ (aIdx 2 v29 (f.r 11) fun v30 =>
aOff v30 1 fun v31 =>
aLoad false 1 v31 h6 fun v32 =>
RdOk (some B) (ptrBlk v31) ∧ (aBin prog .add 3 v11 v32 fun v33 =>
aBin prog .sub 3 v33 (f.r 14) fun v34 =>
(((1 * 1 ≤ 16777216 ∧ 1 ≤ 16777216 ∧ List.length [(vint 0)] = 1) ∧ aFill (zrep [(vint 0)] 1) [(0, 1, v34)] fun c35 =>
aNewS 1 c35 h6 fun v36 h37 =>
SameB (some B) h6 h37 ∧ ((Good prog J 103 [v25, v36] h37 fun v38 h39 =>
SameB (some B) h6 h39 ∧ (aFill [(vint 0), (vint 0)] [(0, 1, v21), (1, 1, v38)] fun c40 =>
aAlloc [(vint 0), (vint 0)] h39 fun v41 h42 =>
SameB (some B) h6 h42 ∧ (aStore 2 v41 (Value.agg ⟨c40⟩) h42 fun h43 =>
W prog J 162 n0 73 (subC [1, 1, 1, 0, 1, 0, 0, 1, 0, 0, 1, 0, 1, 0, 0, 1, 1, 0, 0, 1, 1, 1, 1, 0, 0, 1, 1, 0, 0, 1, 1, 1] (codeOf f73)) ((((((((((((((((((((((((((((((((((((((((((((((((((f.put 58 v1).put 59 (f.r 57)).put 60 v2).put 61 v3).put 16 v4).put 15 (f.r 57)).put 62 v7).put 63 (f.r 11)).put 64 v8).put 65 v9).put 66 v10).put 67 (f.r 57)).put 68 v11).put 17 v11).put 69 v11).put 70 (f.r 0)).put 71 v12).put 72 v13).put 73 v14).put 74 v15).put 75 (f.r 11)).put 76 v16).put 77 v17).put 78 v18).put 79 v19).put 80 (f.r 14)).put 81 v20).put 82 v21).put 83 (f.r 0)).put 84 v22).put 85 v23).put 86 v24).put 87 v25).put 88 v11).put 89 (f.r 0)).put 90 v26).put 91 v27).put 92 v28).put 93 v29).put 94 (f.r 11)).put 95 v30).put 96 v31).put 97 v32).put 98 v33).put 99 (f.r 14)).put 100 v34).put 101 v36).put 102 v38).put 103 (Value.agg ⟨c40⟩)).put 18 v41) h43 (contQ prog J 162 n0 73 [1, 1, 1, 0, 1, 0, 0, 1, 0, 0, 1, 0, 1, 0, 0, 1, 1, 0, 0, 1, 1, 1, 1, 0, 0, 1, 1, 0, 0, 1, 1, 1] (codeOf f73) [nx0, nx1, nx2] (RetQ prog [.cell 8 98] n0 K))))) ∧ (aAlloc [(vint 0), (vint 0)] h37 fun v44 h45 =>
SameB (some B) h6 h45 ∧ (Good prog J 103 [v25, v36] h45 fun v46 h47 =>
SameB (some B) h6 h47 ∧ (aFill [(vint 0), (vint 0)] [(0, 1, v21), (1, 1, v46)] fun c48 =>
aStore 2 v44 (Value.agg ⟨c48⟩) h47 fun h49 =>
W prog J 162 n0 73 (subC [1, 1, 1, 0, 1, 0, 0, 1, 0, 0, 1, 0, 1, 0, 0, 1, 1, 0, 0, 1, 1, 1, 1, 0, 0, 1, 1, 0, 0, 1, 1, 1] (codeOf f73)) ((((((((((((((((((((((((((((((((((((((((((((((((((f.put 58 v1).put 59 (f.r 57)).put 60 v2).put 61 v3).put 16 v4).put 15 (f.r 57)).put 62 v7).put 63 (f.r 11)).put 64 v8).put 65 v9).put 66 v10).put 67 (f.r 57)).put 68 v11).put 17 v11).put 69 v11).put 70 (f.r 0)).put 71 v12).put 72 v13).put 73 v14).put 74 v15).put 75 (f.r 11)).put 76 v16).put 77 v17).put 78 v18).put 79 v19).put 80 (f.r 14)).put 81 v20).put 82 v21).put 83 (f.r 0)).put 84 v22).put 85 v23).put 86 v24).put 87 v25).put 88 v11).put 89 (f.r 0)).put 90 v26).put 91 v27).put 92 v28).put 93 v29).put 94 (f.r 11)).put 95 v30).put 96 v31).put 97 v32).put 98 v33).put 99 (f.r 14)).put 100 v34).put 101 v36).put 18 v44).put 102 v46).put 103 (Value.agg ⟨c48⟩)) h49 (contQ prog J 162 n0 73 [1, 1, 1, 0, 1, 0, 0, 1, 0, 0, 1, 0, 1, 0, 0, 1, 1, 0, 0, 1, 1, 1, 1, 0, 0, 1, 1, 0, 0, 1, 1, 1] (codeOf f73) [nx0, nx1, nx2] (RetQ prog [.cell 8 98] n0 K)))))))) ∧ (aAlloc [(vint 0), (vint 0)] h6 fun v50 h51 =>
SameB (some B) h6 h51 ∧ (((1 * 1 ≤ 16777216 ∧ 1 ≤ 16777216 ∧ List.length [(vint 0)] = 1) ∧ aFill (zrep [(vint 0)] 1) [(0, 1, v34)] fun c52 =>
aNewS 1 c52 h51 fun v53 h54 =>
SameB (some B) h6 h54 ∧ (Good prog J 103 [v25, v53] h54 fun v55 h56 =>
SameB (some B) h6 h56 ∧ (aFill [(vint 0), (vint 0)] [(0, 1, v21), (1, 1, v55)] fun c57 =>
aStore 2 v50 (Value.agg ⟨c57⟩) h56 fun h58 =>
W prog J 162 n0 73 (subC [1, 1, 1, 0, 1, 0, 0, 1, 0, 0, 1, 0, 1, 0, 0, 1, 1, 0, 0, 1, 1, 1, 1, 0, 0, 1, 1, 0, 0, 1, 1, 1] (codeOf f73)) ((((((((((((((((((((((((((((((((((((((((((((((((((f.put 58 v1).put 59 (f.r 57)).put 60 v2).put 61 v3).put 16 v4).put 15 (f.r 57)).put 62 v7).put 63 (f.r 11)).put 64 v8).put 65 v9).put 66 v10).put 67 (f.r 57)).put 68 v11).put 17 v11).put 69 v11).put 70 (f.r 0)).put 71 v12).put 72 v13).put 73 v14).put 74 v15).put 75 (f.r 11)).put 76 v16).put 77 v17).put 78 v18).put 79 v19).put 80 (f.r 14)).put 81 v20).put 82 v21).put 83 (f.r 0)).put 84 v22).put 85 v23).put 86 v24).put 87 v25).put 88 v11).put 89 (f.r 0)).put 90 v26).put 91 v27).put 92 v28).put 93 v29).put 94 (f.r 11)).put 95 v30).put 96 v31).put 97 v32).put 98 v33).put 99 (f.r 14)).put 100 v34).put 18 v50).put 101 v53).put 102 v55).put 103 (Value.agg ⟨c57⟩)) h58 (contQ prog J 162 n0 73 [1, 1, 1, 0, 1, 0, 0, 1, 0, 0, 1, 0, 1, 0, 0, 1, 1, 0, 0, 1, 1, 1, 1, 0, 0, 1, 1, 0, 0, 1, 1, 1] (codeOf f73) [nx0, nx1, nx2] (RetQ prog [.cell 8 98] n0 K))))))))))))))
(aBin prog .add 3 (f.r 40) (vint 1) fun v59 =>
nx1 (((f.put 58 v1).put 137 v59).put 40 v59) h)) := by kernel_rfl
theorem l73_4 (hJ : Closed prog main J) {nx0 nx1 : RG → List AObj → Prop} {S : Type} (μ : S → Nat) (I : S → RG → List AObj → Prop) (hI : ∀ s f h, I s f h → heapOk h → n0 ≤ h.length → W prog J 162 n0 73 (subC [1, 1, 1, 0, 1, 0, 0, 1, 0, 0, 1, 0, 1, 0, 0, 1, 1, 0, 0, 1, 1, 1, 1, 0, 0] (codeOf f73)) f h (thenK (Nx n0 μ I s) (contQ prog J 162 n0 73 [1, 1, 1, 0, 1, 0, 0, 1, 0, 0, 1, 0, 1, 0, 0, 1, 1, 0, 0, 1, 1, 1, 1, 0] (codeOf f73) [nx0, nx1] (RetQ prog [.cell 8 98] n0 K))))
  {s : S} {f : RG} (hi : Gets n0 I s f h) : Sem J 162 n0 73 (subC [1, 1, 1, 0, 1, 0, 0, 1, 0, 0, 1, 0, 1, 0, 0, 1, 1, 0, 0, 1, 1, 1, 1, 0] (codeOf f73)) f h (contQ prog J 162 n0 73 [1, 1, 1, 0, 1, 0, 0, 1, 0, 0, 1, 0, 1, 0, 0, 1, 1, 0, 0, 1, 1, 1, 1, 0] (codeOf f73) [nx0, nx1] (RetQ prog [.cell 8 98] n0 K)) :=
  loop_rule hJ mixed (b := subC [1, 1, 1, 0, 1, 0, 0, 1, 0, 0, 1, 0, 1, 0, 0, 1, 1, 0, 0, 1, 1, 1, 1, 0, 0] (codeOf f73)) (by kernel_rfl) μ I hI hi
-- join [1, 1, 1, 0, 1, 0, 0, 1, 0, 0, 1, 0, 1, 0, 0, 1, 1, 0, 0, 1, 1, 1, 1, 0, 0, 1, 1, 0, 0, 1, 1, 1]
theorem s73_5 {f : RG} {nx0 nx1 nx2 : RG → List AObj → Prop} : W prog J 162 n0 73 (subC [1, 1, 1, 0, 1, 0, 0, 1, 0, 0, 1, 0, 1, 0, 0, 1, 1, 0, 0, 1, 1, 1, 1, 0, 0, 1, 1, 0, 0, 1, 1, 1] (codeOf f73)) f h (contQ prog J 162 n0 73 [1, 1, 1, 0, 1, 0, 0, 1, 0, 0, 1, 0, 1, 0, 0, 1, 1, 0, 0, 1, 1, 1, 1, 0, 0, 1, 1, 0, 0, 1, 1, 1] (codeOf f73) [nx0, nx1, nx2] (RetQ prog [.cell 8 98] n0 K)) =
(aLoad true 2 (f.r 16) h fun v1 =>
Good prog J 104 [v1] h fun v2 h3 =>
aUn .not v2 fun v4 =>
cnd v4
(aLoad true 2 (f.r 18) h3 fun v5 =>
Good prog J 104 [v5] h3 fun v6 h7 =>
aUn .not v6 fun v8 =>
W prog J 162 n0 73 (subC [1, 1, 1, 0, 1, 0, 0, 1, 0, 0, 1, 0, 1, 0, 0, 1, 1, 0, 0, 1, 1, 1, 1, 0, 0, 1, 1, 0, 0, 1, 1, 1, 1] (codeOf f73)) (((((((((f.put 104 v1).put 105 v2).put 106 v4).put 107 v4).put 107 (Value.bool true)).put 108 v5).put 109 v6).put 110 v8).put 111 v8) h7 (contQ prog J 162 n0 73 [1, 1, 1, 0, 1, 0, 0, 1, 0, 0, 1, 0, 1, 0, 0, 1, 1, 0, 0, 1, 1, 1, 1, 0, 0, 1, 1, 0, 0, 1, 1, 1, 1] (codeOf f73) [nx0, nx1, nx2] (RetQ prog [.cell 8 98] n0 K)))
(W prog J 162 n0 73 (subC [1, 1, 1, 0, 1, 0, 0, 1, 0, 0, 1, 0, 1, 0, 0, 1, 1, 0, 0, 1, 1, 1, 1, 0, 0, 1, 1, 0, 0, 1, 1, 1, 1] (codeOf f73)) (((((((((f.put 104 v1).put 105 v2).put 106 v4).put 107 v4).put 107 (Value.bool false)).put 108 undef).put 109 undef).put 110 undef).put 111 (Value.bool false)) h3 (contQ prog J 162 n0 73 [1, 1, 1, 0, 1, 0, 0, 1, 0, 0, 1, 0, 1, 0, 0, 1, 1, 0, 0, 1, 1, 1, 1, 0, 0, 1, 1, 0, 0, 1, 1, 1, 1] (codeOf f73) [nx0, nx1, nx2] (RetQ prog [.cell 8 98] n0 K)))) := by kernel_rfl
-- join [1, 1, 1, 0, 1, 0, 0, 1, 0, 0, 1, 0, 1, 0, 0, 1, 1, 0, 0, 1, 1, 1, 1, 0, 0, 1, 1, 0, 0, 1, 1, 1, 1]
theorem s73_6 {f : RG} {nx0 nx1 nx2 : RG → List AObj → Prop} : W prog J 162 n0 73 (subC [1, 1, 1, 0, 1, 0, 0, 1, 0, 0, 1, 0, 1, 0, 0, 1, 1, 0, 0, 1, 1, 1, 1, 0, 0, 1, 1, 0, 0, 1, 1, 1, 1] (codeOf f73)) f h (contQ prog J 162 n0 73 [1, 1, 1, 0, 1, 0, 0, 1, 0, 0, 1, 0, 1, 0, 0, 1, 1, 0, 0, 1, 1, 1, 1, 0, 0, 1, 1, 0, 0, 1, 1, 1, 1] (codeOf f73) [nx0, nx1, nx2] (RetQ prog [.cell 8 98] n0 K)) =
(cnd (f.r 111)
(aLoad true 2 (f.r 16) h fun v1 =>
aLoad true 2 (f.r 18) h fun v2 =>
Good prog J 100 [v1, v2] h fun v3 h4 =>
aStore 2 (f.r 16) v3 h4 fun h5 =>
(∃ B, aIdx 2 (f.r 12) (f.r 13) fun v6 =>
aOff v6 0 fun v7 =>
aLoad false 1 v7 h5 fun v8 =>
RdOk (some B) (ptrBlk v7) ∧ (aOff (f.r 16) 0 fun v9 =>
aLoad false 1 v9 h5 fun v10 =>
RdOk (some B) (ptrBlk v9) ∧ (aIdx 2 (f.r 12) (f.r 13) fun v11 =>
aOff v11 1 fun v12 =>
aLoad false 1 v12 h5 fun v13 =>
RdOk (some B) (ptrBlk v12) ∧ (aOff (f.r 16) 1 fun v14 =>
aLoad false 1 v14 h5 fun v15 =>
RdOk (some B) (ptrBlk v14) ∧ (aMax v13 [v15] fun v16 =>
((1 * 1 ≤ 16777216 ∧ 1 ≤ 16777216 ∧ List.length [(vint 0)] = 1) ∧ aFill (zrep [(vint 0)] 1) [(0, 1, v10)] fun c17 =>
aNewS 1 c17 h5 fun v18 h19 =>
SameB (some B) h5 h19 ∧ (Good prog J 103 [v8, v18] h19 fun v20 h21 =>
SameB (some B) h5 h21 ∧ (aFill [(vint 0), (vint 0)] [(0, 1, v20), (1, 1, v16)] fun c22 =>
aIdx 2 (f.r 12) (f.r 13) fun v23 =>
aStore 2 v23 (Value.agg ⟨c22⟩) h21 fun h24 =>
aBin prog .add 3 (f.r 57) (vint 1) fun v25 =>
nx2 ((((((((((((((((((((((((((f.put 112 v1).put 113 v2).put 114 v3).put 115 (f.r 12)).put 116 (f.r 13)).put 117 (f.r 12)).put 118 (f.r 13)).put 119 v6).put 120 v7).put 121 v8).put 122 v9).put 123 v10).put 126 (f.r 12)).put 127 (f.r 13)).put 128 v11).put 129 v12).put 130 v13).put 131 v14).put 132 v15).put 133 v16).put 124 v18).put 125 v20).put 134 (Value.agg ⟨c22⟩)).put 135 v23).put 136 v25).put 57 v25) h24)))))))))
(aBin prog .add 3 (f.r 57) (vint 1) fun v26 =>
nx2 ((f.put 136 v26).put 57 v26) h)) := by kernel_rfl
theorem at31 : prog.funcs[31]? = some f31 := by kernel_rfl
theorem body31 : f31.body = some (codeOf f31) := by kernel_rfl
theorem e31 {a0 a1 a2 : Value} : W prog J 53 h.length 31 (codeOf f31) (RG.mk (regs [a0, a1, a2]) []) h (RetQ prog [.cell 6 38, .tmp 7] h.length K) =
(aBox a0 h fun v1 h2 =>
aAlloc [(vint 0), (vint 0)] h2 fun v3 h4 =>
aLoad true 6 v1 h4 fun v5 =>
Good prog J 71 [v5] h4 fun v6 h7 =>
aExt v6 0 fun v8 =>
aExt v6 1 fun v9 =>
aBin prog .neq 32 v9 (vint 0) fun v10 =>
cnd v10
(aFill [(vint 0), (vint 0)] [] fun c11 =>
aStore 2 v3 (Value.agg ⟨c11⟩) h7 fun h12 =>
RetQ prog [.cell 6 38, .tmp 7] h.length K .ret ((((((((((((((((RG.mk (regs [a0, a1, a2]) []).put 3 v1).put 6 v3).put 7 (vint 0)).put 13 v5).put 14 v6).put 12 v6).put 15 v8).put 16 v9).put 8 v8).put 9 v9).put 17 v9).put 18 v10).put 19 (Value.agg ⟨c11⟩)).put 20 v9).put 7 v9) h12)
(aOff v1 0 fun v13 =>
aLoad false 1 v13 h7 fun v14 =>
aBin prog .sub 3 v14 (vint 1) fun v15 =>
Good prog J 67 [a1, (vint 0), v15] h7 fun v16 h17 =>
aUn .not v16 fun v18 =>
cnd v18
(cnd (Value.bool true)
(aFill [(vint 0), (vint 0)] [] fun c19 =>
aStore 2 v3 (Value.agg ⟨c19⟩) h17 fun h20 =>
RetQ prog [.cell 6 38, .tmp 7] h.length K .ret ((((((((((((((((((((((((((((((RG.mk (regs [a0, a1, a2]) []).put 3 v1).put 6 v3).put 7 (vint 0)).put 13 v5).put 14 v6).put 12 v6).put 15 v8).put 16 v9).put 8 v8).put 9 v9).put 17 v9).put 18 v10).put 21 a1).put 22 v13).put 23 v14).put 24 v15).put 25 v16).put 26 v18).put 27 v18).put 27 (Value.bool true)).put 28 undef).put 29 undef).put 30 undef).put 31 undef).put 32 undef).put 33 undef).put 34 (Value.bool true)).put 35 (Value.agg ⟨c19⟩)).put 7 (vint 3)) h20)
(aBin prog .geq 3 a1 a2 fun v21 =>
cnd v21
(aFill [(vint 0), (vint 0)] [] fun c22 =>
aStore 2 v3 (Value.agg ⟨c22⟩) h17 fun h23 =>
RetQ prog [.cell 6 38, .tmp 7] h.length K .ret (((((((((((((((((((((((((((((((((RG.mk (regs [a0, a1, a2]) []).put 3 v1).put 6 v3).put 7 (vint 0)).put 13 v5).put 14 v6).put 12 v6).put 15 v8).put 16 v9).put 8 v8).put 9 v9).put 17 v9).put 18 v10).put 21 a1).put 22 v13).put 23 v14).put 24 v15).put 25 v16).put 26 v18).put 27 v18).put 27 (Value.bool true)).put 28 undef).put 29 undef).put 30 undef).put 31 undef).put 32 undef).put 33 undef).put 34 (Value.bool true)).put 36 a1).put 37 a2).put 38 v21).put 39 (Value.agg ⟨c22⟩)).put 7 (vint 5)) h23)
(Good prog J 72 [v8] h17 fun v24 h25 =>
aExt v24 0 fun v26 =>
aExt v24 1 fun v27 =>
aUn .not v27 fun v28 =>
cnd v28
(aFill [(vint 0), (vint 0)] [] fun c29 =>
aStore 2 v3 (Value.agg ⟨c29⟩) h25 fun h30 =>
RetQ prog [.cell 6 38, .tmp 7] h.length K .ret ((((((((((((((((((((((((((((((((((((((((((RG.mk (regs [a0, a1, a2]) []).put 3 v1).put 6 v3).put 7 (vint 0)).put 13 v5).put 14 v6).put 12 v6).put 15 v8).put 16 v9).put 8 v8).put 9 v9).put 17 v9).put 18 v10).put 21 a1).put 22 v13).put 23 v14).put 24 v15).put 25 v16).put 26 v18).put 27 v18).put 27 (Value.bool true)).put 28 undef).put 29 undef).put 30 undef).put 31 undef).put 32 undef).put 33 undef).put 34 (Value.bool true)).put 36 a1).put 37 a2).put 38 v21).put 41 v8).put 42 v24).put 40 v24).put 43 v26).put 44 v27).put 10 v26).put 11 v27).put 45 v27).put 46 v28).put 47 (Value.agg ⟨c29⟩)).put 7 (vint 11)) h30)
(Good prog J 73 [v8, v26, a1, a2] h25 fun v31 h32 =>
aStore 2 v3 v31 h32 fun h33 =>
RetQ prog [.cell 6 38, .tmp 7] h.length K .ret ((((((((((((((((((((((((((((((((((((((((((((((RG.mk (regs [a0, a1, a2]) []).put 3 v1).put 6 v3).put 7 (vint 0)).put 13 v5).put 14 v6).put 12 v6).put 15 v8).put 16 v9).put 8 v8).put 9 v9).put 17 v9).put 18 v10).put 21 a1).put 22 v13).put 23 v14).put 24 v15).put 25 v16).put 26 v18).put 27 v18).put 27 (Value.bool true)).put 28 undef).put 29 undef).put 30 undef).put 31 undef).put 32 undef).put 33 undef).put 34 (Value.bool true)).put 36 a1).put 37 a2).put 38 v21).put 41 v8).put 42 v24).put 40 v24).put 43 v26).put 44 v27).put 10 v26).put 11 v27).put 45 v27).put 46 v28).put 48 v8).put 49 v26).put 50 a1).put 51 a2).put 52 v31).put 7 (vint 0)) h33))))
(aOff v1 0 fun v34 =>
aLoad false 1 v34 h17 fun v35 =>
aBin prog .sub 3 v35 (vint 1) fun v36 =>
Good prog J 67 [a2, (vint 0), v36] h17 fun v37 h38 =>
aUn .not v37 fun v39 =>
cnd v39
(aFill [(vint 0), (vint 0)] [] fun c40 =>
aStore 2 v3 (Value.agg ⟨c40⟩) h38 fun h41 =>
RetQ prog [.cell 6 38, .tmp 7] h.length K .ret ((((((((((((((((((((((((((((((RG.mk (regs [a0, a1, a2]) []).put 3 v1).put 6 v3).put 7 (vint 0)).put 13 v5).put 14 v6).put 12 v6).put 15 v8).put 16 v9).put 8 v8).put 9 v9).put 17 v9).put 18 v10).put 21 a1).put 22 v13).put 23 v14).put 24 v15).put 25 v16).put 26 v18).put 27 v18).put 27 (Value.bool false)).put 28 a2).put 29 v34).put 30 v35).put 31 v36).put 32 v37).put 33 v39).put 34 v39).put 35 (Value.agg ⟨c40⟩)).put 7 (vint 3)) h41)
(aBin prog .geq 3 a1 a2 fun v42 =>
cnd v42
(aFill [(vint 0), (vint 0)] [] fun c43 =>
aStore 2 v3 (Value.agg ⟨c43⟩) h38 fun h44 =>
RetQ prog [.cell 6 38, .tmp 7] h.length K .ret (((((((((((((((((((((((((((((((((RG.mk (regs [a0, a1, a2]) []).put 3 v1).put 6 v3).put 7 (vint 0)).put 13 v5).put 14 v6).put 12 v6).put 15 v8).put 16 v9).put 8 v8).put 9 v9).put 17 v9).put 18 v10).put 21 a1).put 22 v13).put 23 v14).put 24 v15).put 25 v16).put 26 v18).put 27 v18).put 27 (Value.bool false)).put 28 a2).put 29 v34).put 30 v35).put 31 v36).put 32 v37).put 33 v39).put 34 v39).put 36 a1).put 37 a2).put 38 v42).put 39 (Value.agg ⟨c43⟩)).put 7 (vint 5)) h44)
(Good prog J 72 [v8] h38 fun v45 h46 =>
aExt v45 0 fun v47 =>
aExt v45 1 fun v48 =>
aUn .not v48 fun v49 =>
cnd v49
(aFill [(vint 0), (vint 0)] [] fun c50 =>
aStore 2 v3 (Value.agg ⟨c50⟩) h46 fun h51 =>
RetQ prog [.cell 6 38, .tmp 7] h.length K .ret ((((((((((((((((((((((((((((((((((((((((((RG.mk (regs [a0, a1, a2]) []).put 3 v1).put 6 v3).put 7 (vint 0)).put 13 v5).put 14 v6).put 12 v6).put 15 v8).put 16 v9).put 8 v8).put 9 v9).put 17 v9).put 18 v10).put 21 a1).put 22 v13).put 23 v14).put 24 v15).put 25 v16).put 26 v18).put 27 v18).put 27 (Value.bool false)).put 28 a2).put 29 v34).put 30 v35).put 31 v36).put 32 v37).put 33 v39).put 34 v39).put 36 a1).put 37 a2).put 38 v42).put 41 v8).put 42 v45).put 40 v45).put 43 v47).put 44 v48).put 10 v47).put 11 v48).put 45 v48).put 46 v49).put 47 (Value.agg ⟨c50⟩)).put 7 (vint 11)) h51)
(Good prog J 73 [v8, v47, a1, a2] h46 fun v52 h53 =>
aStore 2 v3 v52 h53 fun h54 =>
RetQ prog [.cell 6 38, .tmp 7] h.length K .ret ((((((((((((((((((((((((((((((((((((((((((((((RG.mk (regs [a0, a1, a2]) []).put 3 v1).put 6 v3).put 7 (vint 0)).put 13 v5).put 14 v6).put 12 v6).put 15 v8).put 16 v9).put 8 v8).put 9 v9).put 17 v9).put 18 v10).put 21 a1).put 22 v13).put 23 v14).put 24 v15).put 25 v16).put 26 v18).put 27 v18).put 27 (Value.bool false)).put 28 a2).put 29 v34).put 30 v35).put 31 v36).put 32 v37).put 33 v39).put 34 v39).put 36 a1).put 37 a2).put 38 v42).put 41 v8).put 42 v45).put 40 v45).put 43 v47).put 44 v48).put 10 v47).put 11 v48).put 45 v48).put 46 v49).put 48 v8).put 49 v47).put 50 a1).put 51 a2).put 52 v52).put 7 (vint 0)) h54)))))) := by kernel_rfl
theorem g31 (hJ : Closed prog main J) {a0 a1 a2 : Value} (hs : heapOk h → W prog J 53 h.length 31 (codeOf f31) (RG.mk (regs [a0, a1, a2]) []) h (RetQ prog [.cell 6 38, .tmp 7] h.length K)) : Good prog J 31 [a0, a1, a2] h K :=
  good_of_W hJ mixed at31 body31 (by kernel_rfl) (Nat.le_of_ble_eq_true rfl) hs
theorem at41 : prog.funcs[41]? = some f41 := by kernel_rfl
theorem body41 : f41.body = some (codeOf f41) := by kernel_rfl
theorem e41 {a0 a1 : Value} : W prog J 41 h.length 41 (codeOf f41) (RG.mk (regs [a0, a1]) []) h (RetQ prog [.tmp 4, .tmp 5] h.length K) =
(aBox a0 h fun v1 h2 =>
aLoad true 6 v1 h2 fun v3 =>
Good prog J 71 [v3] h2 fun v4 h5 =>
aExt v4 0 fun v6 =>
aExt v4 1 fun v7 =>
aBin prog .neq 32 v7 (vint 0) fun v8 =>
cnd v8
(retL h.length K [] [(vint 0), v7] h5)
(aBin prog .lss 3 a1 (vint 0) fun v9 =>
cnd v9
(retL h.length K [] [(vint 0), (vint 1)] h5)
(Good prog J 72 [v6] h5 fun v10 h11 =>
aExt v10 0 fun v12 =>
aExt v10 1 fun v13 =>
cnd v13
(aOff v1 0 fun v14 =>
aLoad false 1 v14 h11 fun v15 =>
Sem J 41 h.length 41 (subC [1, 1, 1, 1, 0, 1, 1, 0, 1, 0] (codeOf f41)) ((((((((((((((((((((((((((RG.mk (regs [a0, a1]) []).put 2 v1).put 4 (vint 0)).put 5 (vint 0)).put 12 v3).put 13 v4).put 11 v4).put 14 v6).put 15 v7).put 6 v6).put 7 v7).put 16 v7).put 17 v8).put 19 a1).put 20 v9).put 22 v6).put 23 v10).put 21 v10).put 24 v12).put 25 v13).put 8 v12).put 9 v13).put 26 v13).put 27 v14).put 28 v15).put 29 (vint 0)) h11 (contQ prog J 41 h.length 41 [1, 1, 1, 1, 0, 1, 1, 0, 1, 0] (codeOf f41) [] (RetQ prog [.tmp 4, .tmp 5] h.length K)))
(retL h.length K [] [(vint 0), (vint 11)] h11)))) := by kernel_rfl
theorem g41 (hJ : Closed prog main J) {a0 a1 : Value} (hs : heapOk h → W prog J 41 h.length 41 (codeOf f41) (RG.mk (regs [a0, a1]) []) h (RetQ prog [.tmp 4, .tmp 5] h.length K)) : Good prog J 41 [a0, a1] h K :=
  good_of_W hJ mixed at41 body41 (by kernel_rfl) (Nat.le_of_ble_eq_true rfl) hs
-- loop [1, 1, 1, 1, 0, 1, 1, 0, 1, 0, 0]
theorem s41_1 {f : RG} {nx0 : RG → List AObj → Prop} : W prog J 41 n0 41 (subC [1, 1, 1, 1, 0, 1, 1, 0, 1, 0, 0] (codeOf f41)) f h (thenK nx0 (contQ prog J 41 n0 41 [1, 1, 1, 1, 0, 1, 1, 0, 1, 0] (codeOf f41) [] (RetQ prog [.tmp 4, .tmp 5] n0 K))) =
(aBin prog .lss 3 (f.r 29) (f.r 28) fun v1 =>
cnd v1
(Good prog J 73 [(f.r 6), (f.r 8), (vint 0), (f.r 29)] h fun v2 h3 =>
aField false 1 0 v2 fun v4 =>
aBin prog .geq 3 v4 (f.r 1) fun v5 =>
cnd v5
(retL n0 K f.ds [(f.r 29), (vint 0)] h3)
(aBin prog .add 3 (f.r 29) (vint 1) fun v6 =>
nx0 ((((((((((((f.put 30 v1).put 31 (f.r 29)).put 10 (f.r 29)).put 32 (f.r 6)).put 33 (f.r 8)).put 34 (f.r 29)).put 35 v2).put 36 v4).put 37 (f.r 1)).put 38 v5).put 40 v6).put 29 v6) h3))
(retL n0 K f.ds [(vint 0), (vint 11)] h)) := by kernel_rfl
theorem l41_1 (hJ : Closed prog main J) {S : Type} (μ : S → Nat) (I : S → RG → List AObj → Prop) (hI : ∀ s f h, I s f h → heapOk h → n0 ≤ h.length → W prog J 41 n0 41 (subC [1, 1, 1, 1, 0, 1, 1, 0, 1, 0, 0] (codeOf f41)) f h (thenK (Nx n0 μ I s) (contQ prog J 41 n0 41 [1, 1, 1, 1, 0, 1, 1, 0, 1, 0] (codeOf f41) [] (RetQ prog [.tmp 4, .tmp 5] n0 K))))
  {s : S} {f : RG} (hi : Gets n0 I s f h) : Sem J 41 n0 41 (subC [1, 1, 1, 1, 0, 1, 1, 0, 1, 0] (codeOf f41)) f h (contQ prog J 41 n0 41 [1, 1, 1, 1, 0, 1, 1, 0, 1, 0] (codeOf f41) [] (RetQ prog [.tmp 4, .tmp 5] n0 K)) :=
  loop_rule hJ mixed (b := subC [1, 1, 1, 1, 0, 1, 1, 0, 1, 0, 0] (codeOf f41)) (by kernel_rfl) μ I hI hi
theorem at55 : prog.funcs[55]? = some f55 := by kernel_rfl
theorem body55 : f55.body = some (codeOf f55) := by kernel_rfl
theorem e55 {a0 : Value} : W prog J 49 h.length 55 (codeOf f55) (RG.mk (regs [a0]) []) h (RetQ prog [.tmp 2, .tmp 3, .tmp 4] h.length K) =
(aBox a0 h fun v1 h2 =>
aLoad true 6 v1 h2 fun v3 =>
Good prog J 71 [v3] h2 fun v4 h5 =>
aExt v4 0 fun v6 =>
aExt v4 1 fun v7 =>
aBin prog .neq 32 v7 (vint 0) fun v8 =>
cnd v8
(retL h.length K [] [(vint 0), (vint 0), v7] h5)
(Good prog J 72 [v6] h5 fun v9 h10 =>
aExt v9 0 fun v11 =>
aExt v9 1 fun v12 =>
aUn .not v12 fun v13 =>
cnd v13
(retL h.length K [] [(vint 0), (vint 0), (vint 11)] h10)
(aLenS v11 fun v14 =>
Sem J 49 h.length 55 (subC [1, 1, 1, 1, 1, 1, 0, 1, 0] (codeOf f55)) ((((((((((((((((((((((((((((RG.mk (regs [a0]) []).put 1 v1).put 2 (vint 0)).put 3 (vint 0)).put 4 (vint 0)).put 15 v3).put 16 v4).put 14 v4).put 17 v6).put 18 v7).put 5 v6).put 6 v7).put 19 v7).put 20 v8).put 23 v6).put 24 v9).put 22 v9).put 25 v11).put 26 v12).put 7 v11).put 8 v12).put 27 v12).put 28 v13).put 9 (vint 0)).put 10 (vint (-1))).put 29 v11).put 30 v14).put 31 (vint 0)) h10 (contQ prog J 49 h.length 55 [1, 1, 1, 1, 1, 1, 0, 1, 0] (codeOf f55) [] (RetQ prog [.tmp 2, .tmp 3, .tmp 4] h.length K))))) := by kernel_rfl
theorem g55 (hJ : Closed prog main J) {a0 : Value} (hs : heapOk h → W prog J 49 h.length 55 (codeOf f55) (RG.mk (regs [a0]) []) h (RetQ prog [.tmp 2, .tmp 3, .tmp 4] h.length K)) : Good prog J 55 [a0] h K :=
  good_of_W hJ mixed at55 body55 (by kernel_rfl) (Nat.le_of_ble_eq_true rfl) hs
-- loop [1, 1, 1, 1, 1, 1, 0, 1, 0, 0]
theorem s55_1 {f : RG} {nx0 : RG → List AObj → Prop} : W prog J 49 n0 55 (subC [1, 1, 1, 1, 1, 1, 0, 1, 0, 0] (codeOf f55)) f h (thenK nx0 (contQ prog J 49 n0 55 [1, 1, 1, 1, 1, 1, 0, 1, 0] (codeOf f55) [] (RetQ prog [.tmp 2, .tmp 3, .tmp 4] n0 K))) =
(aBin prog .lss 3 (f.r 31) (f.r 30) fun v1 =>
cnd v1
(aIdx 2 (f.r 29) (f.r 31) fun v2 =>
aLoad true 2 v2 h fun v3 =>
aAlloc [(vint 0), (vint 0)] h fun v4 h5 =>
aStore 2 v4 v3 h5 fun h6 =>
aOff v4 1 fun v7 =>
aLoad false 1 v7 h6 fun v8 =>
aOff v4 0 fun v9 =>
aLoad false 1 v9 h6 fun v10 =>
aBin prog .sub 3 v8 v10 fun v11 =>
aBin prog .gtr 3 v11 (f.r 10) fun v12 =>
cnd v12
(aBin prog .add 3 (f.r 31) (vint 1) fun v13 =>
nx0 (((((((((((((((((((((f.put 32 v1).put 33 (f.r 31)).put 34 v2).put 35 v3).put 12 v4).put 11 (f.r 31)).put 36 v7).put 37 v8).put 38 v9).put 39 v10).put 40 v11).put 13 v11).put 41 v11).put 42 (f.r 10)).put 43 v12).put 44 (f.r 31)).put 45 v11).put 9 (f.r 31)).put 10 v11).put 46 v13).put 31 v13) h6)
(aBin prog .add 3 (f.r 31) (vint 1) fun v14 =>
nx0 (((((((((((((((((f.put 32 v1).put 33 (f.r 31)).put 34 v2).put 35 v3).put 12 v4).put 11 (f.r 31)).put 36 v7).put 37 v8).put 38 v9).put 39 v10).put 40 v11).put 13 v11).put 41 v11).put 42 (f.r 10)).put 43 v12).put 46 v14).put 31 v14) h6))
(retL n0 K f.ds [(f.r 9), (f.r 10), (vint 0)] h)) := by kernel_rfl
theorem l55_1 (hJ : Closed prog main J) {S : Type} (μ : S → Nat) (I : S → RG → List AObj → Prop) (hI : ∀ s f h, I s f h → heapOk h → n0 ≤ h.length → W prog J 49 n0 55 (subC [1, 1, 1, 1, 1, 1, 0, 1, 0, 0] (codeOf f55)) f h (thenK (Nx n0 μ I s) (contQ prog J 49 n0 55 [1, 1, 1, 1, 1, 1, 0, 1, 0] (codeOf f55) [] (RetQ prog [.tmp 2, .tmp 3, .tmp 4] n0 K))))
  {s : S} {f : RG} (hi : Gets n0 I s f h) : Sem J 49 n0 55 (subC [1, 1, 1, 1, 1, 1, 0, 1, 0] (codeOf f55)) f h (contQ prog J 49 n0 55 [1, 1, 1, 1, 1, 1, 0, 1, 0] (codeOf f55) [] (RetQ prog [.tmp 2, .tmp 3, .tmp 4] n0 K)) :=
  loop_rule hJ mixed (b := subC [1, 1, 1, 1, 1, 1, 0, 1, 0, 0] (codeOf f55)) (by kernel_rfl) μ I hI hi
end
end Go.Proofs.Ytdgpacdknpahnaa

/- Printed by program: the forms to which the bodies of some functions come down. No conditions. -/
namespace Go.Proofs.Ytdgpacdknpahnaa
open Go.Conc Go.Proofs.Try
set_option maxRecDepth 100000
set_option linter.unusedVariables false
section
variable {main : Bool} {J : JT} {n0 : Nat} {h : List AObj} {K : Value → List AObj → Prop}
theorem at38 : prog.funcs[38]? = some f38 := by kernel_rfl
theorem body38 : f38.body = some (codeOf f38) := by kernel_rfl
theorem e38 {a0 : Value} : W prog J 14 h.length 38 (codeOf f38) (RG.mk (regs [a0]) []) h (RetQ prog [.cell 2 42] h.length K) =
(aBox a0 h fun v1 h2 =>
aAlloc [(vint 0), (vint 0), (vint 0), (Value.slice none 0 0), (vint 0), (Value.slice none 0 0)] h2 fun v3 h4 =>
(∃ B, aOff v1 3 fun v5 =>
aLoad false 1 v5 h4 fun v6 =>
RdOk (some B) (ptrBlk v5) ∧ (aOff v1 5 fun v7 =>
aLoad false 1 v7 h4 fun v8 =>
RdOk (some B) (ptrBlk v7) ∧ ((((0 * 2 ≤ 16777216 ∧ 0 ≤ 16777216 ∧ List.length [(vint 0), (vint 0)] = 2) ∧ aFill (zrep [(vint 0), (vint 0)] 0) [] fun c9 =>
aNewS 0 c9 h4 fun v10 h11 =>
SameB (some B) h4 h11 ∧ ((((List.length [(vint 0), (vint 0)] = 2 ∧ 0 < 2 ∧ 0 < 16 ∧ 16 ≤ 1024) ∧ aApp 2 v10 v6 h11 fun v12 h13 =>
SameB (some B) h4 h13 ∧ (aOff v1 3 fun v14 =>
((0 * 4 ≤ 16777216 ∧ 0 ≤ 16777216 ∧ List.length [(vint 0), (vint 0), (vint 0), (vint 0)] = 4) ∧ aFill (zrep [(vint 0), (vint 0), (vint 0), (vint 0)] 0) [] fun c15 =>
aNewS 0 c15 h13 fun v16 h17 =>
SameB (some B) h4 h17 ∧ (((List.length [(vint 0), (vint 0), (vint 0), (vint 0)] = 4 ∧ 0 < 4 ∧ 0 < 32 ∧ 32 ≤ 1024) ∧ aApp 4 v16 v8 h17 fun v18 h19 =>
SameB (some B) h4 h19 ∧ (aStore 1 v14 v12 h19 fun h20 =>
aOff v1 5 fun v21 =>
aStore 1 v21 v18 h20 fun h22 =>
aLoad true 6 v1 h22 fun v23 =>
aStore 6 v3 v23 h22 fun h24 =>
RetQ prog [.cell 2 42] h.length K .ret ((((((((((((((RG.mk (regs [a0]) []).put 1 v1).put 2 v3).put 4 v5).put 5 v6).put 8 v7).put 9 v8).put 3 v10).put 6 v12).put 11 v14).put 7 v16).put 10 v18).put 12 v21).put 13 v23) h24))))))) ∧ (((0 * 4 ≤ 16777216 ∧ 0 ≤ 16777216 ∧ List.length [(vint 0), (vint 0), (vint 0), (vint 0)] = 4) ∧ aFill (zrep [(vint 0), (vint 0), (vint 0), (vint 0)] 0) [] fun c25 =>
aNewS 0 c25 h11 fun v26 h27 =>
SameB (some B) h4 h27 ∧ (((List.length [(vint 0), (vint 0)] = 2 ∧ 0 < 2 ∧ 0 < 16 ∧ 16 ≤ 1024) ∧ aApp 2 v10 v6 h27 fun v28 h29 =>
SameB (some B) h4 h29 ∧ (aOff v1 3 fun v30 =>
((List.length [(vint 0), (vint 0), (vint 0), (vint 0)] = 4 ∧ 0 < 4 ∧ 0 < 32 ∧ 32 ≤ 1024) ∧ aApp 4 v26 v8 h29 fun v31 h32 =>
SameB (some B) h4 h32 ∧ (aStore 1 v30 v28 h32 fun h33 =>
aOff v1 5 fun v34 =>
aStore 1 v34 v31 h33 fun h35 =>
aLoad true 6 v1 h35 fun v36 =>
aStore 6 v3 v36 h35 fun h37 =>
RetQ prog [.cell 2 42] h.length K .ret ((((((((((((((RG.mk (regs [a0]) []).put 1 v1).put 2 v3).put 4 v5).put 5 v6).put 8 v7).put 9 v8).put 3 v10).put 7 v26).put 6 v28).put 11 v30).put 10 v31).put 12 v34).put 13 v36) h37)))))))))) ∧ (((0 * 4 ≤ 16777216 ∧ 0 ≤ 16777216 ∧ List.length [(vint 0), (vint 0), (vint 0), (vint 0)] = 4) ∧ aFill (zrep [(vint 0), (vint 0), (vint 0), (vint 0)] 0) [] fun c38 =>
aNewS 0 c38 h4 fun v39 h40 =>
SameB (some B) h4 h40 ∧ (((0 * 2 ≤ 16777216 ∧ 0 ≤ 16777216 ∧ List.length [(vint 0), (vint 0)] = 2) ∧ aFill (zrep [(vint 0), (vint 0)] 0) [] fun c41 =>
aNewS 0 c41 h40 fun v42 h43 =>
SameB (some B) h4 h43 ∧ (((List.length [(vint 0), (vint 0)] = 2 ∧ 0 < 2 ∧ 0 < 16 ∧ 16 ≤ 1024) ∧ aApp 2 v42 v6 h43 fun v44 h45 =>
SameB (some B) h4 h45 ∧ (aOff v1 3 fun v46 =>
((List.length [(vint 0), (vint 0), (vint 0), (vint 0)] = 4 ∧ 0 < 4 ∧ 0 < 32 ∧ 32 ≤ 1024) ∧ aApp 4 v39 v8 h45 fun v47 h48 =>
SameB (some B) h4 h48 ∧ (aStore 1 v46 v44 h48 fun h49 =>
aOff v1 5 fun v50 =>
aStore 1 v50 v47 h49 fun h51 =>
aLoad true 6 v1 h51 fun v52 =>
aStore 6 v3 v52 h51 fun h53 =>
RetQ prog [.cell 2 42] h.length K .ret ((((((((((((((RG.mk (regs [a0]) []).put 1 v1).put 2 v3).put 4 v5).put 5 v6).put 8 v7).put 9 v8).put 7 v39).put 3 v42).put 6 v44).put 11 v46).put 10 v47).put 12 v50).put 13 v52) h53))))))))))))) := by kernel_rfl
theorem g38 (hJ : Closed prog main J) {a0 : Value} (hs : heapOk h → W prog J 14 h.length 38 (codeOf f38) (RG.mk (regs [a0]) []) h (RetQ prog [.cell 2 42] h.length K)) : Good prog J 38 [a0] h K :=
  good_of_W hJ mixed at38 body38 (by kernel_rfl) (Nat.le_of_ble_eq_true rfl) hs
theorem at47 : prog.funcs[47]? = some f47 := by kernel_rfl
theorem body47 : f47.body = some (codeOf f47) := by kernel_rfl
theorem e47 {a0 a1 : Value} : W prog J 26 h.length 47 (codeOf f47) (RG.mk (regs [a0, a1]) []) h (RetQ prog [.tmp 4] h.length K) =
(aLenS a0 fun v1 =>
aLenS a1 fun v2 =>
aBin prog .neq 3 v1 v2 fun v3 =>
cnd v3
(retL h.length K [] [(Value.bool false)] h)
(Sem J 26 h.length 47 (subC [1, 1, 0, 1, 0] (codeOf f47)) ((((((((RG.mk (regs [a0, a1]) []).put 4 (Value.bool false)).put 6 a0).put 7 v1).put 8 a1).put 9 v2).put 10 v3).put 5 (vint 0)) h (contQ prog J 26 h.length 47 [1, 1, 0, 1, 0] (codeOf f47) [] (RetQ prog [.tmp 4] h.length K)))) := by kernel_rfl
theorem g47 (hJ : Closed prog main J) {a0 a1 : Value} (hs : heapOk h → W prog J 26 h.length 47 (codeOf f47) (RG.mk (regs [a0, a1]) []) h (RetQ prog [.tmp 4] h.length K)) : Good prog J 47 [a0, a1] h K :=
  good_of_W hJ mixed at47 body47 (by kernel_rfl) (Nat.le_of_ble_eq_true rfl) hs
-- loop [1, 1, 0, 1, 0, 0]
theorem s47_1 {f : RG} {nx0 : RG → List AObj → Prop} : W prog J 26 n0 47 (subC [1, 1, 0, 1, 0, 0] (codeOf f47)) f h (thenK nx0 (contQ prog J 26 n0 47 [1, 1, 0, 1, 0] (codeOf f47) [] (RetQ prog [.tmp 4] n0 K))) =
(aLenS (f.r 0) fun v1 =>
aBin prog .lss 3 (f.r 5) v1 fun v2 =>
cnd v2
(aIdx 2 (f.r 0) (f.r 5) fun v3 =>
aLoad true 2 v3 h fun v4 =>
aIdx 2 (f.r 1) (f.r 5) fun v5 =>
aLoad true 2 v5 h fun v6 =>
aBin prog .neq 38 v4 v6 fun v7 =>
cnd v7
(retL n0 K f.ds [(Value.bool false)] h)
(aBin prog .add 3 (f.r 5) (vint 1) fun v8 =>
nx0 ((((((((((((((((f.put 11 (f.r 5)).put 12 (f.r 0)).put 13 v1).put 14 v2).put 17 (f.r 0)).put 18 (f.r 5)).put 19 v3).put 20 v4).put 21 (f.r 1)).put 22 (f.r 5)).put 23 v5).put 24 v6).put 25 v7).put 15 (f.r 5)).put 16 v8).put 5 v8) h))
(retL n0 K f.ds [(Value.bool true)] h)) := by kernel_rfl
theorem l47_1 (hJ : Closed prog main J) {S : Type} (μ : S → Nat) (I : S → RG → List AObj → Prop) (hI : ∀ s f h, I s f h → heapOk h → n0 ≤ h.length → W prog J 26 n0 47 (subC [1, 1, 0, 1, 0, 0] (codeOf f47)) f h (thenK (Nx n0 μ I s) (contQ prog J 26 n0 47 [1, 1, 0, 1, 0] (codeOf f47) [] (RetQ prog [.tmp 4] n0 K))))
  {s : S} {f : RG} (hi : Gets n0 I s f h) : Sem J 26 n0 47 (subC [1, 1, 0, 1, 0] (codeOf f47)) f h (contQ prog J 26 n0 47 [1, 1, 0, 1, 0] (codeOf f47) [] (RetQ prog [.tmp 4] n0 K)) :=
  loop_rule hJ mixed (b := subC [1, 1, 0, 1, 0, 0] (codeOf f47)) (by kernel_rfl) μ I hI hi
theorem at48 : prog.funcs[48]? = some f48 := by kernel_rfl
theorem body48 : f48.body = some (codeOf f48) := by kernel_rfl
theorem e48 {a0 a1 : Value} : W prog J 60 h.length 48 (codeOf f48) (RG.mk (regs [a0, a1]) []) h (RetQ prog [.tmp 4] h.length K) =
(aBox a0 h fun v1 h2 =>
aBox a1 h2 fun v3 h4 =>
aOff v1 0 fun v5 =>
aLoad false 1 v5 h4 fun v6 =>
aOff v3 0 fun v7 =>
aLoad false 1 v7 h4 fun v8 =>
aBin prog .neq 3 v6 v8 fun v9 =>
cnd v9
(cnd (Value.bool true)
(cnd (Value.bool true)
(cnd (Value.bool true)
(cnd (Value.bool true)
(retL h.length K [] [(Value.bool false)] h4)
(Sem J 60 h.length 48 (subC [1, 1, 0, 1, 0] (codeOf f48)) (((((((((((((((((((((((((((((((((((((((((((((RG.mk (regs [a0, a1]) []).put 2 v1).put 3 v3).put 4 (Value.bool false)).put 6 v5).put 7 v6).put 8 v7).put 9 v8).put 10 v9).put 11 v9).put 11 (Value.bool true)).put 12 undef).put 13 undef).put 14 undef).put 15 undef).put 16 undef).put 17 (Value.bool true)).put 18 (Value.bool true)).put 18 (Value.bool true)).put 19 undef).put 20 undef).put 21 undef).put 22 undef).put 23 undef).put 24 (Value.bool true)).put 25 (Value.bool true)).put 25 (Value.bool true)).put 26 undef).put 27 undef).put 28 undef).put 29 undef).put 30 undef).put 31 undef).put 32 (Value.bool true)).put 33 (Value.bool true)).put 33 (Value.bool true)).put 34 undef).put 35 undef).put 36 undef).put 37 undef).put 38 undef).put 39 undef).put 40 undef).put 41 (Value.bool true)).put 5 (vint 0)) h4 (contQ prog J 60 h.length 48 [1, 1, 0, 1, 0] (codeOf f48) [] (RetQ prog [.tmp 4] h.length K))))
(aOff v1 5 fun v10 =>
aLoad false 1 v10 h4 fun v11 =>
aLenS v11 fun v12 =>
aOff v3 5 fun v13 =>
aLoad false 1 v13 h4 fun v14 =>
aLenS v14 fun v15 =>
aBin prog .neq 3 v12 v15 fun v16 =>
cnd v16
(retL h.length K [] [(Value.bool false)] h4)
(Sem J 60 h.length 48 (subC [1, 1, 0, 1, 0] (codeOf f48)) (((((((((((((((((((((((((((((((((((((((((((((RG.mk (regs [a0, a1]) []).put 2 v1).put 3 v3).put 4 (Value.bool false)).put 6 v5).put 7 v6).put 8 v7).put 9 v8).put 10 v9).put 11 v9).put 11 (Value.bool true)).put 12 undef).put 13 undef).put 14 undef).put 15 undef).put 16 undef).put 17 (Value.bool true)).put 18 (Value.bool true)).put 18 (Value.bool true)).put 19 undef).put 20 undef).put 21 undef).put 22 undef).put 23 undef).put 24 (Value.bool true)).put 25 (Value.bool true)).put 25 (Value.bool true)).put 26 undef).put 27 undef).put 28 undef).put 29 undef).put 30 undef).put 31 undef).put 32 (Value.bool true)).put 33 (Value.bool true)).put 33 (Value.bool false)).put 34 v10).put 35 v11).put 36 v12).put 37 v13).put 38 v14).put 39 v15).put 40 v16).put 41 v16).put 5 (vint 0)) h4 (contQ prog J 60 h.length 48 [1, 1, 0, 1, 0] (codeOf f48) [] (RetQ prog [.tmp 4] h.length K)))))
(aOff v1 3 fun v17 =>
aLoad false 1 v17 h4 fun v18 =>
aOff v3 3 fun v19 =>
aLoad false 1 v19 h4 fun v20 =>
Good prog J 47 [v18, v20] h4 fun v21 h22 =>
aUn .not v21 fun v23 =>
cnd v23
(cnd (Value.bool true)
(retL h.length K [] [(Value.bool false)] h22)
(Sem J 60 h.length 48 (subC [1, 1, 0, 1, 0] (codeOf f48)) (((((((((((((((((((((((((((((((((((((((((((((RG.mk (regs [a0, a1]) []).put 2 v1).put 3 v3).put 4 (Value.bool false)).put 6 v5).put 7 v6).put 8 v7).put 9 v8).put 10 v9).put 11 v9).put 11 (Value.bool true)).put 12 undef).put 13 undef).put 14 undef).put 15 undef).put 16 undef).put 17 (Value.bool true)).put 18 (Value.bool true)).put 18 (Value.bool true)).put 19 undef).put 20 undef).put 21 undef).put 22 undef).put 23 undef).put 24 (Value.bool true)).put 25 (Value.bool true)).put 25 (Value.bool false)).put 26 v17).put 27 v18).put 28 v19).put 29 v20).put 30 v21).put 31 v23).put 32 v23).put 33 v23).put 33 (Value.bool true)).put 34 undef).put 35 undef).put 36 undef).put 37 undef).put 38 undef).put 39 undef).put 40 undef).put 41 (Value.bool true)).put 5 (vint 0)) h22 (contQ prog J 60 h.length 48 [1, 1, 0, 1, 0] (codeOf f48) [] (RetQ prog [.tmp 4] h.length K))))
(aOff v1 5 fun v24 =>
aLoad false 1 v24 h22 fun v25 =>
aLenS v25 fun v26 =>
aOff v3 5 fun v27 =>
aLoad false 1 v27 h22 fun v28 =>
aLenS v28 fun v29 =>
aBin prog .neq 3 v26 v29 fun v30 =>
cnd v30
(retL h.length K [] [(Value.bool false)] h22)
(Sem J 60 h.length 48 (subC [1, 1, 0, 1, 0] (codeOf f48)) (((((((((((((((((((((((((((((((((((((((((((((RG.mk (regs [a0, a1]) []).put 2 v1).put 3 v3).put 4 (Value.bool false)).put 6 v5).put 7 v6).put 8 v7).put 9 v8).put 10 v9).put 11 v9).put 11 (Value.bool true)).put 12 undef).put 13 undef).put 14 undef).put 15 undef).put 16 undef).put 17 (Value.bool true)).put 18 (Value.bool true)).put 18 (Value.bool true)).put 19 undef).put 20 undef).put 21 undef).put 22 undef).put 23 undef).put 24 (Value.bool true)).put 25 (Value.bool true)).put 25 (Value.bool false)).put 26 v17).put 27 v18).put 28 v19).put 29 v20).put 30 v21).put 31 v23).put 32 v23).put 33 v23).put 33 (Value.bool false)).put 34 v24).put 35 v25).put 36 v26).put 37 v27).put 38 v28).put 39 v29).put 40 v30).put 41 v30).put 5 (vint 0)) h22 (contQ prog J 60 h.length 48 [1, 1, 0, 1, 0] (codeOf f48) [] (RetQ prog [.tmp 4] h.length K))))))
(aOff v1 4 fun v31 =>
aLoad false 1 v31 h4 fun v32 =>
aOff v3 4 fun v33 =>
aLoad false 1 v33 h4 fun v34 =>
aBin prog .neq 3 v32 v34 fun v35 =>
cnd v35
(cnd (Value.bool true)
(cnd (Value.bool true)
(retL h.length K [] [(Value.bool false)] h4)
(Sem J 60 h.length 48 (subC [1, 1, 0, 1, 0] (codeOf f48)) (((((((((((((((((((((((((((((((((((((((((((((RG.mk (regs [a0, a1]) []).put 2 v1).put 3 v3).put 4 (Value.bool false)).put 6 v5).put 7 v6).put 8 v7).put 9 v8).put 10 v9).put 11 v9).put 11 (Value.bool true)).put 12 undef).put 13 undef).put 14 undef).put 15 undef).put 16 undef).put 17 (Value.bool true)).put 18 (Value.bool true)).put 18 (Value.bool false)).put 19 v31).put 20 v32).put 21 v33).put 22 v34).put 23 v35).put 24 v35).put 25 v35).put 25 (Value.bool true)).put 26 undef).put 27 undef).put 28 undef).put 29 undef).put 30 undef).put 31 undef).put 32 (Value.bool true)).put 33 (Value.bool true)).put 33 (Value.bool true)).put 34 undef).put 35 undef).put 36 undef).put 37 undef).put 38 undef).put 39 undef).put 40 undef).put 41 (Value.bool true)).put 5 (vint 0)) h4 (contQ prog J 60 h.length 48 [1, 1, 0, 1, 0] (codeOf f48) [] (RetQ prog [.tmp 4] h.length K))))
(aOff v1 5 fun v36 =>
aLoad false 1 v36 h4 fun v37 =>
aLenS v37 fun v38 =>
aOff v3 5 fun v39 =>
aLoad false 1 v39 h4 fun v40 =>
aLenS v40 fun v41 =>
aBin prog .neq 3 v38 v41 fun v42 =>
cnd v42
(retL h.length K [] [(Value.bool false)] h4)
(Sem J 60 h.length 48 (subC [1, 1, 0, 1, 0] (codeOf f48)) (((((((((((((((((((((((((((((((((((((((((((((RG.mk (regs [a0, a1]) []).put 2 v1).put 3 v3).put 4 (Value.bool false)).put 6 v5).put 7 v6).put 8 v7).put 9 v8).put 10 v9).put 11 v9).put 11 (Value.bool true)).put 12 undef).put 13 undef).put 14 undef).put 15 undef).put 16 undef).put 17 (Value.bool true)).put 18 (Value.bool true)).put 18 (Value.bool false)).put 19 v31).put 20 v32).put 21 v33).put 22 v34).put 23 v35).put 24 v35).put 25 v35).put 25 (Value.bool true)).put 26 undef).put 27 undef).put 28 undef).put 29 undef).put 30 undef).put 31 undef).put 32 (Value.bool true)).put 33 (Value.bool true)).put 33 (Value.bool false)).put 34 v36).put 35 v37).put 36 v38).put 37 v39).put 38 v40).put 39 v41).put 40 v42).put 41 v42).put 5 (vint 0)) h4 (contQ prog J 60 h.length 48 [1, 1, 0, 1, 0] (codeOf f48) [] (RetQ prog [.tmp 4] h.length K)))))
(aOff v1 3 fun v43 =>
aLoad false 1 v43 h4 fun v44 =>
aOff v3 3 fun v45 =>
aLoad false 1 v45 h4 fun v46 =>
Good prog J 47 [v44, v46] h4 fun v47 h48 =>
aUn .not v47 fun v49 =>
cnd v49
(cnd (Value.bool true)
(retL h.length K [] [(Value.bool false)] h48)
(Sem J 60 h.length 48 (subC [1, 1, 0, 1, 0] (codeOf f48)) (((((((((((((((((((((((((((((((((((((((((((((RG.mk (regs [a0, a1]) []).put 2 v1).put 3 v3).put 4 (Value.bool false)).put 6 v5).put 7 v6).put 8 v7).put 9 v8).put 10 v9).put 11 v9).put 11 (Value.bool true)).put 12 undef).put 13 undef).put 14 undef).put 15 undef).put 16 undef).put 17 (Value.bool true)).put 18 (Value.bool true)).put 18 (Value.bool false)).put 19 v31).put 20 v32).put 21 v33).put 22 v34).put 23 v35).put 24 v35).put 25 v35).put 25 (Value.bool false)).put 26 v43).put 27 v44).put 28 v45).put 29 v46).put 30 v47).put 31 v49).put 32 v49).put 33 v49).put 33 (Value.bool true)).put 34 undef).put 35 undef).put 36 undef).put 37 undef).put 38 undef).put 39 undef).put 40 undef).put 41 (Value.bool true)).put 5 (vint 0)) h48 (contQ prog J 60 h.length 48 [1, 1, 0, 1, 0] (codeOf f48) [] (RetQ prog [.tmp 4] h.length K))))
(aOff v1 5 fun v50 =>
aLoad false 1 v50 h48 fun v51 =>
aLenS v51 fun v52 =>
aOff v3 5 fun v53 =>
aLoad false 1 v53 h48 fun v54 =>
aLenS v54 fun v55 =>
aBin prog .neq 3 v52 v55 fun v56 =>
cnd v56
(retL h.length K [] [(Value.bool false)] h48)
(Sem J 60 h.length 48 (subC [1, 1, 0, 1, 0] (codeOf f48)) (((((((((((((((((((((((((((((((((((((((((((((RG.mk (regs [a0, a1]) []).put 2 v1).put 3 v3).put 4 (Value.bool false)).put 6 v5).put 7 v6).put 8 v7).put 9 v8).put 10 v9).put 11 v9).put 11 (Value.bool true)).put 12 undef).put 13 undef).put 14 undef).put 15 undef).put 16 undef).put 17 (Value.bool true)).put 18 (Value.bool true)).put 18 (Value.bool false)).put 19 v31).put 20 v32).put 21 v33).put 22 v34).put 23 v35).put 24 v35).put 25 v35).put 25 (Value.bool false)).put 26 v43).put 27 v44).put 28 v45).put 29 v46).put 30 v47).put 31 v49).put 32 v49).put 33 v49).put 33 (Value.bool false)).put 34 v50).put 35 v51).put 36 v52).put 37 v53).put 38 v54).put 39 v55).put 40 v56).put 41 v56).put 5 (vint 0)) h48 (contQ prog J 60 h.length 48 [1, 1, 0, 1, 0] (codeOf f48) [] (RetQ prog [.tmp 4] h.length K)))))))
(aOff v1 1 fun v57 =>
aLoad true 2 v57 h4 fun v58 =>
aOff v3 1 fun v59 =>
aLoad true 2 v59 h4 fun v60 =>
aBin prog .neq 38 v58 v60 fun v61 =>
cnd v61
(cnd (Value.bool true)
(cnd (Value.bool true)
(cnd (Value.bool true)
(retL h.length K [] [(Value.bool false)] h4)
(Sem J 60 h.length 48 (subC [1, 1, 0, 1, 0] (codeOf f48)) (((((((((((((((((((((((((((((((((((((((((((((RG.mk (regs [a0, a1]) []).put 2 v1).put 3 v3).put 4 (Value.bool false)).put 6 v5).put 7 v6).put 8 v7).put 9 v8).put 10 v9).put 11 v9).put 11 (Value.bool false)).put 12 v57).put 13 v58).put 14 v59).put 15 v60).put 16 v61).put 17 v61).put 18 v61).put 18 (Value.bool true)).put 19 undef).put 20 undef).put 21 undef).put 22 undef).put 23 undef).put 24 (Value.bool true)).put 25 (Value.bool true)).put 25 (Value.bool true)).put 26 undef).put 27 undef).put 28 undef).put 29 undef).put 30 undef).put 31 undef).put 32 (Value.bool true)).put 33 (Value.bool true)).put 33 (Value.bool true)).put 34 undef).put 35 undef).put 36 undef).put 37 undef).put 38 undef).put 39 undef).put 40 undef).put 41 (Value.bool true)).put 5 (vint 0)) h4 (contQ prog J 60 h.length 48 [1, 1, 0, 1, 0] (codeOf f48) [] (RetQ prog [.tmp 4] h.length K))))
(aOff v1 5 fun v62 =>
aLoad false 1 v62 h4 fun v63 =>
aLenS v63 fun v64 =>
aOff v3 5 fun v65 =>
aLoad false 1 v65 h4 fun v66 =>
aLenS v66 fun v67 =>
aBin prog .neq 3 v64 v67 fun v68 =>
cnd v68
(retL h.length K [] [(Value.bool false)] h4)
(Sem J 60 h.length 48 (subC [1, 1, 0, 1, 0] (codeOf f48)) (((((((((((((((((((((((((((((((((((((((((((((RG.mk (regs [a0, a1]) []).put 2 v1).put 3 v3).put 4 (Value.bool false)).put 6 v5).put 7 v6).put 8 v7).put 9 v8).put 10 v9).put 11 v9).put 11 (Value.bool false)).put 12 v57).put 13 v58).put 14 v59).put 15 v60).put 16 v61).put 17 v61).put 18 v61).put 18 (Value.bool true)).put 19 undef).put 20 undef).put 21 undef).put 22 undef).put 23 undef).put 24 (Value.bool true)).put 25 (Value.bool true)).put 25 (Value.bool true)).put 26 undef).put 27 undef).put 28 undef).put 29 undef).put 30 undef).put 31 undef).put 32 (Value.bool true)).put 33 (Value.bool true)).put 33 (Value.bool false)).put 34 v62).put 35 v63).put 36 v64).put 37 v65).put 38 v66).put 39 v67).put 40 v68).put 41 v68).put 5 (vint 0)) h4 (contQ prog J 60 h.length 48 [1, 1, 0, 1, 0] (codeOf f48) [] (RetQ prog [.tmp 4] h.length K)))))
(aOff v1 3 fun v69 =>
aLoad false 1 v69 h4 fun v70 =>
aOff v3 3 fun v71 =>
aLoad false 1 v71 h4 fun v72 =>
Good prog J 47 [v70, v72] h4 fun v73 h74 =>
aUn .not v73 fun v75 =>
cnd v75
(cnd (Value.bool true)
(retL h.length K [] [(Value.bool false)] h74)
(Sem J 60 h.length 48 (subC [1, 1, 0, 1, 0] (codeOf f48)) (((((((((((((((((((((((((((((((((((((((((((((RG.mk (regs [a0, a1]) []).put 2 v1).put 3 v3).put 4 (Value.bool false)).put 6 v5).put 7 v6).put 8 v7).put 9 v8).put 10 v9).put 11 v9).put 11 (Value.bool false)).put 12 v57).put 13 v58).put 14 v59).put 15 v60).put 16 v61).put 17 v61).put 18 v61).put 18 (Value.bool true)).put 19 undef).put 20 undef).put 21 undef).put 22 undef).put 23 undef).put 24 (Value.bool true)).put 25 (Value.bool true)).put 25 (Value.bool false)).put 26 v69).put 27 v70).put 28 v71).put 29 v72).put 30 v73).put 31 v75).put 32 v75).put 33 v75).put 33 (Value.bool true)).put 34 undef).put 35 undef).put 36 undef).put 37 undef).put 38 undef).put 39 undef).put 40 undef).put 41 (Value.bool true)).put 5 (vint 0)) h74 (contQ prog J 60 h.length 48 [1, 1, 0, 1, 0] (codeOf f48) [] (RetQ prog [.tmp 4] h.length K))))
(aOff v1 5 fun v76 =>
aLoad false 1 v76 h74 fun v77 =>
aLenS v77 fun v78 =>
aOff v3 5 fun v79 =>
aLoad false 1 v79 h74 fun v80 =>
aLenS v80 fun v81 =>
aBin prog .neq 3 v78 v81 fun v82 =>
cnd v82
(retL h.length K [] [(Value.bool false)] h74)
(Sem J 60 h.length 48 (subC [1, 1, 0, 1, 0] (codeOf f48)) (((((((((((((((((((((((((((((((((((((((((((((RG.mk (regs [a0, a1]) []).put 2 v1).put 3 v3).put 4 (Value.bool false)).put 6 v5).put 7 v6).put 8 v7).put 9 v8).put 10 v9).put 11 v9).put 11 (Value.bool false)).put 12 v57).put 13 v58).put 14 v59).put 15 v60).put 16 v61).put 17 v61).put 18 v61).put 18 (Value.bool true)).put 19 undef).put 20 undef).put 21 undef).put 22 undef).put 23 undef).put 24 (Value.bool true)).put 25 (Value.bool true)).put 25 (Value.bool false)).put 26 v69).put 27 v70).put 28 v71).put 29 v72).put 30 v73).put 31 v75).put 32 v75).put 33 v75).put 33 (Value.bool false)).put 34 v76).put 35 v77).put 36 v78).put 37 v79).put 38 v80).put 39 v81).put 40 v82).put 41 v82).put 5 (vint 0)) h74 (contQ prog J 60 h.length 48 [1, 1, 0, 1, 0] (codeOf f48) [] (RetQ prog [.tmp 4] h.length K))))))
(aOff v1 4 fun v83 =>
aLoad false 1 v83 h4 fun v84 =>
aOff v3 4 fun v85 =>
aLoad false 1 v85 h4 fun v86 =>
aBin prog .neq 3 v84 v86 fun v87 =>
cnd v87
(cnd (Value.bool true)
(cnd (Value.bool true)
(retL h.length K [] [(Value.bool false)] h4)
(Sem J 60 h.length 48 (subC [1, 1, 0, 1, 0] (codeOf f48)) (((((((((((((((((((((((((((((((((((((((((((((RG.mk (regs [a0, a1]) []).put 2 v1).put 3 v3).put 4 (Value.bool false)).put 6 v5).put 7 v6).put 8 v7).put 9 v8).put 10 v9).put 11 v9).put 11 (Value.bool false)).put 12 v57).put 13 v58).put 14 v59).put 15 v60).put 16 v61).put 17 v61).put 18 v61).put 18 (Value.bool false)).put 19 v83).put 20 v84).put 21 v85).put 22 v86).put 23 v87).put 24 v87).put 25 v87).put 25 (Value.bool true)).put 26 undef).put 27 undef).put 28 undef).put 29 undef).put 30 undef).put 31 undef).put 32 (Value.bool true)).put 33 (Value.bool true)).put 33 (Value.bool true)).put 34 undef).put 35 undef).put 36 undef).put 37 undef).put 38 undef).put 39 undef).put 40 undef).put 41 (Value.bool true)).put 5 (vint 0)) h4 (contQ prog J 60 h.length 48 [1, 1, 0, 1, 0] (codeOf f48) [] (RetQ prog [.tmp 4] h.length K))))
(aOff v1 5 fun v88 =>
aLoad false 1 v88 h4 fun v89 =>
aLenS v89 fun v90 =>
aOff v3 5 fun v91 =>
aLoad false 1 v91 h4 fun v92 =>
aLenS v92 fun v93 =>
aBin prog .neq 3 v90 v93 fun v94 =>
cnd v94
(retL h.length K [] [(Value.bool false)] h4)
(Sem J 60 h.length 48 (subC [1, 1, 0, 1, 0] (codeOf f48)) (((((((((((((((((((((((((((((((((((((((((((((RG.mk (regs [a0, a1]) []).put 2 v1).put 3 v3).put 4 (Value.bool false)).put 6 v5).put 7 v6).put 8 v7).put 9 v8).put 10 v9).put 11 v9).put 11 (Value.bool false)).put 12 v57).put 13 v58).put 14 v59).put 15 v60).put 16 v61).put 17 v61).put 18 v61).put 18 (Value.bool false)).put 19 v83).put 20 v84).put 21 v85).put 22 v86).put 23 v87).put 24 v87).put 25 v87).put 25 (Value.bool true)).put 26 undef).put 27 undef).put 28 undef).put 29 undef).put 30 undef).put 31 undef).put 32 (Value.bool true)).put 33 (Value.bool true)).put 33 (Value.bool false)).put 34 v88).put 35 v89).put 36 v90).put 37 v91).put 38 v92).put 39 v93).put 40 v94).put 41 v94).put 5 (vint 0)) h4 (contQ prog J 60 h.length 48 [1, 1, 0, 1, 0] (codeOf f48) [] (RetQ prog [.tmp 4] h.length K)))))
(aOff v1 3 fun v95 =>
aLoad false 1 v95 h4 fun v96 =>
aOff v3 3 fun v97 =>
aLoad false 1 v97 h4 fun v98 =>
Good prog J 47 [v96, v98] h4 fun v99 h100 =>
aUn .not v99 fun v101 =>
cnd v101
(cnd (Value.bool true)
(retL h.length K [] [(Value.bool false)] h100)
(Sem J 60 h.length 48 (subC [1, 1, 0, 1, 0] (codeOf f48)) (((((((((((((((((((((((((((((((((((((((((((((RG.mk (regs [a0, a1]) []).put 2 v1).put 3 v3).put 4 (Value.bool false)).put 6 v5).put 7 v6).put 8 v7).put 9 v8).put 10 v9).put 11 v9).put 11 (Value.bool false)).put 12 v57).put 13 v58).put 14 v59).put 15 v60).put 16 v61).put 17 v61).put 18 v61).put 18 (Value.bool false)).put 19 v83).put 20 v84).put 21 v85).put 22 v86).put 23 v87).put 24 v87).put 25 v87).put 25 (Value.bool false)).put 26 v95).put 27 v96).put 28 v97).put 29 v98).put 30 v99).put 31 v101).put 32 v101).put 33 v101).put 33 (Value.bool true)).put 34 undef).put 35 undef).put 36 undef).put 37 undef).put 38 undef).put 39 undef).put 40 undef).put 41 (Value.bool true)).put 5 (vint 0)) h100 (contQ prog J 60 h.length 48 [1, 1, 0, 1, 0] (codeOf f48) [] (RetQ prog [.tmp 4] h.length K))))
(aOff v1 5 fun v102 =>
aLoad false 1 v102 h100 fun v103 =>
aLenS v103 fun v104 =>
aOff v3 5 fun v105 =>
aLoad false 1 v105 h100 fun v106 =>
aLenS v106 fun v107 =>
aBin prog .neq 3 v104 v107 fun v108 =>
cnd v108
(retL h.length K [] [(Value.bool false)] h100)
(Sem J 60 h.length 48 (subC [1, 1, 0, 1, 0] (codeOf f48)) (((((((((((((((((((((((((((((((((((((((((((((RG.mk (regs [a0, a1]) []).put 2 v1).put 3 v3).put 4 (Value.bool false)).put 6 v5).put 7 v6).put 8 v7).put 9 v8).put 10 v9).put 11 v9).put 11 (Value.bool false)).put 12 v57).put 13 v58).put 14 v59).put 15 v60).put 16 v61).put 17 v61).put 18 v61).put 18 (Value.bool false)).put 19 v83).put 20 v84).put 21 v85).put 22 v86).put 23 v87).put 24 v87).put 25 v87).put 25 (Value.bool false)).put 26 v95).put 27 v96).put 28 v97).put 29 v98).put 30 v99).put 31 v101).put 32 v101).put 33 v101).put 33 (Value.bool false)).put 34 v102).put 35 v103).put 36 v104).put 37 v105).put 38 v106).put 39 v107).put 40 v108).put 41 v108).put 5 (vint 0)) h100 (contQ prog J 60 h.length 48 [1, 1, 0, 1, 0] (codeOf f48) [] (RetQ prog [.tmp 4] h.length K)))))))) := by kernel_rfl
theorem g48 (hJ : Closed prog main J) {a0 a1 : Value} (hs : heapOk h → W prog J 60 h.length 48 (codeOf f48) (RG.mk (regs [a0, a1]) []) h (RetQ prog [.tmp 4] h.length K)) : Good prog J 48 [a0, a1] h K :=
  good_of_W hJ mixed at48 body48 (by kernel_rfl) (Nat.le_of_ble_eq_true rfl) hs
-- loop [1, 1, 0, 1, 0, 0]
theorem s48_1 {f : RG} {nx0 : RG → List AObj → Prop} : W prog J 60 n0 48 (subC [1, 1, 0, 1, 0, 0] (codeOf f48)) f h (thenK nx0 (contQ prog J 60 n0 48 [1, 1, 0, 1, 0] (codeOf f48) [] (RetQ prog [.tmp 4] n0 K))) =
(aOff (f.r 2) 5 fun v1 =>
aLoad false 1 v1 h fun v2 =>
aLenS v2 fun v3 =>
aBin prog .lss 3 (f.r 5) v3 fun v4 =>
cnd v4
(aOff (f.r 2) 5 fun v5 =>
aLoad false 1 v5 h fun v6 =>
aIdx 4 v6 (f.r 5) fun v7 =>
aLoad true 4 v7 h fun v8 =>
aOff (f.r 3) 5 fun v9 =>
aLoad false 1 v9 h fun v10 =>
aIdx 4 v10 (f.r 5) fun v11 =>
aLoad true 4 v11 h fun v12 =>
aBin prog .neq 61 v8 v12 fun v13 =>
cnd v13
(retL n0 K f.ds [(Value.bool false)] h)
(aBin prog .add 3 (f.r 5) (vint 1) fun v14 =>
nx0 (((((((((((((((((((f.put 42 (f.r 5)).put 43 v1).put 44 v2).put 45 v3).put 46 v4).put 49 v5).put 50 v6).put 51 (f.r 5)).put 52 v7).put 53 v8).put 54 v9).put 55 v10).put 56 (f.r 5)).put 57 v11).put 58 v12).put 59 v13).put 47 (f.r 5)).put 48 v14).put 5 v14) h))
(retL n0 K f.ds [(Value.bool true)] h)) := by kernel_rfl
theorem l48_1 (hJ : Closed prog main J) {S : Type} (μ : S → Nat) (I : S → RG → List AObj → Prop) (hI : ∀ s f h, I s f h → heapOk h → n0 ≤ h.length → W prog J 60 n0 48 (subC [1, 1, 0, 1, 0, 0] (codeOf f48)) f h (thenK (Nx n0 μ I s) (contQ prog J 60 n0 48 [1, 1, 0, 1, 0] (codeOf f48) [] (RetQ prog [.tmp 4] n0 K))))
  {s : S} {f : RG} (hi : Gets n0 I s f h) : Sem J 60 n0 48 (subC [1, 1, 0, 1, 0] (codeOf f48)) f h (contQ prog J 60 n0 48 [1, 1, 0, 1, 0] (codeOf f48) [] (RetQ prog [.tmp 4] n0 K)) :=
  loop_rule hJ mixed (b := subC [1, 1, 0, 1, 0, 0] (codeOf f48)) (by kernel_rfl) μ I hI hi
theorem at42 : prog.funcs[42]? = some f42 := by kernel_rfl
theorem body42 : f42.body = some (codeOf f42) := by kernel_rfl
theorem e42 {a0 a1 : Value} : W prog J 39 h.length 42 (codeOf f42) (RG.mk (regs [a0, a1]) []) h (RetQ prog [.cell 4 42, .tmp 5] h.length K) =
(aBox a0 h fun v1 h2 =>
aBox a1 h2 fun v3 h4 =>
aAlloc [(vint 0), (vint 0), (vint 0), (Value.slice none 0 0), (vint 0), (Value.slice none 0 0)] h4 fun v5 h6 =>
aLoad true 6 v1 h6 fun v7 =>
Good prog J 51 [v7] h6 fun v8 h9 =>
aBin prog .neq 32 v8 (vint 0) fun v10 =>
cnd v10
(aFill [(vint 0), (vint 0), (vint 0), (Value.slice none 0 0), (vint 0), (Value.slice none 0 0)] [] fun c11 =>
aStore 6 v5 (Value.agg ⟨c11⟩) h9 fun h12 =>
RetQ prog [.cell 4 42, .tmp 5] h.length K .ret (((((((((((((RG.mk (regs [a0, a1]) []).put 2 v1).put 3 v3).put 4 v5).put 5 (vint 0)).put 8 v7).put 9 v8).put 6 v8).put 10 v8).put 11 v10).put 12 (Value.agg ⟨c11⟩)).put 13 v8).put 5 v8) h12)
(aOff v1 5 fun v13 =>
aLoad false 1 v13 h9 fun v14 =>
aLenS v14 fun v15 =>
aBin prog .geq 3 v15 (vint 7) fun v16 =>
cnd v16
(aFill [(vint 0), (vint 0), (vint 0), (Value.slice none 0 0), (vint 0), (Value.slice none 0 0)] [] fun c17 =>
aStore 6 v5 (Value.agg ⟨c17⟩) h9 fun h18 =>
RetQ prog [.cell 4 42, .tmp 5] h.length K .ret ((((((((((((((((RG.mk (regs [a0, a1]) []).put 2 v1).put 3 v3).put 4 v5).put 5 (vint 0)).put 8 v7).put 9 v8).put 6 v8).put 10 v8).put 11 v10).put 14 v13).put 15 v14).put 16 v15).put 17 v16).put 18 (Value.agg ⟨c17⟩)).put 5 (vint 6)) h18)
(aLoad true 4 v3 h9 fun v19 =>
aOff v1 0 fun v20 =>
aLoad false 1 v20 h9 fun v21 =>
Good prog J 77 [v19, v21] h9 fun v22 h23 =>
aBin prog .neq 32 v22 (vint 0) fun v24 =>
cnd v24
(aFill [(vint 0), (vint 0), (vint 0), (Value.slice none 0 0), (vint 0), (Value.slice none 0 0)] [] fun c25 =>
aStore 6 v5 (Value.agg ⟨c25⟩) h23 fun h26 =>
RetQ prog [.cell 4 42, .tmp 5] h.length K .ret ((((((((((((((((((((((((RG.mk (regs [a0, a1]) []).put 2 v1).put 3 v3).put 4 v5).put 5 (vint 0)).put 8 v7).put 9 v8).put 6 v8).put 10 v8).put 11 v10).put 14 v13).put 15 v14).put 16 v15).put 17 v16).put 19 v19).put 20 v20).put 21 v21).put 22 v22).put 7 v22).put 23 v22).put 24 v24).put 25 (Value.agg ⟨c25⟩)).put 26 v22).put 5 v22) h26)
((∃ B, aOff v1 3 fun v27 =>
aLoad false 1 v27 h23 fun v28 =>
RdOk (some B) (ptrBlk v27) ∧ (aOff v1 5 fun v29 =>
aLoad false 1 v29 h23 fun v30 =>
RdOk (some B) (ptrBlk v29) ∧ (aLoad true 4 v3 h23 fun v31 =>
RdOk (some B) (ptrBlk v3) ∧ ((Good prog J 79 [v28] h23 fun v32 h33 =>
SameB (some B) h23 h33 ∧ (aOff v1 3 fun v34 =>
(Good prog J 80 [v30] h33 fun v35 h36 =>
SameB (some B) h23 h36 ∧ (((1 * 4 ≤ 16777216 ∧ 1 ≤ 16777216 ∧ List.length [(vint 0), (vint 0), (vint 0), (vint 0)] = 4) ∧ aFill (zrep [(vint 0), (vint 0), (vint 0), (vint 0)] 1) [(0, 4, v31)] fun c37 =>
aNewS 1 c37 h36 fun v38 h39 =>
SameB (some B) h23 h39 ∧ (((List.length [(vint 0), (vint 0), (vint 0), (vint 0)] = 4 ∧ 0 < 4 ∧ 0 < 32 ∧ 32 ≤ 1024) ∧ aApp 4 v35 v38 h39 fun v40 h41 =>
SameB (some B) h23 h41 ∧ (aStore 1 v34 v32 h41 fun h42 =>
SameB (some B) h23 h42 ∧ (aOff v1 5 fun v43 =>
aStore 1 v43 v40 h42 fun h44 =>
aLoad true 6 v1 h44 fun v45 =>
aStore 6 v5 v45 h44 fun h46 =>
RetQ prog [.cell 4 42, .tmp 5] h.length K .ret ((((((((((((((((((((((((((((((((((RG.mk (regs [a0, a1]) []).put 2 v1).put 3 v3).put 4 v5).put 5 (vint 0)).put 8 v7).put 9 v8).put 6 v8).put 10 v8).put 11 v10).put 14 v13).put 15 v14).put 16 v15).put 17 v16).put 19 v19).put 20 v20).put 21 v21).put 22 v22).put 7 v22).put 23 v22).put 24 v24).put 27 v27).put 28 v28).put 30 v29).put 31 v30).put 33 v31).put 29 v32).put 36 v34).put 32 v35).put 34 v38).put 35 v40).put 37 v43).put 38 v45).put 5 (vint 0)) h46))))))) ∧ (((1 * 4 ≤ 16777216 ∧ 1 ≤ 16777216 ∧ List.length [(vint 0), (vint 0), (vint 0), (vint 0)] = 4) ∧ aFill (zrep [(vint 0), (vint 0), (vint 0), (vint 0)] 1) [(0, 4, v31)] fun c47 =>
aNewS 1 c47 h33 fun v48 h49 =>
SameB (some B) h23 h49 ∧ (Good prog J 80 [v30] h49 fun v50 h51 =>
SameB (some B) h23 h51 ∧ (((List.length [(vint 0), (vint 0), (vint 0), (vint 0)] = 4 ∧ 0 < 4 ∧ 0 < 32 ∧ 32 ≤ 1024) ∧ aApp 4 v50 v48 h51 fun v52 h53 =>
SameB (some B) h23 h53 ∧ (aStore 1 v34 v32 h53 fun h54 =>
SameB (some B) h23 h54 ∧ (aOff v1 5 fun v55 =>
aStore 1 v55 v52 h54 fun h56 =>
aLoad true 6 v1 h56 fun v57 =>
aStore 6 v5 v57 h56 fun h58 =>
RetQ prog [.cell 4 42, .tmp 5] h.length K .ret ((((((((((((((((((((((((((((((((((RG.mk (regs [a0, a1]) []).put 2 v1).put 3 v3).put 4 v5).put 5 (vint 0)).put 8 v7).put 9 v8).put 6 v8).put 10 v8).put 11 v10).put 14 v13).put 15 v14).put 16 v15).put 17 v16).put 19 v19).put 20 v20).put 21 v21).put 22 v22).put 7 v22).put 23 v22).put 24 v24).put 27 v27).put 28 v28).put 30 v29).put 31 v30).put 33 v31).put 29 v32).put 36 v34).put 34 v48).put 32 v50).put 35 v52).put 37 v55).put 38 v57).put 5 (vint 0)) h58))))))))) ∧ (((1 * 4 ≤ 16777216 ∧ 1 ≤ 16777216 ∧ List.length [(vint 0), (vint 0), (vint 0), (vint 0)] = 4) ∧ aFill (zrep [(vint 0), (vint 0), (vint 0), (vint 0)] 1) [(0, 4, v31)] fun c59 =>
aNewS 1 c59 h23 fun v60 h61 =>
SameB (some B) h23 h61 ∧ (Good prog J 79 [v28] h61 fun v62 h63 =>
SameB (some B) h23 h63 ∧ (aOff v1 3 fun v64 =>
Good prog J 80 [v30] h63 fun v65 h66 =>
SameB (some B) h23 h66 ∧ (((List.length [(vint 0), (vint 0), (vint 0), (vint 0)] = 4 ∧ 0 < 4 ∧ 0 < 32 ∧ 32 ≤ 1024) ∧ aApp 4 v65 v60 h66 fun v67 h68 =>
SameB (some B) h23 h68 ∧ (aStore 1 v64 v62 h68 fun h69 =>
SameB (some B) h23 h69 ∧ (aOff v1 5 fun v70 =>
aStore 1 v70 v67 h69 fun h71 =>
aLoad true 6 v1 h71 fun v72 =>
aStore 6 v5 v72 h71 fun h73 =>
RetQ prog [.cell 4 42, .tmp 5] h.length K .ret ((((((((((((((((((((((((((((((((((RG.mk (regs [a0, a1]) []).put 2 v1).put 3 v3).put 4 v5).put 5 (vint 0)).put 8 v7).put 9 v8).put 6 v8).put 10 v8).put 11 v10).put 14 v13).put 15 v14).put 16 v15).put 17 v16).put 19 v19).put 20 v20).put 21 v21).put 22 v22).put 7 v22).put 23 v22).put 24 v24).put 27 v27).put 28 v28).put 30 v29).put 31 v30).put 33 v31).put 34 v60).put 29 v62).put 36 v64).put 32 v65).put 35 v67).put 37 v70).put 38 v72).put 5 (vint 0)) h73)))))))))))))))) := by kernel_rfl
theorem g42 (hJ : Closed prog main J) {a0 a1 : Value} (hs : heapOk h → W prog J 39 h.length 42 (codeOf f42) (RG.mk (regs [a0, a1]) []) h (RetQ prog [.cell 4 42, .tmp 5] h.length K)) : Good prog J 42 [a0, a1] h K :=
  good_of_W hJ mixed at42 body42 (by kernel_rfl) (Nat.le_of_ble_eq_true rfl) hs
theorem at79 : prog.funcs[79]? = some f79 := by kernel_rfl
theorem body79 : f79.body = some (codeOf f79) := by kernel_rfl
theorem e79 {a0 : Value} : W prog J 8 h.length 79 (codeOf f79) (RG.mk (regs [a0]) []) h (RetQ prog [.tmp 2] h.length K) =
(aBin prog .eql 39 a0 (Value.slice none 0 0) fun v1 =>
cnd v1
(retL h.length K [] [(Value.slice none 0 0)] h)
(((0 * 2 ≤ 16777216 ∧ 0 ≤ 16777216 ∧ List.length [(vint 0), (vint 0)] = 2) ∧ aFill (zrep [(vint 0), (vint 0)] 0) [] fun c2 =>
aNewS 0 c2 h fun v3 h4 =>
((List.length [(vint 0), (vint 0)] = 2 ∧ 0 < 2 ∧ 0 < 16 ∧ 16 ≤ 1024) ∧ aApp 2 v3 a0 h4 fun v5 h6 =>
retL h.length K [] [v5] h6)))) := by kernel_rfl
theorem g79 (hJ : Closed prog main J) {a0 : Value} (hs : heapOk h → W prog J 8 h.length 79 (codeOf f79) (RG.mk (regs [a0]) []) h (RetQ prog [.tmp 2] h.length K)) : Good prog J 79 [a0] h K :=
  good_of_W hJ mixed at79 body79 (by kernel_rfl) (Nat.le_of_ble_eq_true rfl) hs
theorem at80 : prog.funcs[80]? = some f80 := by kernel_rfl
theorem body80 : f80.body = some (codeOf f80) := by kernel_rfl
theorem e80 {a0 : Value} : W prog J 8 h.length 80 (codeOf f80) (RG.mk (regs [a0]) []) h (RetQ prog [.tmp 2] h.length K) =
(aBin prog .eql 40 a0 (Value.slice none 0 0) fun v1 =>
cnd v1
(retL h.length K [] [(Value.slice none 0 0)] h)
(((0 * 4 ≤ 16777216 ∧ 0 ≤ 16777216 ∧ List.length [(vint 0), (vint 0), (vint 0), (vint 0)] = 4) ∧ aFill (zrep [(vint 0), (vint 0), (vint 0), (vint 0)] 0) [] fun c2 =>
aNewS 0 c2 h fun v3 h4 =>
((List.length [(vint 0), (vint 0), (vint 0), (vint 0)] = 4 ∧ 0 < 4 ∧ 0 < 32 ∧ 32 ≤ 1024) ∧ aApp 4 v3 a0 h4 fun v5 h6 =>
retL h.length K [] [v5] h6)))) := by kernel_rfl
theorem g80 (hJ : Closed prog main J) {a0 : Value} (hs : heapOk h → W prog J 8 h.length 80 (codeOf f80) (RG.mk (regs [a0]) []) h (RetQ prog [.tmp 2] h.length K)) : Good prog J 80 [a0] h K :=
  good_of_W hJ mixed at80 body80 (by kernel_rfl) (Nat.le_of_ble_eq_true rfl) hs
end
end Go.Proofs.Ytdgpacdknpahnaa

/- Printed by program: the forms to which the bodies of some functions come down. No conditions. -/
namespace Go.Proofs.Ytdgpacdknpahnaa
open Go.Conc Go.Proofs.Try
set_option maxRecDepth 100000
set_option linter.unusedVariables false
section
variable {main : Bool} {J : JT} {n0 : Nat} {h : List AObj} {K : Value → List AObj → Prop}
theorem at39 : prog.funcs[39]? = some f39 := by kernel_rfl
theorem body39 : f39.body = some (codeOf f39) := by kernel_rfl
theorem e39 {a0 a1 : Value} : W prog J 17 h.length 39 (codeOf f39) (RG.mk (regs [a0, a1]) []) h (RetQ prog [.tmp 4] h.length K) =
(aBox a0 h fun v1 h2 =>
aBox a1 h2 fun v3 h4 =>
aOff v1 0 fun v5 =>
aLoad false 1 v5 h4 fun v6 =>
aOff v3 0 fun v7 =>
aLoad false 1 v7 h4 fun v8 =>
aBin prog .leq 3 v6 v8 fun v9 =>
cnd v9
(aOff v3 1 fun v10 =>
aLoad false 1 v10 h4 fun v11 =>
aOff v1 1 fun v12 =>
aLoad false 1 v12 h4 fun v13 =>
aBin prog .leq 3 v11 v13 fun v14 =>
retL h.length K [] [v14] h4)
(retL h.length K [] [(Value.bool false)] h4)) := by kernel_rfl
theorem g39 (hJ : Closed prog main J) {a0 a1 : Value} (hs : heapOk h → W prog J 17 h.length 39 (codeOf f39) (RG.mk (regs [a0, a1]) []) h (RetQ prog [.tmp 4] h.length K)) : Good prog J 39 [a0, a1] h K :=
  good_of_W hJ mixed at39 body39 (by kernel_rfl) (Nat.le_of_ble_eq_true rfl) hs
end
end Go.Proofs.Ytdgpacdknpahnaa

/- Printed by program: the forms to which the bodies of some functions come down. No conditions. -/
namespace Go.Proofs.Ytdgpacdknpahnaa
open Go.Conc Go.Proofs.Try
set_option maxRecDepth 100000
set_option linter.unusedVariables false
section
variable {main : Bool} {J : JT} {n0 : Nat} {h : List AObj} {K : Value → List AObj → Prop}
theorem at71 : prog.funcs[71]? = some f71 := by kernel_rfl
theorem body71 : f71.body = some (codeOf f71) := by kernel_rfl
theorem e71 {a0 : Value} : W prog J 8 h.length 71 (codeOf f71) (RG.mk (regs [a0]) []) h (RetQ prog [.tmp 2, .tmp 3] h.length K) =
(aBox a0 h fun v1 h2 =>
(∃ B, aLoad true 6 v1 h2 fun v3 =>
RdOk (some B) (ptrBlk v1) ∧ (aLoad true 6 v1 h2 fun v4 =>
RdOk (some B) (ptrBlk v1) ∧ (Good prog J 95 [v3] h2 fun v5 h6 =>
SameB (some B) h2 h6 ∧ (Good prog J 51 [v4] h6 fun v7 h8 =>
SameB (some B) h2 h8 ∧ (retL h.length K [] [v5, v7] h8)))))) := by kernel_rfl
theorem g71 (hJ : Closed prog main J) {a0 : Value} (hs : heapOk h → W prog J 8 h.length 71 (codeOf f71) (RG.mk (regs [a0]) []) h (RetQ prog [.tmp 2, .tmp 3] h.length K)) : Good prog J 71 [a0] h K :=
  good_of_W hJ mixed at71 body71 (by kernel_rfl) (Nat.le_of_ble_eq_true rfl) hs
theorem at95 : prog.funcs[95]? = some f95 := by kernel_rfl
theorem body95 : f95.body = some (codeOf f95) := by kernel_rfl
theorem e95 {a0 : Value} : W prog J 7 h.length 95 (codeOf f95) (RG.mk (regs [a0]) []) h (RetQ prog [.tmp 2] h.length K) =
(aBox a0 h fun v1 h2 =>
aLoad true 6 v1 h2 fun v3 =>
aNewM h2 fun v4 h5 =>
aFill [(vint 0), (vint 0), (vint 0), (Value.slice none 0 0), (vint 0), (Value.slice none 0 0), (Value.int .u64 0), (Value.map none)] [(0, 6, v3), (7, 1, v4)] fun c6 =>
aBox (Value.agg ⟨c6⟩) h5 fun v7 h8 =>
retL h.length K [] [v7] h8) := by kernel_rfl
theorem g95 (hJ : Closed prog main J) {a0 : Value} (hs : heapOk h → W prog J 7 h.length 95 (codeOf f95) (RG.mk (regs [a0]) []) h (RetQ prog [.tmp 2] h.length K)) : Good prog J 95 [a0] h K :=
  good_of_W hJ mixed at95 body95 (by kernel_rfl) (Nat.le_of_ble_eq_true rfl) hs
theorem at72 : prog.funcs[72]? = some f72 := by kernel_rfl
theorem body72 : f72.body = some (codeOf f72) := by kernel_rfl
theorem e72 {a0 : Value} : W prog J 60 h.length 72 (codeOf f72) (RG.mk (regs [a0]) []) h (RetQ prog [.tmp 2, .tmp 3] h.length K) =
(Good prog J 74 [a0, (Value.int .u64 0)] h fun v1 h2 =>
aUn .not v1 fun v3 =>
cnd v3
(retL h.length K [] [(Value.slice none 0 0), (Value.bool false)] h2)
(aNil a0 fun v4 =>
aOff v4 0 fun v5 =>
aOff v5 0 fun v6 =>
aLoad false 1 v6 h2 fun v7 =>
((List.length [(vint 0), (vint 0)] = 2 ∧ 16 ≤ 1024) ∧ aMkS [(vint 0), (vint 0)] v7 v7 h2 fun v8 h9 =>
aAlloc [(Value.slice none 0 0)] h9 fun v10 h11 =>
aStore 1 v10 v8 h11 fun h12 =>
Good prog J 97 [a0] h12 fun v13 h14 =>
Good prog J 96 [a0, v13] h14 fun v15 h16 =>
Sem J 60 h.length 72 (subC [1, 1, 1, 0, 1, 0] (codeOf f72)) (((((((((((((((((RG.mk (regs [a0]) []).put 2 (Value.slice none 0 0)).put 3 (Value.bool false)).put 10 a0).put 11 v1).put 12 v3).put 13 a0).put 14 v4).put 15 v5).put 16 v6).put 17 v7).put 18 v8).put 4 v10).put 19 a0).put 20 a0).put 21 v13).put 22 v15) h16 (contQ prog J 60 h.length 72 [1, 1, 1, 0, 1, 0] (codeOf f72) [] (RetQ prog [.tmp 2, .tmp 3] h.length K))))) := by kernel_rfl
theorem g72 (hJ : Closed prog main J) {a0 : Value} (hs : heapOk h → W prog J 60 h.length 72 (codeOf f72) (RG.mk (regs [a0]) []) h (RetQ prog [.tmp 2, .tmp 3] h.length K)) : Good prog J 72 [a0] h K :=
  good_of_W hJ mixed at72 body72 (by kernel_rfl) (Nat.le_of_ble_eq_true rfl) hs
-- range [1, 1, 1, 0, 1, 0]
theorem a72_1 {f : RG} {fr : FuncId} {Q : QT} : W prog J 60 n0 fr (subC [1, 1, 1, 0, 1, 0, 0] (codeOf f72)) f h Q =
(aAlloc [(vint 0), (vint 0)] h fun v1 h2 =>
aStore 2 v1 (f.r 24) h2 fun h3 =>
Q .normal ((f.put 5 (f.r 23)).put 6 v1) h3) := by kernel_rfl
theorem b72_1 {f : RG} {fr : FuncId} {Q : QT} : W prog J 60 n0 fr (subC [1, 1, 1, 0, 1, 0, 1] (codeOf f72)) f h Q =
(aLoad false 1 (f.r 4) h fun v1 =>
aLoad true 2 (f.r 6) h fun v2 =>
aIdx 2 v1 (f.r 5) fun v3 =>
aStore 2 v3 v2 h fun h4 =>
Q .normal ((((f.put 25 v1).put 26 (f.r 5)).put 27 v2).put 28 v3) h4) := by kernel_rfl
theorem c72_1 {f : RG} : (contQ prog J 60 n0 72 [1, 1, 1, 0, 1, 0] (codeOf f72) [] (RetQ prog [.tmp 2, .tmp 3] n0 K)) .normal f h =
(aNil (f.r 0) fun v1 =>
aOff v1 0 fun v2 =>
aOff v2 0 fun v3 =>
aLoad false 1 v3 h fun v4 =>
aBin prog .sub 3 v4 (vint 2) fun v5 =>
Sem J 60 n0 72 (subC [1, 1, 1, 1, 1, 0, 1, 0] (codeOf f72)) (((((((((f.put 7 (Value.func (.func 98) #[] #[])).put 8 (Value.func (.func 99) #[] #[])).put 29 (f.r 0)).put 30 v1).put 31 v2).put 32 v3).put 33 v4).put 34 v5).put 9 v5) h (contQ prog J 60 n0 72 [1, 1, 1, 1, 1, 0, 1, 0] (codeOf f72) [] (RetQ prog [.tmp 2, .tmp 3] n0 K))) := by kernel_rfl
theorem l72_1 (hJ : Closed prog main J) {f : RG} {g : FuncId} {first cap : List Value} (hx : ev f.r ((Go.Operand.tmp 22)) = .func (.func g) ⟨first⟩ ⟨cap⟩) (hg : g < prog.funcs.size)
  (hs : Good prog J g (first ++ [.func (.yield (h.length + 1)) ⟨[]⟩ ⟨[]⟩] ++ cap) (h ++ [.deferred] ++ [.loop .ready none 72 f.r 60 #[23, 24] (subC [1, 1, 1, 0, 1, 0, 0] (codeOf f72)) (subC [1, 1, 1, 0, 1, 0, 1] (codeOf f72)) h.length]) (endQ h.length f (contQ prog J 60 n0 72 [1, 1, 1, 0, 1, 0] (codeOf f72) [] (RetQ prog [.tmp 2, .tmp 3] n0 K)))) : Sem J 60 n0 72 (subC [1, 1, 1, 0, 1, 0] (codeOf f72)) f h (contQ prog J 60 n0 72 [1, 1, 1, 0, 1, 0] (codeOf f72) [] (RetQ prog [.tmp 2, .tmp 3] n0 K)) :=
  Sem_range hJ (by decide) (fop := (Go.Operand.tmp 22)) (params := #[23, 24]) (assign := subC [1, 1, 1, 0, 1, 0, 0] (codeOf f72)) (body := subC [1, 1, 1, 0, 1, 0, 1] (codeOf f72)) hx hg hs
-- loop [1, 1, 1, 1, 1, 0, 1, 0, 0]
theorem s72_2 {f : RG} {nx0 : RG → List AObj → Prop} : W prog J 60 n0 72 (subC [1, 1, 1, 1, 1, 0, 1, 0, 0] (codeOf f72)) f h (thenK nx0 (contQ prog J 60 n0 72 [1, 1, 1, 1, 1, 0, 1, 0] (codeOf f72) [] (RetQ prog [.tmp 2, .tmp 3] n0 K))) =
(aBin prog .geq 3 (f.r 9) (vint 0) fun v1 =>
cnd v1
((∃ B, aLoad false 1 (f.r 4) h fun v2 =>
RdOk (some B) (ptrBlk (f.r 4)) ∧ (aLoad false 1 (f.r 4) h fun v3 =>
RdOk (some B) (ptrBlk (f.r 4)) ∧ (aIdx 2 v3 (f.r 9) fun v4 =>
aLoad true 2 v4 h fun v5 =>
RdOk (some B) (ptrBlk v4) ∧ (aLoad false 1 (f.r 4) h fun v6 =>
RdOk (some B) (ptrBlk (f.r 4)) ∧ (aBin prog .add 3 (f.r 9) (vint 1) fun v7 =>
aIdx 2 v6 v7 fun v8 =>
aLoad true 2 v8 h fun v9 =>
RdOk (some B) (ptrBlk v8) ∧ (Good prog J 101 [(f.r 0), (f.r 9)] h fun v10 h11 =>
SameB (some B) h h11 ∧ (callV prog (Good prog J) (f.r 7) [v10] h11 fun v12 h13 =>
SameB (some B) h h13 ∧ (Good prog J 100 [v9, v12] h13 fun v14 h15 =>
SameB (some B) h h15 ∧ (callV prog (Good prog J) (f.r 8) [v5, v14] h15 fun v16 h17 =>
SameB (some B) h h17 ∧ (aIdx 2 v2 (f.r 9) fun v18 =>
aStore 2 v18 v16 h17 fun h19 =>
aBin prog .sub 3 (f.r 9) (vint 1) fun v20 =>
nx0 (((((((((((((((((((((((((f.put 35 (f.r 9)).put 36 v1).put 39 v2).put 40 (f.r 9)).put 41 (f.r 8)).put 42 v3).put 43 (f.r 9)).put 44 v4).put 45 v5).put 46 v6).put 47 (f.r 9)).put 48 v7).put 49 v8).put 50 v9).put 51 (f.r 7)).put 52 (f.r 0)).put 53 (f.r 9)).put 54 v10).put 55 v12).put 56 v14).put 57 v16).put 58 v18).put 37 (f.r 9)).put 38 v20).put 9 v20) h19)))))))))))
(aLoad false 1 (f.r 4) h fun v21 =>
retL n0 K f.ds [v21, (Value.bool true)] h)) := by kernel_rfl
theorem l72_2 (hJ : Closed prog main J) {S : Type} (μ : S → Nat) (I : S → RG → List AObj → Prop) (hI : ∀ s f h, I s f h → heapOk h → n0 ≤ h.length → W prog J 60 n0 72 (subC [1, 1, 1, 1, 1, 0, 1, 0, 0] (codeOf f72)) f h (thenK (Nx n0 μ I s) (contQ prog J 60 n0 72 [1, 1, 1, 1, 1, 0, 1, 0] (codeOf f72) [] (RetQ prog [.tmp 2, .tmp 3] n0 K))))
  {s : S} {f : RG} (hi : Gets n0 I s f h) : Sem J 60 n0 72 (subC [1, 1, 1, 1, 1, 0, 1, 0] (codeOf f72)) f h (contQ prog J 60 n0 72 [1, 1, 1, 1, 1, 0, 1, 0] (codeOf f72) [] (RetQ prog [.tmp 2, .tmp 3] n0 K)) :=
  loop_rule hJ mixed (b := subC [1, 1, 1, 1, 1, 0, 1, 0, 0] (codeOf f72)) (by kernel_rfl) μ I hI hi
theorem at30 : prog.funcs[30]? = some f30 := by kernel_rfl
theorem body30 : f30.body = some (codeOf f30) := by kernel_rfl
theorem e30 {a0 : Value} : W prog J 38 h.length 30 (codeOf f30) (RG.mk (regs [a0]) []) h (RetQ prog [.tmp 2, .tmp 3] h.length K) =
(aBox a0 h fun v1 h2 =>
aLoad true 6 v1 h2 fun v3 =>
Good prog J 71 [v3] h2 fun v4 h5 =>
aExt v4 0 fun v6 =>
aExt v4 1 fun v7 =>
aBin prog .neq 32 v7 (vint 0) fun v8 =>
cnd v8
(retL h.length K [] [(Value.slice none 0 0), v7] h5)
(Good prog J 72 [v6] h5 fun v9 h10 =>
aExt v9 0 fun v11 =>
aExt v9 1 fun v12 =>
aUn .not v12 fun v13 =>
cnd v13
(retL h.length K [] [(Value.slice none 0 0), (vint 11)] h10)
(aLenS v11 fun v14 =>
Sem J 38 h.length 30 (subC [1, 1, 1, 1, 1, 1, 0, 1, 0] (codeOf f30)) ((((((((((((((((((((((((((RG.mk (regs [a0]) []).put 1 v1).put 2 (Value.slice none 0 0)).put 3 (vint 0)).put 12 v3).put 13 v4).put 11 v4).put 14 v6).put 15 v7).put 4 v6).put 5 v7).put 16 v7).put 17 v8).put 20 v6).put 21 v9).put 19 v9).put 22 v11).put 23 v12).put 6 v11).put 7 v12).put 24 v12).put 25 v13).put 8 (Value.slice none 0 0)).put 26 v11).put 27 v14).put 28 (vint 0)) h10 (contQ prog J 38 h.length 30 [1, 1, 1, 1, 1, 1, 0, 1, 0] (codeOf f30) [] (RetQ prog [.tmp 2, .tmp 3] h.length K))))) := by kernel_rfl
theorem g30 (hJ : Closed prog main J) {a0 : Value} (hs : heapOk h → W prog J 38 h.length 30 (codeOf f30) (RG.mk (regs [a0]) []) h (RetQ prog [.tmp 2, .tmp 3] h.length K)) : Good prog J 30 [a0] h K :=
  good_of_W hJ mixed at30 body30 (by kernel_rfl) (Nat.le_of_ble_eq_true rfl) hs
-- loop [1, 1, 1, 1, 1, 1, 0, 1, 0, 0]
theorem s30_1 {f : RG} {nx0 : RG → List AObj → Prop} : W prog J 38 n0 30 (subC [1, 1, 1, 1, 1, 1, 0, 1, 0, 0] (codeOf f30)) f h (thenK nx0 (contQ prog J 38 n0 30 [1, 1, 1, 1, 1, 1, 0, 1, 0] (codeOf f30) [] (RetQ prog [.tmp 2, .tmp 3] n0 K))) =
(aBin prog .lss 3 (f.r 28) (f.r 27) fun v1 =>
cnd v1
(aIdx 2 (f.r 26) (f.r 28) fun v2 =>
aLoad true 2 v2 h fun v3 =>
aAlloc [(vint 0), (vint 0)] h fun v4 h5 =>
aStore 2 v4 v3 h5 fun h6 =>
aLoad true 2 v4 h6 fun v7 =>
((1 * 2 ≤ 16777216 ∧ 1 ≤ 16777216 ∧ List.length [(vint 0), (vint 0)] = 2) ∧ aFill (zrep [(vint 0), (vint 0)] 1) [(0, 2, v7)] fun c8 =>
aNewS 1 c8 h6 fun v9 h10 =>
((List.length [(vint 0), (vint 0)] = 2 ∧ 0 < 2 ∧ 0 < 16 ∧ 16 ≤ 1024) ∧ aApp 2 (f.r 8) v9 h10 fun v11 h12 =>
aBin prog .add 3 (f.r 28) (vint 1) fun v13 =>
nx0 (((((((((((f.put 29 v1).put 30 v2).put 31 v3).put 10 v4).put 32 (f.r 8)).put 33 v7).put 34 v9).put 35 v11).put 8 v11).put 36 v13).put 28 v13) h12)))
(retL n0 K f.ds [(f.r 8), (vint 0)] h)) := by kernel_rfl
theorem l30_1 (hJ : Closed prog main J) {S : Type} (μ : S → Nat) (I : S → RG → List AObj → Prop) (hI : ∀ s f h, I s f h → heapOk h → n0 ≤ h.length → W prog J 38 n0 30 (subC [1, 1, 1, 1, 1, 1, 0, 1, 0, 0] (codeOf f30)) f h (thenK (Nx n0 μ I s) (contQ prog J 38 n0 30 [1, 1, 1, 1, 1, 1, 0, 1, 0] (codeOf f30) [] (RetQ prog [.tmp 2, .tmp 3] n0 K))))
  {s : S} {f : RG} (hi : Gets n0 I s f h) : Sem J 38 n0 30 (subC [1, 1, 1, 1, 1, 1, 0, 1, 0] (codeOf f30)) f h (contQ prog J 38 n0 30 [1, 1, 1, 1, 1, 1, 0, 1, 0] (codeOf f30) [] (RetQ prog [.tmp 2, .tmp 3] n0 K)) :=
  loop_rule hJ mixed (b := subC [1, 1, 1, 1, 1, 1, 0, 1, 0, 0] (codeOf f30)) (by kernel_rfl) μ I hI hi
theorem at45 : prog.funcs[45]? = some f45 := by kernel_rfl
theorem body45 : f45.body = some (codeOf f45) := by kernel_rfl
theorem e45 {a0 a1 a2 : Value} : W prog J 54 h.length 45 (codeOf f45) (RG.mk (regs [a0, a1, a2]) []) h (RetQ prog [.tmp 6, .tmp 7] h.length K) =
(aBox a0 h fun v1 h2 =>
aLoad true 6 v1 h2 fun v3 =>
Good prog J 71 [v3] h2 fun v4 h5 =>
aExt v4 0 fun v6 =>
aExt v4 1 fun v7 =>
aBin prog .neq 32 v7 (vint 0) fun v8 =>
cnd v8
(retL h.length K [] [(vint 0), v7] h5)
(aOff v1 0 fun v9 =>
aLoad false 1 v9 h5 fun v10 =>
aBin prog .sub 3 v10 (vint 1) fun v11 =>
Good prog J 67 [a1, (vint 0), v11] h5 fun v12 h13 =>
aUn .not v12 fun v14 =>
cnd v14
(retL h.length K [] [(vint 0), (vint 3)] h13)
(aBin prog .lss 3 a2 (vint 0) fun v15 =>
cnd v15
(retL h.length K [] [(vint 0), (vint 1)] h13)
(Good prog J 72 [v6] h13 fun v16 h17 =>
aExt v16 0 fun v18 =>
aExt v16 1 fun v19 =>
aUn .not v19 fun v20 =>
cnd v20
(retL h.length K [] [(vint 0), (vint 11)] h17)
(aIdx 2 v18 a1 fun v21 =>
aLoad true 2 v21 h17 fun v22 =>
aAlloc [(vint 0), (vint 0)] h17 fun v23 h24 =>
aStore 2 v23 v22 h24 fun h25 =>
aOff v23 0 fun v26 =>
aLoad false 1 v26 h25 fun v27 =>
aOff v23 1 fun v28 =>
aLoad false 1 v28 h25 fun v29 =>
Good prog J 67 [a2, v27, v29] h25 fun v30 h31 =>
aUn .not v30 fun v32 =>
cnd v32
(retL h.length K [] [(vint 2), (vint 0)] h31)
(aOff v23 0 fun v33 =>
aLoad false 1 v33 h31 fun v34 =>
aOff v23 1 fun v35 =>
aLoad false 1 v35 h31 fun v36 =>
aBin prog .eql 3 v34 v36 fun v37 =>
cnd v37
(retL h.length K [] [(vint 1), (vint 0)] h31)
(retL h.length K [] [(vint 3), (vint 0)] h31))))))) := by kernel_rfl
theorem g45 (hJ : Closed prog main J) {a0 a1 a2 : Value} (hs : heapOk h → W prog J 54 h.length 45 (codeOf f45) (RG.mk (regs [a0, a1, a2]) []) h (RetQ prog [.tmp 6, .tmp 7] h.length K)) : Good prog J 45 [a0, a1, a2] h K :=
  good_of_W hJ mixed at45 body45 (by kernel_rfl) (Nat.le_of_ble_eq_true rfl) hs
end
end Go.Proofs.Ytdgpacdknpahnaa

/- Printed by program: the forms to which the bodies of some functions come down. No conditions. -/
namespace Go.Proofs.Ytdgpacdknpahnaa
open Go.Conc Go.Proofs.Try
set_option maxRecDepth 100000
set_option linter.unusedVariables false
section
variable {main : Bool} {J : JT} {n0 : Nat} {h : List AObj} {K : Value → List AObj → Prop}
theorem at97 : prog.funcs[97]? = some f97 := by kernel_rfl
theorem body97 : f97.body = some (codeOf f97) := by kernel_rfl
theorem e97 {a0 : Value} : W prog J 46 h.length 97 (codeOf f97) (RG.mk (regs [a0]) []) h (RetQ prog [.cell 2 127] h.length K) =
(aAlloc [(vint 0), (vint 0), (vint 0), (vint 0), (vint 0), (vint 0), (vint 0), (vint 0), (vint 0), (vint 0)] h fun v1 h2 =>
aAlloc [(vint 0), (vint 0), (vint 0), (vint 0), (vint 0), (vint 0), (vint 0), (vint 0), (vint 0), (vint 0)] h2 fun v3 h4 =>
Sem J 46 h.length 97 (subC [1, 1, 0, 1, 0] (codeOf f97)) ((((RG.mk (regs [a0]) []).put 2 v1).put 3 v3).put 7 (vint 0)) h4 (contQ prog J 46 h.length 97 [1, 1, 0, 1, 0] (codeOf f97) [] (RetQ prog [.cell 2 127] h.length K))) := by kernel_rfl
theorem g97 (hJ : Closed prog main J) {a0 : Value} (hs : heapOk h → W prog J 46 h.length 97 (codeOf f97) (RG.mk (regs [a0]) []) h (RetQ prog [.cell 2 127] h.length K)) : Good prog J 97 [a0] h K :=
  good_of_W hJ mixed at97 body97 (by kernel_rfl) (Nat.le_of_ble_eq_true rfl) hs
-- loop [1, 1, 0, 1, 0, 0]
theorem s97_1 {f : RG} {nx0 : RG → List AObj → Prop} : W prog J 46 n0 97 (subC [1, 1, 0, 1, 0, 0] (codeOf f97)) f h (thenK nx0 (contQ prog J 46 n0 97 [1, 1, 0, 1, 0] (codeOf f97) [] (RetQ prog [.cell 2 127] n0 K))) =
(aBin prog .lss 3 (f.r 7) (vint 5) fun v1 =>
cnd v1
(aFill [(vint 0), (vint 0)] [(0, 1, (vint 0)), (1, 1, (vint 600))] fun c2 =>
aIdxA 5 2 (f.r 3) (f.r 7) fun v3 =>
aStore 2 v3 (Value.agg ⟨c2⟩) h fun h4 =>
aBin prog .add 3 (f.r 7) (vint 1) fun v5 =>
nx0 ((((((((f.put 8 v1).put 9 (f.r 7)).put 4 (f.r 7)).put 10 (f.r 7)).put 11 (Value.agg ⟨c2⟩)).put 12 v3).put 13 v5).put 7 v5) h4)
(aNil (f.r 0) fun v6 =>
aOff v6 0 fun v7 =>
aOff v7 5 fun v8 =>
aLoad false 1 v8 h fun v9 =>
aLenS v9 fun v10 =>
Sem J 46 n0 97 (subC [1, 1, 1, 0, 1, 0] (codeOf f97)) ((((((((f.put 8 v1).put 14 (f.r 0)).put 15 v6).put 16 v7).put 17 v8).put 18 v9).put 19 v10).put 20 (vint 0)) h (contQ prog J 46 n0 97 [1, 1, 1, 0, 1, 0] (codeOf f97) [] (RetQ prog [.cell 2 127] n0 K)))) := by kernel_rfl
theorem l97_1 (hJ : Closed prog main J) {S : Type} (μ : S → Nat) (I : S → RG → List AObj → Prop) (hI : ∀ s f h, I s f h → heapOk h → n0 ≤ h.length → W prog J 46 n0 97 (subC [1, 1, 0, 1, 0, 0] (codeOf f97)) f h (thenK (Nx n0 μ I s) (contQ prog J 46 n0 97 [1, 1, 0, 1, 0] (codeOf f97) [] (RetQ prog [.cell 2 127] n0 K))))
  {s : S} {f : RG} (hi : Gets n0 I s f h) : Sem J 46 n0 97 (subC [1, 1, 0, 1, 0] (codeOf f97)) f h (contQ prog J 46 n0 97 [1, 1, 0, 1, 0] (codeOf f97) [] (RetQ prog [.cell 2 127] n0 K)) :=
  loop_rule hJ mixed (b := subC [1, 1, 0, 1, 0, 0] (codeOf f97)) (by kernel_rfl) μ I hI hi
-- loop [1, 1, 1, 0, 1, 0, 0]
theorem s97_2 {f : RG} {nx0 : RG → List AObj → Prop} : W prog J 46 n0 97 (subC [1, 1, 1, 0, 1, 0, 0] (codeOf f97)) f h (thenK nx0 (contQ prog J 46 n0 97 [1, 1, 1, 0, 1, 0] (codeOf f97) [] (RetQ prog [.cell 2 127] n0 K))) =
(aBin prog .lss 3 (f.r 20) (f.r 19) fun v1 =>
cnd v1
(aIdx 4 (f.r 18) (f.r 20) fun v2 =>
aLoad true 4 v2 h fun v3 =>
aAlloc [(vint 0), (vint 0), (vint 0), (vint 0)] h fun v4 h5 =>
aStore 4 v4 v3 h5 fun h6 =>
aNil (f.r 0) fun v7 =>
aOff v7 6 fun v8 =>
aLoad false 1 v8 h6 fun v9 =>
aConvI .u64 (f.r 20) fun v10 =>
aBin prog .shr 101 v9 v10 fun v11 =>
aBin prog .and 101 v11 (Value.int .u64 1) fun v12 =>
aBin prog .eql 101 v12 (Value.int .u64 0) fun v13 =>
cnd v13
((∃ B, aOff v4 0 fun v14 =>
aLoad false 1 v14 h6 fun v15 =>
RdOk (some B) (ptrBlk v14) ∧ (aOff v4 0 fun v16 =>
aLoad false 1 v16 h6 fun v17 =>
RdOk (some B) (ptrBlk v16) ∧ (aIdxA 5 2 (f.r 3) v17 fun v18 =>
aLoad true 2 v18 h6 fun v19 =>
RdOk (some B) (ptrBlk v18) ∧ (aLoad true 4 v4 h6 fun v20 =>
RdOk (some B) (ptrBlk v4) ∧ (Good prog J 78 [v20] h6 fun v21 h22 =>
SameB (some B) h6 h22 ∧ (Good prog J 99 [v19, v21] h22 fun v23 h24 =>
SameB (some B) h6 h24 ∧ (aIdxA 5 2 (f.r 3) v15 fun v25 =>
aStore 2 v25 v23 h24 fun h26 =>
aBin prog .add 3 (f.r 20) (vint 1) fun v27 =>
nx0 (((((((((((((((((((((((((((f.put 21 v1).put 22 (f.r 20)).put 23 v2).put 24 v3).put 6 v4).put 5 (f.r 20)).put 25 (f.r 0)).put 26 v7).put 27 v8).put 28 v9).put 29 (f.r 20)).put 30 v10).put 31 v11).put 32 v12).put 33 v13).put 34 v14).put 35 v15).put 36 v16).put 37 v17).put 38 v18).put 39 v19).put 40 v20).put 41 v21).put 42 v23).put 43 v25).put 44 v27).put 20 v27) h26))))))))
(aBin prog .add 3 (f.r 20) (vint 1) fun v28 =>
nx0 (((((((((((((((((f.put 21 v1).put 22 (f.r 20)).put 23 v2).put 24 v3).put 6 v4).put 5 (f.r 20)).put 25 (f.r 0)).put 26 v7).put 27 v8).put 28 v9).put 29 (f.r 20)).put 30 v10).put 31 v11).put 32 v12).put 33 v13).put 44 v28).put 20 v28) h6))
(aLoad true 10 (f.r 3) h fun v29 =>
aStore 10 (f.r 2) v29 h fun h30 =>
RetQ prog [.cell 2 127] n0 K .ret ((f.put 21 v1).put 45 v29) h30)) := by kernel_rfl
theorem l97_2 (hJ : Closed prog main J) {S : Type} (μ : S → Nat) (I : S → RG → List AObj → Prop) (hI : ∀ s f h, I s f h → heapOk h → n0 ≤ h.length → W prog J 46 n0 97 (subC [1, 1, 1, 0, 1, 0, 0] (codeOf f97)) f h (thenK (Nx n0 μ I s) (contQ prog J 46 n0 97 [1, 1, 1, 0, 1, 0] (codeOf f97) [] (RetQ prog [.cell 2 127] n0 K))))
  {s : S} {f : RG} (hi : Gets n0 I s f h) : Sem J 46 n0 97 (subC [1, 1, 1, 0, 1, 0] (codeOf f97)) f h (contQ prog J 46 n0 97 [1, 1, 1, 0, 1, 0] (codeOf f97) [] (RetQ prog [.cell 2 127] n0 K)) :=
  loop_rule hJ mixed (b := subC [1, 1, 1, 0, 1, 0, 0] (codeOf f97)) (by kernel_rfl) μ I hI hi
theorem at98 : prog.funcs[98]? = some f98 := by kernel_rfl
theorem body98 : f98.body = some (codeOf f98) := by kernel_rfl
theorem e98 {a0 : Value} : W prog J 10 h.length 98 (codeOf f98) (RG.mk (regs [a0]) []) h (RetQ prog [.cell 2 98] h.length K) =
(aBox a0 h fun v1 h2 =>
aAlloc [(vint 0), (vint 0)] h2 fun v3 h4 =>
aOff v1 1 fun v5 =>
aLoad false 1 v5 h4 fun v6 =>
aUn .neg v6 fun v7 =>
aOff v1 0 fun v8 =>
aLoad false 1 v8 h4 fun v9 =>
aUn .neg v9 fun v10 =>
aFill [(vint 0), (vint 0)] [(0, 1, v7), (1, 1, v10)] fun c11 =>
aStore 2 v3 (Value.agg ⟨c11⟩) h4 fun h12 =>
RetQ prog [.cell 2 98] h.length K .ret ((((((((((RG.mk (regs [a0]) []).put 1 v1).put 2 v3).put 3 v5).put 4 v6).put 5 v7).put 6 v8).put 7 v9).put 8 v10).put 9 (Value.agg ⟨c11⟩)) h12) := by kernel_rfl
theorem g98 (hJ : Closed prog main J) {a0 : Value} (hs : heapOk h → W prog J 10 h.length 98 (codeOf f98) (RG.mk (regs [a0]) []) h (RetQ prog [.cell 2 98] h.length K)) : Good prog J 98 [a0] h K :=
  good_of_W hJ mixed at98 body98 (by kernel_rfl) (Nat.le_of_ble_eq_true rfl) hs
theorem at99 : prog.funcs[99]? = some f99 := by kernel_rfl
theorem body99 : f99.body = some (codeOf f99) := by kernel_rfl
theorem e99 {a0 a1 : Value} : W prog J 16 h.length 99 (codeOf f99) (RG.mk (regs [a0, a1]) []) h (RetQ prog [.cell 4 98] h.length K) =
(aBox a0 h fun v1 h2 =>
aBox a1 h2 fun v3 h4 =>
aAlloc [(vint 0), (vint 0)] h4 fun v5 h6 =>
aOff v1 0 fun v7 =>
aLoad false 1 v7 h6 fun v8 =>
aOff v3 0 fun v9 =>
aLoad false 1 v9 h6 fun v10 =>
aMax v8 [v10] fun v11 =>
aOff v1 1 fun v12 =>
aLoad false 1 v12 h6 fun v13 =>
aOff v3 1 fun v14 =>
aLoad false 1 v14 h6 fun v15 =>
aMin v13 [v15] fun v16 =>
aFill [(vint 0), (vint 0)] [(0, 1, v11), (1, 1, v16)] fun c17 =>
aStore 2 v5 (Value.agg ⟨c17⟩) h6 fun h18 =>
RetQ prog [.cell 4 98] h.length K .ret (((((((((((((((RG.mk (regs [a0, a1]) []).put 2 v1).put 3 v3).put 4 v5).put 5 v7).put 6 v8).put 7 v9).put 8 v10).put 9 v11).put 10 v12).put 11 v13).put 12 v14).put 13 v15).put 14 v16).put 15 (Value.agg ⟨c17⟩)) h18) := by kernel_rfl
theorem g99 (hJ : Closed prog main J) {a0 a1 : Value} (hs : heapOk h → W prog J 16 h.length 99 (codeOf f99) (RG.mk (regs [a0, a1]) []) h (RetQ prog [.cell 4 98] h.length K)) : Good prog J 99 [a0, a1] h K :=
  good_of_W hJ mixed at99 body99 (by kernel_rfl) (Nat.le_of_ble_eq_true rfl) hs
theorem at100 : prog.funcs[100]? = some f100 := by kernel_rfl
theorem body100 : f100.body = some (codeOf f100) := by kernel_rfl
theorem e100 {a0 a1 : Value} : W prog J 16 h.length 100 (codeOf f100) (RG.mk (regs [a0, a1]) []) h (RetQ prog [.cell 4 98] h.length K) =
(aBox a0 h fun v1 h2 =>
aBox a1 h2 fun v3 h4 =>
aAlloc [(vint 0), (vint 0)] h4 fun v5 h6 =>
aOff v1 0 fun v7 =>
aLoad false 1 v7 h6 fun v8 =>
aOff v3 0 fun v9 =>
aLoad false 1 v9 h6 fun v10 =>
aBin prog .add 3 v8 v10 fun v11 =>
aOff v1 1 fun v12 =>
aLoad false 1 v12 h6 fun v13 =>
aOff v3 1 fun v14 =>
aLoad false 1 v14 h6 fun v15 =>
aBin prog .add 3 v13 v15 fun v16 =>
aFill [(vint 0), (vint 0)] [(0, 1, v11), (1, 1, v16)] fun c17 =>
aStore 2 v5 (Value.agg ⟨c17⟩) h6 fun h18 =>
RetQ prog [.cell 4 98] h.length K .ret (((((((((((((((RG.mk (regs [a0, a1]) []).put 2 v1).put 3 v3).put 4 v5).put 5 v7).put 6 v8).put 7 v9).put 8 v10).put 9 v11).put 10 v12).put 11 v13).put 12 v14).put 13 v15).put 14 v16).put 15 (Value.agg ⟨c17⟩)) h18) := by kernel_rfl
theorem g100 (hJ : Closed prog main J) {a0 a1 : Value} (hs : heapOk h → W prog J 16 h.length 100 (codeOf f100) (RG.mk (regs [a0, a1]) []) h (RetQ prog [.cell 4 98] h.length K)) : Good prog J 100 [a0, a1] h K :=
  good_of_W hJ mixed at100 body100 (by kernel_rfl) (Nat.le_of_ble_eq_true rfl) hs
theorem at101 : prog.funcs[101]? = some f101 := by kernel_rfl
theorem body101 : f101.body = some (codeOf f101) := by kernel_rfl
theorem e101 {a0 a1 : Value} : W prog J 21 h.length 101 (codeOf f101) (RG.mk (regs [a0, a1]) []) h (RetQ prog [.cell 4 98] h.length K) =
(aAlloc [(vint 0), (vint 0)] h fun v1 h2 =>
(∃ B, aNil a0 fun v3 =>
aOff v3 0 fun v4 =>
aOff v4 3 fun v5 =>
aLoad false 1 v5 h2 fun v6 =>
RdOk (some B) (ptrBlk v5) ∧ (aIdx 2 v6 a1 fun v7 =>
aLoad true 2 v7 h2 fun v8 =>
RdOk (some B) (ptrBlk v7) ∧ (aNil a0 fun v9 =>
aOff v9 0 fun v10 =>
aOff v10 4 fun v11 =>
aLoad false 1 v11 h2 fun v12 =>
RdOk (some B) (ptrBlk v11) ∧ (aUn .neg v12 fun v13 =>
aFill [(vint 0), (vint 0)] [(0, 1, v13), (1, 1, (vint 0))] fun c14 =>
Good prog J 100 [v8, (Value.agg ⟨c14⟩)] h2 fun v15 h16 =>
SameB (some B) h2 h16 ∧ (aStore 2 v1 v15 h16 fun h17 =>
RetQ prog [.cell 4 98] h.length K .ret ((((((((((((((((((RG.mk (regs [a0, a1]) []).put 4 v1).put 5 a0).put 6 v3).put 7 v4).put 8 v5).put 9 v6).put 10 a1).put 11 v7).put 12 v8).put 13 a0).put 14 v9).put 15 v10).put 16 v11).put 17 v12).put 18 v13).put 19 (Value.agg ⟨c14⟩)).put 20 v15) h17)))))) := by kernel_rfl
theorem g101 (hJ : Closed prog main J) {a0 a1 : Value} (hs : heapOk h → W prog J 21 h.length 101 (codeOf f101) (RG.mk (regs [a0, a1]) []) h (RetQ prog [.cell 4 98] h.length K)) : Good prog J 101 [a0, a1] h K :=
  good_of_W hJ mixed at101 body101 (by kernel_rfl) (Nat.le_of_ble_eq_true rfl) hs
theorem at104 : prog.funcs[104]? = some f104 := by kernel_rfl
theorem body104 : f104.body = some (codeOf f104) := by kernel_rfl
theorem e104 {a0 : Value} : W prog J 8 h.length 104 (codeOf f104) (RG.mk (regs [a0]) []) h (RetQ prog [.tmp 2] h.length K) =
(aBox a0 h fun v1 h2 =>
aOff v1 0 fun v3 =>
aLoad false 1 v3 h2 fun v4 =>
aOff v1 1 fun v5 =>
aLoad false 1 v5 h2 fun v6 =>
aBin prog .gtr 3 v4 v6 fun v7 =>
retL h.length K [] [v7] h2) := by kernel_rfl
theorem g104 (hJ : Closed prog main J) {a0 : Value} (hs : heapOk h → W prog J 8 h.length 104 (codeOf f104) (RG.mk (regs [a0]) []) h (RetQ prog [.tmp 2] h.length K)) : Good prog J 104 [a0] h K :=
  good_of_W hJ mixed at104 body104 (by kernel_rfl) (Nat.le_of_ble_eq_true rfl) hs
theorem at111 : prog.funcs[111]? = some f111 := by kernel_rfl
theorem body111 : f111.body = some (codeOf f111) := by kernel_rfl
theorem e111 {a0 a1 a2 : Value} : W prog J 38 h.length 111 (codeOf f111) (RG.mk (regs [a0, a1, a2]) []) h (RetQ prog [] h.length K) =
(aLoad false 1 a1 h fun v1 =>
aNil v1 fun v2 =>
aOff v2 0 fun v3 =>
aOff v3 1 fun v4 =>
aLoad true 2 v4 h fun v5 =>
aAlloc [(vint 0), (vint 0)] h fun v6 h7 =>
aStore 2 v6 v5 h7 fun h8 =>
aLoad false 1 a1 h8 fun v9 =>
aNil v9 fun v10 =>
aOff v10 0 fun v11 =>
aOff v11 0 fun v12 =>
aLoad false 1 v12 h8 fun v13 =>
Sem J 38 h.length 111 (subC [1, 1, 0] (codeOf f111)) (((((((((((((RG.mk (regs [a0, a1, a2]) []).put 6 v1).put 7 v2).put 8 v3).put 9 v4).put 10 v5).put 4 v6).put 11 v9).put 12 v10).put 13 v11).put 14 v12).put 15 v13).put 16 (vint 0)) h8 (contQ prog J 38 h.length 111 [1, 1, 0] (codeOf f111) [] (RetQ prog [] h.length K))) := by kernel_rfl
theorem g111 (hJ : Closed prog main J) {a0 a1 a2 : Value} (hs : heapOk h → W prog J 38 h.length 111 (codeOf f111) (RG.mk (regs [a0, a1, a2]) []) h (RetQ prog [] h.length K)) : Good prog J 111 [a0, a1, a2] h K :=
  good_of_W hJ mixed at111 body111 (by kernel_rfl) (Nat.le_of_ble_eq_true rfl) hs
-- loop [1, 1, 0, 0]
theorem s111_1 {f : RG} {nx0 : RG → List AObj → Prop} : W prog J 38 n0 111 (subC [1, 1, 0, 0] (codeOf f111)) f h (thenK nx0 (contQ prog J 38 n0 111 [1, 1, 0] (codeOf f111) [] (RetQ prog [] n0 K))) =
(aBin prog .lss 3 (f.r 16) (f.r 15) fun v1 =>
cnd v1
(aBin prog .gtr 3 (f.r 16) (vint 0) fun v2 =>
cnd v2
((∃ B, aLoad true 2 (f.r 4) h fun v3 =>
RdOk (some B) (ptrBlk (f.r 4)) ∧ (aLoad false 1 (f.r 1) h fun v4 =>
RdOk (some B) (ptrBlk (f.r 1)) ∧ (aBin prog .sub 3 (f.r 16) (vint 1) fun v5 =>
Good prog J 101 [v4, v5] h fun v6 h7 =>
SameB (some B) h h7 ∧ (Good prog J 100 [v3, v6] h7 fun v8 h9 =>
SameB (some B) h h9 ∧ (aStore 2 (f.r 4) v8 h9 fun h10 =>
aLoad true 2 (f.r 4) h10 fun v11 =>
aIdxA 5 2 (f.r 2) (f.r 16) fun v12 =>
aLoad true 2 v12 h10 fun v13 =>
Good prog J 99 [v11, v13] h10 fun v14 h15 =>
aStore 2 (f.r 4) v14 h15 fun h16 =>
aLoad true 2 (f.r 4) h16 fun v17 =>
callV prog (Good prog J) (f.r 0) [(f.r 16), v17] h16 fun v18 h19 =>
aUn .not v18 fun v20 =>
cnd v20
(retL n0 K f.ds [] h19)
(aBin prog .add 3 (f.r 16) (vint 1) fun v21 =>
nx0 (((((((((((((((((((((((f.put 17 v1).put 18 (f.r 16)).put 5 (f.r 16)).put 19 (f.r 16)).put 20 v2).put 21 v3).put 22 v4).put 23 (f.r 16)).put 24 v5).put 25 v6).put 26 v8).put 27 v11).put 28 (f.r 16)).put 29 v12).put 30 v13).put 31 v14).put 32 (f.r 0)).put 33 (f.r 16)).put 34 v17).put 35 v18).put 36 v20).put 37 v21).put 16 v21) h19)))))))
(aLoad true 2 (f.r 4) h fun v22 =>
aIdxA 5 2 (f.r 2) (f.r 16) fun v23 =>
aLoad true 2 v23 h fun v24 =>
Good prog J 99 [v22, v24] h fun v25 h26 =>
aStore 2 (f.r 4) v25 h26 fun h27 =>
aLoad true 2 (f.r 4) h27 fun v28 =>
callV prog (Good prog J) (f.r 0) [(f.r 16), v28] h27 fun v29 h30 =>
aUn .not v29 fun v31 =>
cnd v31
(retL n0 K f.ds [] h30)
(aBin prog .add 3 (f.r 16) (vint 1) fun v32 =>
nx0 (((((((((((((((((f.put 17 v1).put 18 (f.r 16)).put 5 (f.r 16)).put 19 (f.r 16)).put 20 v2).put 27 v22).put 28 (f.r 16)).put 29 v23).put 30 v24).put 31 v25).put 32 (f.r 0)).put 33 (f.r 16)).put 34 v28).put 35 v29).put 36 v31).put 37 v32).put 16 v32) h30)))
(retL n0 K f.ds [] h)) := by kernel_rfl
theorem l111_1 (hJ : Closed prog main J) {S : Type} (μ : S → Nat) (I : S → RG → List AObj → Prop) (hI : ∀ s f h, I s f h → heapOk h → n0 ≤ h.length → W prog J 38 n0 111 (subC [1, 1, 0, 0] (codeOf f111)) f h (thenK (Nx n0 μ I s) (contQ prog J 38 n0 111 [1, 1, 0] (codeOf f111) [] (RetQ prog [] n0 K))))
  {s : S} {f : RG} (hi : Gets n0 I s f h) : Sem J 38 n0 111 (subC [1, 1, 0] (codeOf f111)) f h (contQ prog J 38 n0 111 [1, 1, 0] (codeOf f111) [] (RetQ prog [] n0 K)) :=
  loop_rule hJ mixed (b := subC [1, 1, 0, 0] (codeOf f111)) (by kernel_rfl) μ I hI hi
theorem at74 : prog.funcs[74]? = some f74 := by kernel_rfl
theorem body74 : f74.body = some (codeOf f74) := by kernel_rfl
theorem e74 {a0 a1 : Value} : W prog J 43 h.length 74 (codeOf f74) (RG.mk (regs [a0, a1]) []) h (RetQ prog [.tmp 4] h.length K) =
(aNil a0 fun v1 =>
aOff v1 6 fun v2 =>
aStore 1 v2 a1 h fun h3 =>
Good prog J 97 [a0] h3 fun v4 h5 =>
aAlloc [(vint 0), (vint 0), (vint 0), (vint 0), (vint 0), (vint 0), (vint 0), (vint 0), (vint 0), (vint 0)] h5 fun v6 h7 =>
aStore 10 v6 v4 h7 fun h8 =>
aNil a0 fun v9 =>
aOff v9 7 fun v10 =>
aLoad false 1 v10 h8 fun v11 =>
aLoad true 10 v6 h8 fun v12 =>
aLook prog 120 true v11 v12 h8 fun v13 =>
aExt v13 0 fun v14 =>
aExt v13 1 fun v15 =>
cnd v15
(retL h.length K [] [v14] h8)
(aAlloc [(Value.bool false)] h8 fun v16 h17 =>
aStore 1 v16 (Value.bool true) h17 fun h18 =>
aLoad true 10 v6 h18 fun v19 =>
Good prog J 96 [a0, v19] h18 fun v20 h21 =>
Sem J 43 h.length 74 (subC [1, 0, 1, 1, 1, 1, 1, 0, 1, 0] (codeOf f74)) (((((((((((((((((((((((((RG.mk (regs [a0, a1]) []).put 4 (Value.bool false)).put 11 a0).put 12 a1).put 13 v1).put 14 v2).put 15 a0).put 16 v4).put 5 v6).put 18 a0).put 19 v9).put 20 v10).put 21 v11).put 22 v12).put 23 v13).put 17 v13).put 24 v14).put 25 v15).put 6 v14).put 7 v15).put 26 v15).put 8 v16).put 28 a0).put 29 v19).put 30 v20) h21 (contQ prog J 43 h.length 74 [1, 0, 1, 1, 1, 1, 1, 0, 1, 0] (codeOf f74) [] (RetQ prog [.tmp 4] h.length K)))) := by kernel_rfl
theorem g74 (hJ : Closed prog main J) {a0 a1 : Value} (hs : heapOk h → W prog J 43 h.length 74 (codeOf f74) (RG.mk (regs [a0, a1]) []) h (RetQ prog [.tmp 4] h.length K)) : Good prog J 74 [a0, a1] h K :=
  good_of_W hJ mixed at74 body74 (by kernel_rfl) (Nat.le_of_ble_eq_true rfl) hs
-- range [1, 0, 1, 1, 1, 1, 1, 0, 1, 0]
theorem a74_1 {f : RG} {fr : FuncId} {Q : QT} : W prog J 43 n0 fr (subC [1, 0, 1, 1, 1, 1, 1, 0, 1, 0, 0] (codeOf f74)) f h Q =
(aAlloc [(vint 0), (vint 0)] h fun v1 h2 =>
aStore 2 v1 (f.r 32) h2 fun h3 =>
Q .normal (f.put 10 v1) h3) := by kernel_rfl
theorem b74_1 {f : RG} {fr : FuncId} {Q : QT} : W prog J 43 n0 fr (subC [1, 0, 1, 1, 1, 1, 1, 0, 1, 0, 1] (codeOf f74)) f h Q =
(aLoad true 2 (f.r 10) h fun v1 =>
Good prog J 104 [v1] h fun v2 h3 =>
cnd v2
(aStore 1 (f.r 8) (Value.bool false) h3 fun h4 =>
Q (.exit 0) (((f.put 34 v1).put 35 v2).put 33 v2) h4)
(Q .normal (((f.put 34 v1).put 35 v2).put 33 v2) h3)) := by kernel_rfl
theorem c74_1x0 {f : RG} : (contQ prog J 43 n0 74 [1, 0, 1, 1, 1, 1, 1, 0, 1, 0] (codeOf f74) [] (RetQ prog [.tmp 4] n0 K)) (.exit 0) f h =
(aNil (f.r 0) fun v1 =>
aOff v1 7 fun v2 =>
aLoad false 1 v2 h fun v3 =>
aLoad true 10 (f.r 5) h fun v4 =>
aLoad false 1 (f.r 8) h fun v5 =>
((VOk h.length v5 ∧ one v5 = true) ∧ aUpd prog 120 v3 v4 v5 h fun h6 =>
aLoad false 1 (f.r 8) h6 fun v7 =>
retL n0 K f.ds [v7] h6)) := by kernel_rfl
theorem c74_1 {f : RG} : (contQ prog J 43 n0 74 [1, 0, 1, 1, 1, 1, 1, 0, 1, 0] (codeOf f74) [] (RetQ prog [.tmp 4] n0 K)) .normal f h =
(aNil (f.r 0) fun v1 =>
aOff v1 7 fun v2 =>
aLoad false 1 v2 h fun v3 =>
aLoad true 10 (f.r 5) h fun v4 =>
aLoad false 1 (f.r 8) h fun v5 =>
((VOk h.length v5 ∧ one v5 = true) ∧ aUpd prog 120 v3 v4 v5 h fun h6 =>
aLoad false 1 (f.r 8) h6 fun v7 =>
retL n0 K f.ds [v7] h6)) := by kernel_rfl
theorem l74_1 (hJ : Closed prog main J) {f : RG} {g : FuncId} {first cap : List Value} (hx : ev f.r ((Go.Operand.tmp 30)) = .func (.func g) ⟨first⟩ ⟨cap⟩) (hg : g < prog.funcs.size)
  (hs : Good prog J g (first ++ [.func (.yield (h.length + 1)) ⟨[]⟩ ⟨[]⟩] ++ cap) (h ++ [.deferred] ++ [.loop .ready none 74 f.r 43 #[31, 32] (subC [1, 0, 1, 1, 1, 1, 1, 0, 1, 0, 0] (codeOf f74)) (subC [1, 0, 1, 1, 1, 1, 1, 0, 1, 0, 1] (codeOf f74)) h.length]) (endQ h.length f (contQ prog J 43 n0 74 [1, 0, 1, 1, 1, 1, 1, 0, 1, 0] (codeOf f74) [] (RetQ prog [.tmp 4] n0 K)))) : Sem J 43 n0 74 (subC [1, 0, 1, 1, 1, 1, 1, 0, 1, 0] (codeOf f74)) f h (contQ prog J 43 n0 74 [1, 0, 1, 1, 1, 1, 1, 0, 1, 0] (codeOf f74) [] (RetQ prog [.tmp 4] n0 K)) :=
  Sem_range hJ (by decide) (fop := (Go.Operand.tmp 30)) (params := #[31, 32]) (assign := subC [1, 0, 1, 1, 1, 1, 1, 0, 1, 0, 0] (codeOf f74)) (body := subC [1, 0, 1, 1, 1, 1, 1, 0, 1, 0, 1] (codeOf f74)) hx hg hs
theorem at96 : prog.funcs[96]? = some f96 := by kernel_rfl
theorem body96 : f96.body = some (codeOf f96) := by kernel_rfl
theorem e96 {a0 a1 : Value} : W prog J 6 h.length 96 (codeOf f96) (RG.mk (regs [a0, a1]) []) h (RetQ prog [.tmp 4] h.length K) =
(aBox a0 h fun v1 h2 =>
aBox a1 h2 fun v3 h4 =>
aMkF 111 [] [v1, v3] fun v5 =>
retL h.length K [] [v5] h4) := by kernel_rfl
theorem g96 (hJ : Closed prog main J) {a0 a1 : Value} (hs : heapOk h → W prog J 6 h.length 96 (codeOf f96) (RG.mk (regs [a0, a1]) []) h (RetQ prog [.tmp 4] h.length K)) : Good prog J 96 [a0, a1] h K :=
  good_of_W hJ mixed at96 body96 (by kernel_rfl) (Nat.le_of_ble_eq_true rfl) hs
end
end Go.Proofs.Ytdgpacdknpahnaa

/- Printed by program: the forms to which the bodies of some functions come down. No conditions. -/
namespace Go.Proofs.Ytdgpacdknpahnaa
open Go.Conc Go.Proofs.Try
set_option maxRecDepth 100000
set_option linter.unusedVariables false
section
variable {main : Bool} {J : JT} {n0 : Nat} {h : List AObj} {K : Value → List AObj → Prop}
theorem at61 : prog.funcs[61]? = some f61 := by kernel_rfl
theorem body61 : f61.body = some (codeOf f61) := by kernel_rfl
theorem e61 {a0 a1 a2 : Value} : W prog J 152 h.length 61 (codeOf f61) (RG.mk (regs [a0, a1, a2]) []) h (RetQ prog [.cell 6 42, .tmp 7, .tmp 8] h.length K) =
(aAlloc [(vint 0), (vint 0), (vint 0), (Value.slice none 0 0), (vint 0), (Value.slice none 0 0)] h fun v1 h2 =>
aMin a1 [(vint 5)] fun v3 =>
Good prog J 20 [a0, (vint 1), v3] h2 fun v4 h5 =>
Good prog J 22 [a0, (vint 4)] h5 fun v6 h7 =>
((3 * 1 ≤ 16777216 ∧ 3 ≤ 16777216 ∧ List.length [(vint 0)] = 1) ∧ aFill (zrep [(vint 0)] 3) [(0, 1, (vint 1)), (1, 1, (vint 2)), (2, 1, v6)] fun c8 =>
aNewS 3 c8 h7 fun v9 h10 =>
Good prog J 21 [a0, (vint 0), v9] h10 fun v11 h12 =>
aFill [(vint 0), (vint 0), (vint 0), (Value.slice none 0 0), (vint 0), (Value.slice none 0 0)] [(0, 1, v4), (4, 1, v11)] fun c13 =>
aAlloc [(vint 0), (vint 0), (vint 0), (Value.slice none 0 0), (vint 0), (Value.slice none 0 0)] h12 fun v14 h15 =>
aStore 6 v14 (Value.agg ⟨c13⟩) h15 fun h16 =>
Good prog J 20 [a0, (vint 30), (vint 60)] h16 fun v17 h18 =>
aOff v14 1 fun v19 =>
aOff v19 0 fun v20 =>
aStore 1 v20 v17 h18 fun h21 =>
(∃ B, aOff v14 1 fun v22 =>
aOff v22 0 fun v23 =>
aLoad false 1 v23 h21 fun v24 =>
RdOk (some B) (ptrBlk v23) ∧ (Good prog J 22 [a0, (vint 3)] h21 fun v25 h26 =>
SameB (some B) h21 h26 ∧ (Good prog J 22 [a0, (vint 6)] h26 fun v27 h28 =>
SameB (some B) h21 h28 ∧ (((2 * 1 ≤ 16777216 ∧ 2 ≤ 16777216 ∧ List.length [(vint 0)] = 1) ∧ aFill (zrep [(vint 0)] 2) [(0, 1, v25), (1, 1, v27)] fun c29 =>
aNewS 2 c29 h28 fun v30 h31 =>
SameB (some B) h21 h31 ∧ (Good prog J 21 [a0, (vint 0), v30] h31 fun v32 h33 =>
SameB (some B) h21 h33 ∧ (aBin prog .add 3 v24 v32 fun v34 =>
aOff v14 1 fun v35 =>
aOff v35 1 fun v36 =>
aStore 1 v36 v34 h33 fun h37 =>
aOff v14 1 fun v38 =>
aOff v38 0 fun v39 =>
aLoad false 1 v39 h37 fun v40 =>
aOff v14 1 fun v41 =>
aOff v41 1 fun v42 =>
aLoad false 1 v42 h37 fun v43 =>
Good prog J 20 [a0, v40, v43] h37 fun v44 h45 =>
((1 * 1 ≤ 16777216 ∧ 1 ≤ 16777216 ∧ List.length [(vint 0)] = 1) ∧ aFill (zrep [(vint 0)] 1) [(0, 1, v44)] fun c46 =>
aNewS 1 c46 h45 fun v47 h48 =>
Sem J 152 h.length 61 (subC [1, 1, 1, 1, 1, 1, 1, 0, 1, 0] (codeOf f61)) ((((((((((((((((((((((((((((((((((((((((((((((RG.mk (regs [a0, a1, a2]) []).put 6 v1).put 7 (Value.slice none 0 0)).put 8 (Value.slice none 0 0)).put 19 a0).put 20 a1).put 21 v3).put 22 v4).put 23 a0).put 24 a0).put 25 v6).put 26 v9).put 27 v11).put 28 (Value.agg ⟨c13⟩)).put 9 v14).put 29 a0).put 30 v17).put 31 v19).put 32 v20).put 33 v22).put 34 v23).put 35 v24).put 36 a0).put 37 a0).put 39 a0).put 38 v25).put 40 v27).put 41 v30).put 42 v32).put 43 v34).put 44 v35).put 45 v36).put 46 a0).put 47 v38).put 48 v39).put 49 v40).put 50 v41).put 51 v42).put 52 v43).put 53 v44).put 10 v44).put 54 v44).put 55 v47).put 11 v47).put 12 (Value.slice none 0 0)).put 13 (vint 1)) h48 (contQ prog J 152 h.length 61 [1, 1, 1, 1, 1, 1, 1, 0, 1, 0] (codeOf f61) [] (RetQ prog [.cell 6 42, .tmp 7, .tmp 8] h.length K)))))))))))) := by kernel_rfl
theorem g61 (hJ : Closed prog main J) {a0 a1 a2 : Value} (hs : heapOk h → W prog J 152 h.length 61 (codeOf f61) (RG.mk (regs [a0, a1, a2]) []) h (RetQ prog [.cell 6 42, .tmp 7, .tmp 8] h.length K)) : Good prog J 61 [a0, a1, a2] h K :=
  good_of_W hJ mixed at61 body61 (by kernel_rfl) (Nat.le_of_ble_eq_true rfl) hs
-- loop [1, 1, 1, 1, 1, 1, 1, 0, 1, 0, 0]
theorem s61_1 {f : RG} {nx0 : RG → List AObj → Prop} : W prog J 152 n0 61 (subC [1, 1, 1, 1, 1, 1, 1, 0, 1, 0, 0] (codeOf f61)) f h (thenK nx0 (contQ prog J 152 n0 61 [1, 1, 1, 1, 1, 1, 1, 0, 1, 0] (codeOf f61) [] (RetQ prog [.cell 6 42, .tmp 7, .tmp 8] n0 K))) =
(aOff (f.r 9) 0 fun v1 =>
aLoad false 1 v1 h fun v2 =>
aBin prog .lss 3 (f.r 13) v2 fun v3 =>
cnd v3
(Good prog J 20 [(f.r 0), (vint (-3)), (vint 2)] h fun v4 h5 =>
aFill [(vint 0), (vint 0)] [(0, 1, v4)] fun c6 =>
aAlloc [(vint 0), (vint 0)] h5 fun v7 h8 =>
aStore 2 v7 (Value.agg ⟨c6⟩) h8 fun h9 =>
(∃ B, aOff v7 0 fun v10 =>
aLoad false 1 v10 h9 fun v11 =>
RdOk (some B) (ptrBlk v10) ∧ (Good prog J 22 [(f.r 0), (vint 2)] h9 fun v12 h13 =>
SameB (some B) h9 h13 ∧ (aBin prog .add 3 v11 v12 fun v14 =>
aOff v7 1 fun v15 =>
aStore 1 v15 v14 h13 fun h16 =>
aOff (f.r 9) 4 fun v17 =>
aLoad false 1 v17 h16 fun v18 =>
Good prog J 22 [(f.r 0), v18] h16 fun v19 h20 =>
aOff v7 0 fun v21 =>
aLoad false 1 v21 h20 fun v22 =>
aOff v7 1 fun v23 =>
aLoad false 1 v23 h20 fun v24 =>
Good prog J 20 [(f.r 0), v22, v24] h20 fun v25 h26 =>
aBin prog .add 3 (f.r 10) v25 fun v27 =>
aBin prog .sub 3 v27 v19 fun v28 =>
aOff (f.r 9) 3 fun v29 =>
aLoad false 1 v29 h26 fun v30 =>
aLoad true 2 v7 h26 fun v31 =>
((1 * 2 ≤ 16777216 ∧ 1 ≤ 16777216 ∧ List.length [(vint 0), (vint 0)] = 2) ∧ aFill (zrep [(vint 0), (vint 0)] 1) [(0, 2, v31)] fun c32 =>
aNewS 1 c32 h26 fun v33 h34 =>
((List.length [(vint 0), (vint 0)] = 2 ∧ 0 < 2 ∧ 0 < 16 ∧ 16 ≤ 1024) ∧ aApp 2 v30 v33 h34 fun v35 h36 =>
((1 * 1 ≤ 16777216 ∧ 1 ≤ 16777216 ∧ List.length [(vint 0)] = 1) ∧ aFill (zrep [(vint 0)] 1) [(0, 1, v28)] fun c37 =>
aNewS 1 c37 h36 fun v38 h39 =>
((List.length [(vint 0)] = 1 ∧ 0 < 1 ∧ 0 < 8 ∧ 8 ≤ 1024) ∧ aApp 1 (f.r 11) v38 h39 fun v40 h41 =>
((1 * 1 ≤ 16777216 ∧ 1 ≤ 16777216 ∧ List.length [(vint 0)] = 1) ∧ aFill (zrep [(vint 0)] 1) [(0, 1, v19)] fun c42 =>
aNewS 1 c42 h41 fun v43 h44 =>
((List.length [(vint 0)] = 1 ∧ 0 < 1 ∧ 0 < 8 ∧ 8 ≤ 1024) ∧ aApp 1 (f.r 12) v43 h44 fun v45 h46 =>
aOff (f.r 9) 3 fun v47 =>
aStore 1 v47 v35 h46 fun h48 =>
aBin prog .add 3 (f.r 13) (vint 1) fun v49 =>
nx0 (((((((((((((((((((((((((((((((((((((((((((((((((f.put 56 (f.r 13)).put 57 v1).put 58 v2).put 59 v3).put 62 (f.r 0)).put 63 v4).put 64 (Value.agg ⟨c6⟩)).put 14 v7).put 65 v10).put 66 v11).put 67 (f.r 0)).put 68 v12).put 69 v14).put 70 v15).put 71 (f.r 0)).put 72 v17).put 73 v18).put 74 v19).put 15 v19).put 75 (f.r 10)).put 76 (f.r 0)).put 77 v21).put 78 v22).put 79 v23).put 80 v24).put 81 v25).put 82 v27).put 83 v19).put 84 v28).put 10 v28).put 85 v29).put 86 v30).put 87 v31).put 88 v33).put 89 v35).put 90 (f.r 11)).put 91 v28).put 92 v38).put 93 v40).put 94 (f.r 12)).put 95 v19).put 96 v43).put 97 v45).put 98 v47).put 11 v40).put 12 v45).put 60 (f.r 13)).put 61 v49).put 13 v49) h48))))))))))
(aMin (f.r 2) [(vint 7)] fun v50 =>
Good prog J 22 [(f.r 0), v50] h fun v51 h52 =>
Sem J 152 n0 61 (subC [1, 1, 1, 1, 1, 1, 1, 1, 0, 1, 0] (codeOf f61)) (((((((((f.put 56 (f.r 13)).put 57 v1).put 58 v2).put 59 v3).put 99 (f.r 0)).put 100 (f.r 2)).put 101 v50).put 102 v51).put 16 v51) h52 (contQ prog J 152 n0 61 [1, 1, 1, 1, 1, 1, 1, 1, 0, 1, 0] (codeOf f61) [] (RetQ prog [.cell 6 42, .tmp 7, .tmp 8] n0 K)))) := by kernel_rfl
theorem l61_1 (hJ : Closed prog main J) {S : Type} (μ : S → Nat) (I : S → RG → List AObj → Prop) (hI : ∀ s f h, I s f h → heapOk h → n0 ≤ h.length → W prog J 152 n0 61 (subC [1, 1, 1, 1, 1, 1, 1, 0, 1, 0, 0] (codeOf f61)) f h (thenK (Nx n0 μ I s) (contQ prog J 152 n0 61 [1, 1, 1, 1, 1, 1, 1, 0, 1, 0] (codeOf f61) [] (RetQ prog [.cell 6 42, .tmp 7, .tmp 8] n0 K))))
  {s : S} {f : RG} (hi : Gets n0 I s f h) : Sem J 152 n0 61 (subC [1, 1, 1, 1, 1, 1, 1, 0, 1, 0] (codeOf f61)) f h (contQ prog J 152 n0 61 [1, 1, 1, 1, 1, 1, 1, 0, 1, 0] (codeOf f61) [] (RetQ prog [.cell 6 42, .tmp 7, .tmp 8] n0 K)) :=
  loop_rule hJ mixed (b := subC [1, 1, 1, 1, 1, 1, 1, 0, 1, 0, 0] (codeOf f61)) (by kernel_rfl) μ I hI hi
-- loop [1, 1, 1, 1, 1, 1, 1, 1, 0, 1, 0, 0]
theorem s61_2 {f : RG} {nx0 : RG → List AObj → Prop} : W prog J 152 n0 61 (subC [1, 1, 1, 1, 1, 1, 1, 1, 0, 1, 0, 0] (codeOf f61)) f h (thenK nx0 (contQ prog J 152 n0 61 [1, 1, 1, 1, 1, 1, 1, 1, 0, 1, 0] (codeOf f61) [] (RetQ prog [.cell 6 42, .tmp 7, .tmp 8] n0 K))) =
(aBin prog .gtr 3 (f.r 16) (vint 0) fun v1 =>
cnd v1
(aOff (f.r 9) 0 fun v2 =>
aLoad false 1 v2 h fun v3 =>
aBin prog .sub 3 v3 (vint 1) fun v4 =>
Good prog J 22 [(f.r 0), v4] h fun v5 h6 =>
Good prog J 20 [(f.r 0), (vint 1), (vint 4)] h6 fun v7 h8 =>
Good prog J 22 [(f.r 0), (vint 10)] h8 fun v9 h10 =>
Good prog J 22 [(f.r 0), (vint 20)] h10 fun v11 h12 =>
((4 * 1 ≤ 16777216 ∧ 4 ≤ 16777216 ∧ List.length [(vint 0)] = 1) ∧ aFill (zrep [(vint 0)] 4) [(0, 1, (vint 0)), (1, 1, (vint 3)), (2, 1, v9), (3, 1, v11)] fun c13 =>
aNewS 4 c13 h12 fun v14 h15 =>
Good prog J 21 [(f.r 0), (vint 0), v14] h15 fun v16 h17 =>
aFill [(vint 0), (vint 0), (vint 0), (vint 0)] [(0, 1, v5), (1, 1, v7), (3, 1, v16)] fun c18 =>
aAlloc [(vint 0), (vint 0), (vint 0), (vint 0)] h17 fun v19 h20 =>
aStore 4 v19 (Value.agg ⟨c18⟩) h20 fun h21 =>
aOff v19 3 fun v22 =>
aLoad false 1 v22 h21 fun v23 =>
aOff v19 0 fun v24 =>
aLoad false 1 v24 h21 fun v25 =>
aIdx 1 (f.r 11) v25 fun v26 =>
aLoad false 1 v26 h21 fun v27 =>
aBin prog .mul 3 v23 v27 fun v28 =>
aBin prog .quo 3 v28 (vint 100) fun v29 =>
(∃ B, aOff v19 0 fun v30 =>
aLoad false 1 v30 h21 fun v31 =>
RdOk (some B) (ptrBlk v30) ∧ (aIdx 1 (f.r 11) v31 fun v32 =>
aLoad false 1 v32 h21 fun v33 =>
RdOk (some B) (ptrBlk v32) ∧ (aUn .neg v29 fun v34 =>
Good prog J 20 [(f.r 0), v34, v29] h21 fun v35 h36 =>
SameB (some B) h21 h36 ∧ (aBin prog .add 3 v33 v35 fun v37 =>
aOff v19 2 fun v38 =>
aStore 1 v38 v37 h36 fun h39 =>
aOff (f.r 9) 5 fun v40 =>
aLoad false 1 v40 h39 fun v41 =>
aLoad true 4 v19 h39 fun v42 =>
((1 * 4 ≤ 16777216 ∧ 1 ≤ 16777216 ∧ List.length [(vint 0), (vint 0), (vint 0), (vint 0)] = 4) ∧ aFill (zrep [(vint 0), (vint 0), (vint 0), (vint 0)] 1) [(0, 4, v42)] fun c43 =>
aNewS 1 c43 h39 fun v44 h45 =>
((List.length [(vint 0), (vint 0), (vint 0), (vint 0)] = 4 ∧ 0 < 4 ∧ 0 < 32 ∧ 32 ≤ 1024) ∧ aApp 4 v41 v44 h45 fun v46 h47 =>
aOff (f.r 9) 5 fun v48 =>
aStore 1 v48 v46 h47 fun h49 =>
aBin prog .sub 3 (f.r 16) (vint 1) fun v50 =>
nx0 (((((((((((((((((((((((((((((((((((((((((((((((((f.put 103 (f.r 16)).put 104 v1).put 107 (f.r 0)).put 108 v2).put 109 v3).put 110 v4).put 111 v5).put 112 (f.r 0)).put 113 v7).put 114 (f.r 0)).put 115 (f.r 0)).put 116 v9).put 117 (f.r 0)).put 118 v11).put 119 v14).put 120 v16).put 121 (Value.agg ⟨c18⟩)).put 17 v19).put 122 v22).put 123 v23).put 124 (f.r 11)).put 125 v24).put 126 v25).put 127 v26).put 128 v27).put 129 v28).put 130 v29).put 18 v29).put 131 (f.r 11)).put 132 v30).put 133 v31).put 134 v32).put 135 v33).put 136 (f.r 0)).put 137 v29).put 138 v34).put 139 v29).put 140 v35).put 141 v37).put 142 v38).put 143 v40).put 144 v41).put 145 v42).put 146 v44).put 147 v46).put 148 v48).put 105 (f.r 16)).put 106 v50).put 16 v50) h49))))))))
(aLoad true 6 (f.r 9) h fun v51 =>
aStore 6 (f.r 6) v51 h fun h52 =>
RetQ prog [.cell 6 42, .tmp 7, .tmp 8] n0 K .ret (((((((f.put 103 (f.r 16)).put 104 v1).put 149 v51).put 150 (f.r 11)).put 151 (f.r 12)).put 7 (f.r 11)).put 8 (f.r 12)) h52)) := by kernel_rfl
theorem l61_2 (hJ : Closed prog main J) {S : Type} (μ : S → Nat) (I : S → RG → List AObj → Prop) (hI : ∀ s f h, I s f h → heapOk h → n0 ≤ h.length → W prog J 152 n0 61 (subC [1, 1, 1, 1, 1, 1, 1, 1, 0, 1, 0, 0] (codeOf f61)) f h (thenK (Nx n0 μ I s) (contQ prog J 152 n0 61 [1, 1, 1, 1, 1, 1, 1, 1, 0, 1, 0] (codeOf f61) [] (RetQ prog [.cell 6 42, .tmp 7, .tmp 8] n0 K))))
  {s : S} {f : RG} (hi : Gets n0 I s f h) : Sem J 152 n0 61 (subC [1, 1, 1, 1, 1, 1, 1, 1, 0, 1, 0] (codeOf f61)) f h (contQ prog J 152 n0 61 [1, 1, 1, 1, 1, 1, 1, 1, 0, 1, 0] (codeOf f61) [] (RetQ prog [.cell 6 42, .tmp 7, .tmp 8] n0 K)) :=
  loop_rule hJ mixed (b := subC [1, 1, 1, 1, 1, 1, 1, 1, 0, 1, 0, 0] (codeOf f61)) (by kernel_rfl) μ I hI hi
theorem at69 : prog.funcs[69]? = some f69 := by kernel_rfl
theorem body69 : f69.body = some (codeOf f69) := by kernel_rfl
theorem e69 {a0 a1 a2 : Value} : W prog J 13 h.length 69 (codeOf f69) (RG.mk (regs [a0, a1, a2]) []) h (RetQ prog [.tmp 6] h.length K) =
(aBin prog .sub 3 a2 (vint 1) fun v1 =>
Good prog J 22 [a0, v1] h fun v2 h3 =>
aBin prog .lss 3 v2 a1 fun v4 =>
retL h.length K [] [v4] h3) := by kernel_rfl
theorem g69 (hJ : Closed prog main J) {a0 a1 a2 : Value} (hs : heapOk h → W prog J 13 h.length 69 (codeOf f69) (RG.mk (regs [a0, a1, a2]) []) h (RetQ prog [.tmp 6] h.length K)) : Good prog J 69 [a0, a1, a2] h K :=
  good_of_W hJ mixed at69 body69 (by kernel_rfl) (Nat.le_of_ble_eq_true rfl) hs
theorem at28 : prog.funcs[28]? = some f28 := by kernel_rfl
theorem body28 : f28.body = some (codeOf f28) := by kernel_rfl
theorem e28 {a0 a1 a2 : Value} : W prog J 44 h.length 28 (codeOf f28) (RG.mk (regs [a0, a1, a2]) []) h (RetQ prog [.cell 6 42] h.length K) =
(aAlloc [(vint 0), (vint 0), (vint 0), (Value.slice none 0 0), (vint 0), (Value.slice none 0 0)] h fun v1 h2 =>
Good prog J 61 [a0, a1, a2] h2 fun v3 h4 =>
aExt v3 0 fun v5 =>
aExt v3 1 fun v6 =>
aExt v3 2 fun v7 =>
aAlloc [(vint 0), (vint 0), (vint 0), (Value.slice none 0 0), (vint 0), (Value.slice none 0 0)] h4 fun v8 h9 =>
aStore 6 v8 v5 h9 fun h10 =>
Sem J 44 h.length 28 (subC [1, 1, 0, 1, 0] (codeOf f28)) ((((((((((((((RG.mk (regs [a0, a1, a2]) []).put 6 v1).put 12 a0).put 13 a1).put 14 a2).put 15 v3).put 11 v3).put 16 v5).put 17 v6).put 18 v7).put 7 v8).put 8 v6).put 9 v7).put 10 (vint 0)) h10 (contQ prog J 44 h.length 28 [1, 1, 0, 1, 0] (codeOf f28) [] (RetQ prog [.cell 6 42] h.length K))) := by kernel_rfl
theorem g28 (hJ : Closed prog main J) {a0 a1 a2 : Value} (hs : heapOk h → W prog J 44 h.length 28 (codeOf f28) (RG.mk (regs [a0, a1, a2]) []) h (RetQ prog [.cell 6 42] h.length K)) : Good prog J 28 [a0, a1, a2] h K :=
  good_of_W hJ mixed at28 body28 (by kernel_rfl) (Nat.le_of_ble_eq_true rfl) hs
-- loop [1, 1, 0, 1, 0, 0]
theorem s28_1 {f : RG} {nx0 : RG → List AObj → Prop} : W prog J 44 n0 28 (subC [1, 1, 0, 1, 0, 0] (codeOf f28)) f h (thenK nx0 (contQ prog J 44 n0 28 [1, 1, 0, 1, 0] (codeOf f28) [] (RetQ prog [.cell 6 42] n0 K))) =
(aOff (f.r 7) 5 fun v1 =>
aLoad false 1 v1 h fun v2 =>
aLenS v2 fun v3 =>
aBin prog .lss 3 (f.r 10) v3 fun v4 =>
cnd v4
(Good prog J 69 [(f.r 0), (vint 1), (vint 4)] h fun v5 h6 =>
cnd v5
((∃ B, aOff (f.r 7) 5 fun v7 =>
aLoad false 1 v7 h6 fun v8 =>
RdOk (some B) (ptrBlk v7) ∧ (aOff (f.r 7) 5 fun v9 =>
aLoad false 1 v9 h6 fun v10 =>
RdOk (some B) (ptrBlk v9) ∧ (aIdx 4 v10 (f.r 10) fun v11 =>
aOff v11 2 fun v12 =>
aLoad false 1 v12 h6 fun v13 =>
RdOk (some B) (ptrBlk v12) ∧ (Good prog J 20 [(f.r 0), (vint (-8)), (vint 8)] h6 fun v14 h15 =>
SameB (some B) h6 h15 ∧ (aBin prog .add 3 v13 v14 fun v16 =>
aMax (vint 0) [v16] fun v17 =>
aIdx 4 v8 (f.r 10) fun v18 =>
aOff v18 2 fun v19 =>
aStore 1 v19 v17 h15 fun h20 =>
aBin prog .add 3 (f.r 10) (vint 1) fun v21 =>
nx0 (((((((((((((((((((((((((f.put 19 (f.r 10)).put 20 v1).put 21 v2).put 22 v3).put 23 v4).put 26 (f.r 0)).put 27 v5).put 28 v7).put 29 v8).put 30 (f.r 10)).put 31 v9).put 32 v10).put 33 (f.r 10)).put 34 v11).put 35 v12).put 36 v13).put 37 (f.r 0)).put 38 v14).put 39 v16).put 40 v17).put 41 v18).put 42 v19).put 24 (f.r 10)).put 25 v21).put 10 v21) h20))))))
(aBin prog .add 3 (f.r 10) (vint 1) fun v22 =>
nx0 ((((((((((f.put 19 (f.r 10)).put 20 v1).put 21 v2).put 22 v3).put 23 v4).put 26 (f.r 0)).put 27 v5).put 24 (f.r 10)).put 25 v22).put 10 v22) h6))
(aLoad true 6 (f.r 7) h fun v23 =>
aStore 6 (f.r 6) v23 h fun h24 =>
RetQ prog [.cell 6 42] n0 K .ret ((((((f.put 19 (f.r 10)).put 20 v1).put 21 v2).put 22 v3).put 23 v4).put 43 v23) h24)) := by kernel_rfl
theorem l28_1 (hJ : Closed prog main J) {S : Type} (μ : S → Nat) (I : S → RG → List AObj → Prop) (hI : ∀ s f h, I s f h → heapOk h → n0 ≤ h.length → W prog J 44 n0 28 (subC [1, 1, 0, 1, 0, 0] (codeOf f28)) f h (thenK (Nx n0 μ I s) (contQ prog J 44 n0 28 [1, 1, 0, 1, 0] (codeOf f28) [] (RetQ prog [.cell 6 42] n0 K))))
  {s : S} {f : RG} (hi : Gets n0 I s f h) : Sem J 44 n0 28 (subC [1, 1, 0, 1, 0] (codeOf f28)) f h (contQ prog J 44 n0 28 [1, 1, 0, 1, 0] (codeOf f28) [] (RetQ prog [.cell 6 42] n0 K)) :=
  loop_rule hJ mixed (b := subC [1, 1, 0, 1, 0, 0] (codeOf f28)) (by kernel_rfl) μ I hI hi
end
end Go.Proofs.Ytdgpacdknpahnaa

/- Printed by program: the forms to which the bodies of some functions come down. No conditions. -/
namespace Go.Proofs.Ytdgpacdknpahnaa
open Go.Conc Go.Proofs.Try
set_option maxRecDepth 100000
set_option linter.unusedVariables false
section
variable {main : Bool} {J : JT} {n0 : Nat} {h : List AObj} {K : Value → List AObj → Prop}
theorem at51 : prog.funcs[51]? = some f51 := by kernel_rfl
theorem body51 : f51.body = some (codeOf f51) := by kernel_rfl
theorem e51 {a0 : Value} : W prog J 72 h.length 51 (codeOf f51) (RG.mk (regs [a0]) []) h (RetQ prog [.tmp 2] h.length K) =
(aBox a0 h fun v1 h2 =>
aOff v1 0 fun v3 =>
aLoad false 1 v3 h2 fun v4 =>
Good prog J 67 [v4, (vint 1), (vint 5)] h2 fun v5 h6 =>
aUn .not v5 fun v7 =>
cnd v7
(retL h.length K [] [(vint 1)] h6)
(aOff v1 1 fun v8 =>
aLoad true 2 v8 h6 fun v9 =>
Good prog J 86 [v9, (vint 0), (vint 300)] h6 fun v10 h11 =>
aBin prog .neq 32 v10 (vint 0) fun v12 =>
cnd v12
(retL h.length K [] [v10] h11)
(aOff v1 3 fun v13 =>
aLoad false 1 v13 h11 fun v14 =>
aLenS v14 fun v15 =>
aOff v1 0 fun v16 =>
aLoad false 1 v16 h11 fun v17 =>
aBin prog .sub 3 v17 (vint 1) fun v18 =>
aBin prog .lss 3 v15 v18 fun v19 =>
cnd v19
(retL h.length K [] [(vint 7)] h11)
(aOff v1 0 fun v20 =>
aLoad false 1 v20 h11 fun v21 =>
aBin prog .sub 3 v21 (vint 1) fun v22 =>
aBin prog .gtr 3 v15 v22 fun v23 =>
cnd v23
(retL h.length K [] [(vint 6)] h11)
(aOff v1 3 fun v24 =>
aLoad false 1 v24 h11 fun v25 =>
aLenS v25 fun v26 =>
Sem J 72 h.length 51 (subC [1, 1, 1, 1, 0, 1, 0] (codeOf f51)) (((((((((((((((((((((((((((((((((RG.mk (regs [a0]) []).put 1 v1).put 2 (vint 0)).put 11 v3).put 12 v4).put 13 v5).put 14 v7).put 15 v8).put 16 v9).put 17 v10).put 3 v10).put 18 v10).put 19 v12).put 21 v13).put 22 v14).put 23 v15).put 4 v15).put 25 v15).put 26 v16).put 27 v17).put 28 v18).put 29 v19).put 24 v19).put 31 v15).put 32 v20).put 33 v21).put 34 v22).put 35 v23).put 30 v23).put 36 v24).put 37 v25).put 38 v26).put 39 (vint 0)) h11 (contQ prog J 72 h.length 51 [1, 1, 1, 1, 0, 1, 0] (codeOf f51) [] (RetQ prog [.tmp 2] h.length K))))))) := by kernel_rfl
theorem g51 (hJ : Closed prog main J) {a0 : Value} (hs : heapOk h → W prog J 72 h.length 51 (codeOf f51) (RG.mk (regs [a0]) []) h (RetQ prog [.tmp 2] h.length K)) : Good prog J 51 [a0] h K :=
  good_of_W hJ mixed at51 body51 (by kernel_rfl) (Nat.le_of_ble_eq_true rfl) hs
-- loop [1, 1, 1, 1, 0, 1, 0, 0]
theorem s51_1 {f : RG} {nx0 : RG → List AObj → Prop} : W prog J 72 n0 51 (subC [1, 1, 1, 1, 0, 1, 0, 0] (codeOf f51)) f h (thenK nx0 (contQ prog J 72 n0 51 [1, 1, 1, 1, 0, 1, 0] (codeOf f51) [] (RetQ prog [.tmp 2] n0 K))) =
(aBin prog .lss 3 (f.r 39) (f.r 38) fun v1 =>
cnd v1
(aIdx 2 (f.r 37) (f.r 39) fun v2 =>
aLoad true 2 v2 h fun v3 =>
aAlloc [(vint 0), (vint 0)] h fun v4 h5 =>
aStore 2 v4 v3 h5 fun h6 =>
aLoad true 2 v4 h6 fun v7 =>
Good prog J 86 [v7, (vint (-60)), (vint 60)] h6 fun v8 h9 =>
aBin prog .neq 32 v8 (vint 0) fun v10 =>
cnd v10
(retL n0 K f.ds [v8] h9)
(aBin prog .add 3 (f.r 39) (vint 1) fun v11 =>
nx0 (((((((((((f.put 40 v1).put 41 v2).put 42 v3).put 6 v4).put 43 v7).put 44 v8).put 7 v8).put 45 v8).put 46 v10).put 48 v11).put 39 v11) h9))
(aOff (f.r 1) 4 fun v12 =>
aLoad false 1 v12 h fun v13 =>
Good prog J 67 [v13, (vint 0), (vint 60)] h fun v14 h15 =>
aUn .not v14 fun v16 =>
cnd v16
(retL n0 K f.ds [(vint 1)] h15)
(aOff (f.r 1) 5 fun v17 =>
aLoad false 1 v17 h15 fun v18 =>
aLenS v18 fun v19 =>
aBin prog .gtr 3 v19 (vint 7) fun v20 =>
cnd v20
(retL n0 K f.ds [(vint 6)] h15)
(aOff (f.r 1) 5 fun v21 =>
aLoad false 1 v21 h15 fun v22 =>
aLenS v22 fun v23 =>
Sem J 72 n0 51 (subC [1, 1, 1, 1, 1, 1, 1, 0, 1, 0] (codeOf f51)) (((((((((((((f.put 40 v1).put 49 v12).put 50 v13).put 51 v14).put 52 v16).put 53 v17).put 54 v18).put 55 v19).put 56 v20).put 57 v21).put 58 v22).put 59 v23).put 60 (vint 0)) h15 (contQ prog J 72 n0 51 [1, 1, 1, 1, 1, 1, 1, 0, 1, 0] (codeOf f51) [] (RetQ prog [.tmp 2] n0 K)))))) := by kernel_rfl
theorem l51_1 (hJ : Closed prog main J) {S : Type} (μ : S → Nat) (I : S → RG → List AObj → Prop) (hI : ∀ s f h, I s f h → heapOk h → n0 ≤ h.length → W prog J 72 n0 51 (subC [1, 1, 1, 1, 0, 1, 0, 0] (codeOf f51)) f h (thenK (Nx n0 μ I s) (contQ prog J 72 n0 51 [1, 1, 1, 1, 0, 1, 0] (codeOf f51) [] (RetQ prog [.tmp 2] n0 K))))
  {s : S} {f : RG} (hi : Gets n0 I s f h) : Sem J 72 n0 51 (subC [1, 1, 1, 1, 0, 1, 0] (codeOf f51)) f h (contQ prog J 72 n0 51 [1, 1, 1, 1, 0, 1, 0] (codeOf f51) [] (RetQ prog [.tmp 2] n0 K)) :=
  loop_rule hJ mixed (b := subC [1, 1, 1, 1, 0, 1, 0, 0] (codeOf f51)) (by kernel_rfl) μ I hI hi
-- loop [1, 1, 1, 1, 1, 1, 1, 0, 1, 0, 0]
theorem s51_2 {f : RG} {nx0 : RG → List AObj → Prop} : W prog J 72 n0 51 (subC [1, 1, 1, 1, 1, 1, 1, 0, 1, 0, 0] (codeOf f51)) f h (thenK nx0 (contQ prog J 72 n0 51 [1, 1, 1, 1, 1, 1, 1, 0, 1, 0] (codeOf f51) [] (RetQ prog [.tmp 2] n0 K))) =
(aBin prog .lss 3 (f.r 60) (f.r 59) fun v1 =>
cnd v1
(aIdx 4 (f.r 58) (f.r 60) fun v2 =>
aLoad true 4 v2 h fun v3 =>
aAlloc [(vint 0), (vint 0), (vint 0), (vint 0)] h fun v4 h5 =>
aStore 4 v4 v3 h5 fun h6 =>
aLoad true 4 v4 h6 fun v7 =>
aOff (f.r 1) 0 fun v8 =>
aLoad false 1 v8 h6 fun v9 =>
Good prog J 77 [v7, v9] h6 fun v10 h11 =>
aBin prog .neq 32 v10 (vint 0) fun v12 =>
cnd v12
(retL n0 K f.ds [v10] h11)
(aBin prog .add 3 (f.r 60) (vint 1) fun v13 =>
nx0 (((((((((((((f.put 61 v1).put 62 v2).put 63 v3).put 9 v4).put 64 v7).put 65 v8).put 66 v9).put 67 v10).put 10 v10).put 68 v10).put 69 v12).put 71 v13).put 60 v13) h11))
(retL n0 K f.ds [(vint 0)] h)) := by kernel_rfl
theorem l51_2 (hJ : Closed prog main J) {S : Type} (μ : S → Nat) (I : S → RG → List AObj → Prop) (hI : ∀ s f h, I s f h → heapOk h → n0 ≤ h.length → W prog J 72 n0 51 (subC [1, 1, 1, 1, 1, 1, 1, 0, 1, 0, 0] (codeOf f51)) f h (thenK (Nx n0 μ I s) (contQ prog J 72 n0 51 [1, 1, 1, 1, 1, 1, 1, 0, 1, 0] (codeOf f51) [] (RetQ prog [.tmp 2] n0 K))))
  {s : S} {f : RG} (hi : Gets n0 I s f h) : Sem J 72 n0 51 (subC [1, 1, 1, 1, 1, 1, 1, 0, 1, 0] (codeOf f51)) f h (contQ prog J 72 n0 51 [1, 1, 1, 1, 1, 1, 1, 0, 1, 0] (codeOf f51) [] (RetQ prog [.tmp 2] n0 K)) :=
  loop_rule hJ mixed (b := subC [1, 1, 1, 1, 1, 1, 1, 0, 1, 0, 0] (codeOf f51)) (by kernel_rfl) μ I hI hi
theorem at52 : prog.funcs[52]? = some f52 := by kernel_rfl
theorem body52 : f52.body = some (codeOf f52) := by kernel_rfl
theorem e52 {a0 : Value} : W prog J 74 h.length 52 (codeOf f52) (RG.mk (regs [a0]) []) h (RetQ prog [.tmp 2] h.length K) =
(aBox a0 h fun v1 h2 =>
aOff v1 0 fun v3 =>
aLoad false 1 v3 h2 fun v4 =>
Good prog J 68 [v4, (vint 1), (vint 5)] h2 fun v5 h6 =>
aUn .not v5 fun v7 =>
cnd v7
(retL h.length K [] [(vint 1)] h6)
(aOff v1 1 fun v8 =>
aLoad true 2 v8 h6 fun v9 =>
Good prog J 87 [v9, (vint 0), (vint 300)] h6 fun v10 h11 =>
aBin prog .neq 32 v10 (vint 0) fun v12 =>
cnd v12
(retL h.length K [] [v10] h11)
(aOff v1 3 fun v13 =>
aLoad false 1 v13 h11 fun v14 =>
aLenS v14 fun v15 =>
aOff v1 0 fun v16 =>
aLoad false 1 v16 h11 fun v17 =>
aBin prog .sub 3 v17 (vint 1) fun v18 =>
aBin prog .lss 3 v15 v18 fun v19 =>
cnd v19
(retL h.length K [] [(vint 7)] h11)
(aOff v1 3 fun v20 =>
aLoad false 1 v20 h11 fun v21 =>
aLenS v21 fun v22 =>
aOff v1 0 fun v23 =>
aLoad false 1 v23 h11 fun v24 =>
aBin prog .sub 3 v24 (vint 1) fun v25 =>
aBin prog .gtr 3 v22 v25 fun v26 =>
cnd v26
(retL h.length K [] [(vint 6)] h11)
(Sem J 74 h.length 52 (subC [1, 1, 1, 1, 1, 0, 1, 0] (codeOf f52)) ((((((((((((((((((((((((((((RG.mk (regs [a0]) []).put 1 v1).put 2 (vint 0)).put 8 v3).put 9 v4).put 10 v5).put 11 v7).put 12 v8).put 13 v9).put 14 v10).put 3 v10).put 15 v10).put 16 v12).put 18 v13).put 19 v14).put 20 v15).put 21 v16).put 22 v17).put 23 v18).put 24 v19).put 25 v20).put 26 v21).put 27 v22).put 28 v23).put 29 v24).put 30 v25).put 31 v26).put 4 (vint 0)) h11 (contQ prog J 74 h.length 52 [1, 1, 1, 1, 1, 0, 1, 0] (codeOf f52) [] (RetQ prog [.tmp 2] h.length K))))))) := by kernel_rfl
theorem g52 (hJ : Closed prog main J) {a0 : Value} (hs : heapOk h → W prog J 74 h.length 52 (codeOf f52) (RG.mk (regs [a0]) []) h (RetQ prog [.tmp 2] h.length K)) : Good prog J 52 [a0] h K :=
  good_of_W hJ mixed at52 body52 (by kernel_rfl) (Nat.le_of_ble_eq_true rfl) hs
-- loop [1, 1, 1, 1, 1, 0, 1, 0, 0]
theorem s52_1 {f : RG} {nx0 : RG → List AObj → Prop} : W prog J 74 n0 52 (subC [1, 1, 1, 1, 1, 0, 1, 0, 0] (codeOf f52)) f h (thenK nx0 (contQ prog J 74 n0 52 [1, 1, 1, 1, 1, 0, 1, 0] (codeOf f52) [] (RetQ prog [.tmp 2] n0 K))) =
(aOff (f.r 1) 3 fun v1 =>
aLoad false 1 v1 h fun v2 =>
aLenS v2 fun v3 =>
aBin prog .lss 3 (f.r 4) v3 fun v4 =>
cnd v4
(aOff (f.r 1) 3 fun v5 =>
aLoad false 1 v5 h fun v6 =>
aIdx 2 v6 (f.r 4) fun v7 =>
aLoad true 2 v7 h fun v8 =>
Good prog J 87 [v8, (vint (-60)), (vint 60)] h fun v9 h10 =>
aBin prog .neq 32 v9 (vint 0) fun v11 =>
cnd v11
(retL n0 K f.ds [v9] h10)
(aBin prog .add 3 (f.r 4) (vint 1) fun v12 =>
nx0 (((((((((((((((((f.put 32 (f.r 4)).put 33 v1).put 34 v2).put 35 v3).put 36 v4).put 39 v5).put 40 v6).put 41 (f.r 4)).put 42 v7).put 43 v8).put 44 v9).put 5 v9).put 45 v9).put 46 v11).put 37 (f.r 4)).put 38 v12).put 4 v12) h10))
(aOff (f.r 1) 4 fun v13 =>
aLoad false 1 v13 h fun v14 =>
Good prog J 68 [v14, (vint 0), (vint 60)] h fun v15 h16 =>
aUn .not v15 fun v17 =>
cnd v17
(retL n0 K f.ds [(vint 1)] h16)
(aOff (f.r 1) 5 fun v18 =>
aLoad false 1 v18 h16 fun v19 =>
aLenS v19 fun v20 =>
aBin prog .gtr 3 v20 (vint 7) fun v21 =>
cnd v21
(retL n0 K f.ds [(vint 6)] h16)
(Sem J 74 n0 52 (subC [1, 1, 1, 1, 1, 1, 1, 1, 0, 1, 0] (codeOf f52)) ((((((((((((((f.put 32 (f.r 4)).put 33 v1).put 34 v2).put 35 v3).put 36 v4).put 48 v13).put 49 v14).put 50 v15).put 51 v17).put 52 v18).put 53 v19).put 54 v20).put 55 v21).put 6 (vint 0)) h16 (contQ prog J 74 n0 52 [1, 1, 1, 1, 1, 1, 1, 1, 0, 1, 0] (codeOf f52) [] (RetQ prog [.tmp 2] n0 K)))))) := by kernel_rfl
theorem l52_1 (hJ : Closed prog main J) {S : Type} (μ : S → Nat) (I : S → RG → List AObj → Prop) (hI : ∀ s f h, I s f h → heapOk h → n0 ≤ h.length → W prog J 74 n0 52 (subC [1, 1, 1, 1, 1, 0, 1, 0, 0] (codeOf f52)) f h (thenK (Nx n0 μ I s) (contQ prog J 74 n0 52 [1, 1, 1, 1, 1, 0, 1, 0] (codeOf f52) [] (RetQ prog [.tmp 2] n0 K))))
  {s : S} {f : RG} (hi : Gets n0 I s f h) : Sem J 74 n0 52 (subC [1, 1, 1, 1, 1, 0, 1, 0] (codeOf f52)) f h (contQ prog J 74 n0 52 [1, 1, 1, 1, 1, 0, 1, 0] (codeOf f52) [] (RetQ prog [.tmp 2] n0 K)) :=
  loop_rule hJ mixed (b := subC [1, 1, 1, 1, 1, 0, 1, 0, 0] (codeOf f52)) (by kernel_rfl) μ I hI hi
-- loop [1, 1, 1, 1, 1, 1, 1, 1, 0, 1, 0, 0]
theorem s52_2 {f : RG} {nx0 : RG → List AObj → Prop} : W prog J 74 n0 52 (subC [1, 1, 1, 1, 1, 1, 1, 1, 0, 1, 0, 0] (codeOf f52)) f h (thenK nx0 (contQ prog J 74 n0 52 [1, 1, 1, 1, 1, 1, 1, 1, 0, 1, 0] (codeOf f52) [] (RetQ prog [.tmp 2] n0 K))) =
(aOff (f.r 1) 5 fun v1 =>
aLoad false 1 v1 h fun v2 =>
aLenS v2 fun v3 =>
aBin prog .lss 3 (f.r 6) v3 fun v4 =>
cnd v4
((∃ B, aOff (f.r 1) 5 fun v5 =>
aLoad false 1 v5 h fun v6 =>
RdOk (some B) (ptrBlk v5) ∧ (aIdx 4 v6 (f.r 6) fun v7 =>
aLoad true 4 v7 h fun v8 =>
RdOk (some B) (ptrBlk v7) ∧ (aOff (f.r 1) 0 fun v9 =>
aLoad false 1 v9 h fun v10 =>
RdOk (some B) (ptrBlk v9) ∧ (Good prog J 84 [v8, v10] h fun v11 h12 =>
SameB (some B) h h12 ∧ (aBin prog .neq 32 v11 (vint 0) fun v13 =>
cnd v13
(retL n0 K f.ds [v11] h12)
(aBin prog .add 3 (f.r 6) (vint 1) fun v14 =>
nx0 (((((((((((((((((((f.put 56 (f.r 6)).put 57 v1).put 58 v2).put 59 v3).put 60 v4).put 63 v5).put 64 v6).put 65 (f.r 6)).put 66 v7).put 67 v8).put 68 v9).put 69 v10).put 70 v11).put 7 v11).put 71 v11).put 72 v13).put 61 (f.r 6)).put 62 v14).put 6 v14) h12)))))))
(retL n0 K f.ds [(vint 0)] h)) := by kernel_rfl
theorem l52_2 (hJ : Closed prog main J) {S : Type} (μ : S → Nat) (I : S → RG → List AObj → Prop) (hI : ∀ s f h, I s f h → heapOk h → n0 ≤ h.length → W prog J 74 n0 52 (subC [1, 1, 1, 1, 1, 1, 1, 1, 0, 1, 0, 0] (codeOf f52)) f h (thenK (Nx n0 μ I s) (contQ prog J 74 n0 52 [1, 1, 1, 1, 1, 1, 1, 1, 0, 1, 0] (codeOf f52) [] (RetQ prog [.tmp 2] n0 K))))
  {s : S} {f : RG} (hi : Gets n0 I s f h) : Sem J 74 n0 52 (subC [1, 1, 1, 1, 1, 1, 1, 1, 0, 1, 0] (codeOf f52)) f h (contQ prog J 74 n0 52 [1, 1, 1, 1, 1, 1, 1, 1, 0, 1, 0] (codeOf f52) [] (RetQ prog [.tmp 2] n0 K)) :=
  loop_rule hJ mixed (b := subC [1, 1, 1, 1, 1, 1, 1, 1, 0, 1, 0, 0] (codeOf f52)) (by kernel_rfl) μ I hI hi
theorem at84 : prog.funcs[84]? = some f84 := by kernel_rfl
theorem body84 : f84.body = some (codeOf f84) := by kernel_rfl
theorem e84 {a0 a1 : Value} : W prog J 27 h.length 84 (codeOf f84) (RG.mk (regs [a0, a1]) []) h (RetQ prog [.tmp 4] h.length K) =
(aBox a0 h fun v1 h2 =>
aOff v1 0 fun v3 =>
aLoad false 1 v3 h2 fun v4 =>
aBin prog .sub 3 a1 (vint 1) fun v5 =>
Good prog J 68 [v4, (vint 0), v5] h2 fun v6 h7 =>
aUn .not v6 fun v8 =>
cnd v8
(retL h.length K [] [(vint 3)] h7)
(aOff v1 1 fun v9 =>
aLoad false 1 v9 h7 fun v10 =>
Good prog J 68 [v10, (vint 1), (vint 9)] h7 fun v11 h12 =>
aUn .not v11 fun v13 =>
cnd v13
(cnd (Value.bool true)
(W prog J 27 h.length 84 (subC [1, 1, 0, 1] (codeOf f84)) (((((((((((((((((((((((((((RG.mk (regs [a0, a1]) []).put 2 v1).put 4 (vint 0)).put 5 v3).put 6 v4).put 7 a1).put 8 v5).put 9 v6).put 10 v8).put 11 v9).put 12 v10).put 13 v11).put 14 v13).put 15 v13).put 15 (Value.bool true)).put 16 undef).put 17 undef).put 18 undef).put 19 undef).put 20 (Value.bool true)).put 21 (Value.bool true)).put 21 (Value.bool true)).put 22 undef).put 23 undef).put 24 undef).put 25 undef).put 26 (Value.bool true)) h12 (contQ prog J 27 h.length 84 [1, 1, 0, 1] (codeOf f84) [] (RetQ prog [.tmp 4] h.length K)))
(aOff v1 3 fun v14 =>
aLoad false 1 v14 h12 fun v15 =>
Good prog J 68 [v15, (vint 0), (vint 20)] h12 fun v16 h17 =>
aUn .not v16 fun v18 =>
W prog J 27 h.length 84 (subC [1, 1, 0, 1] (codeOf f84)) (((((((((((((((((((((((((((RG.mk (regs [a0, a1]) []).put 2 v1).put 4 (vint 0)).put 5 v3).put 6 v4).put 7 a1).put 8 v5).put 9 v6).put 10 v8).put 11 v9).put 12 v10).put 13 v11).put 14 v13).put 15 v13).put 15 (Value.bool true)).put 16 undef).put 17 undef).put 18 undef).put 19 undef).put 20 (Value.bool true)).put 21 (Value.bool true)).put 21 (Value.bool false)).put 22 v14).put 23 v15).put 24 v16).put 25 v18).put 26 v18) h17 (contQ prog J 27 h.length 84 [1, 1, 0, 1] (codeOf f84) [] (RetQ prog [.tmp 4] h.length K))))
(aOff v1 2 fun v19 =>
aLoad false 1 v19 h12 fun v20 =>
Good prog J 68 [v20, (vint 0), (vint 300)] h12 fun v21 h22 =>
aUn .not v21 fun v23 =>
cnd v23
(W prog J 27 h.length 84 (subC [1, 1, 0, 1] (codeOf f84)) (((((((((((((((((((((((((((RG.mk (regs [a0, a1]) []).put 2 v1).put 4 (vint 0)).put 5 v3).put 6 v4).put 7 a1).put 8 v5).put 9 v6).put 10 v8).put 11 v9).put 12 v10).put 13 v11).put 14 v13).put 15 v13).put 15 (Value.bool false)).put 16 v19).put 17 v20).put 18 v21).put 19 v23).put 20 v23).put 21 v23).put 21 (Value.bool true)).put 22 undef).put 23 undef).put 24 undef).put 25 undef).put 26 (Value.bool true)) h22 (contQ prog J 27 h.length 84 [1, 1, 0, 1] (codeOf f84) [] (RetQ prog [.tmp 4] h.length K)))
(aOff v1 3 fun v24 =>
aLoad false 1 v24 h22 fun v25 =>
Good prog J 68 [v25, (vint 0), (vint 20)] h22 fun v26 h27 =>
aUn .not v26 fun v28 =>
W prog J 27 h.length 84 (subC [1, 1, 0, 1] (codeOf f84)) (((((((((((((((((((((((((((RG.mk (regs [a0, a1]) []).put 2 v1).put 4 (vint 0)).put 5 v3).put 6 v4).put 7 a1).put 8 v5).put 9 v6).put 10 v8).put 11 v9).put 12 v10).put 13 v11).put 14 v13).put 15 v13).put 15 (Value.bool false)).put 16 v19).put 17 v20).put 18 v21).put 19 v23).put 20 v23).put 21 v23).put 21 (Value.bool false)).put 22 v24).put 23 v25).put 24 v26).put 25 v28).put 26 v28) h27 (contQ prog J 27 h.length 84 [1, 1, 0, 1] (codeOf f84) [] (RetQ prog [.tmp 4] h.length K)))))) := by kernel_rfl
theorem g84 (hJ : Closed prog main J) {a0 a1 : Value} (hs : heapOk h → W prog J 27 h.length 84 (codeOf f84) (RG.mk (regs [a0, a1]) []) h (RetQ prog [.tmp 4] h.length K)) : Good prog J 84 [a0, a1] h K :=
  good_of_W hJ mixed at84 body84 (by kernel_rfl) (Nat.le_of_ble_eq_true rfl) hs
-- join [1, 1, 0, 1]
theorem s84_1 {f : RG} : W prog J 27 n0 84 (subC [1, 1, 0, 1] (codeOf f84)) f h (contQ prog J 27 n0 84 [1, 1, 0, 1] (codeOf f84) [] (RetQ prog [.tmp 4] n0 K)) =
(cnd (f.r 26)
(retL n0 K f.ds [(vint 1)] h)
(retL n0 K f.ds [(vint 0)] h)) := by kernel_rfl
theorem at86 : prog.funcs[86]? = some f86 := by kernel_rfl
theorem body86 : f86.body = some (codeOf f86) := by kernel_rfl
theorem e86 {a0 a1 a2 : Value} : W prog J 26 h.length 86 (codeOf f86) (RG.mk (regs [a0, a1, a2]) []) h (RetQ prog [.tmp 6] h.length K) =
(aBox a0 h fun v1 h2 =>
aOff v1 0 fun v3 =>
aLoad false 1 v3 h2 fun v4 =>
Good prog J 67 [v4, a1, a2] h2 fun v5 h6 =>
aUn .not v5 fun v7 =>
cnd v7
(W prog J 26 h.length 86 (subC [1, 0, 0, 1] (codeOf f86)) ((((((((((RG.mk (regs [a0, a1, a2]) []).put 3 v1).put 6 (vint 0)).put 8 v3).put 9 v4).put 10 a1).put 11 a2).put 12 v5).put 13 v7).put 7 v7) h6 (contQ prog J 26 h.length 86 [1, 0, 0, 1] (codeOf f86) [] (RetQ prog [.tmp 6] h.length K)))
(aOff v1 1 fun v8 =>
aLoad false 1 v8 h6 fun v9 =>
Good prog J 67 [v9, a1, a2] h6 fun v10 h11 =>
aUn .not v10 fun v12 =>
W prog J 26 h.length 86 (subC [1, 0, 0, 1] (codeOf f86)) (((((((((((((((((RG.mk (regs [a0, a1, a2]) []).put 3 v1).put 6 (vint 0)).put 8 v3).put 9 v4).put 10 a1).put 11 a2).put 12 v5).put 13 v7).put 7 v7).put 14 v8).put 15 v9).put 16 a1).put 17 a2).put 18 v10).put 19 v12).put 7 v12) h11 (contQ prog J 26 h.length 86 [1, 0, 0, 1] (codeOf f86) [] (RetQ prog [.tmp 6] h.length K)))) := by kernel_rfl
theorem g86 (hJ : Closed prog main J) {a0 a1 a2 : Value} (hs : heapOk h → W prog J 26 h.length 86 (codeOf f86) (RG.mk (regs [a0, a1, a2]) []) h (RetQ prog [.tmp 6] h.length K)) : Good prog J 86 [a0, a1, a2] h K :=
  good_of_W hJ mixed at86 body86 (by kernel_rfl) (Nat.le_of_ble_eq_true rfl) hs
-- join [1, 0, 0, 1]
theorem s86_1 {f : RG} : W prog J 26 n0 86 (subC [1, 0, 0, 1] (codeOf f86)) f h (contQ prog J 26 n0 86 [1, 0, 0, 1] (codeOf f86) [] (RetQ prog [.tmp 6] n0 K)) =
(cnd (f.r 7)
(retL n0 K f.ds [(vint 1)] h)
(aOff (f.r 3) 0 fun v1 =>
aLoad false 1 v1 h fun v2 =>
aOff (f.r 3) 1 fun v3 =>
aLoad false 1 v3 h fun v4 =>
aBin prog .gtr 3 v2 v4 fun v5 =>
cnd v5
(retL n0 K f.ds [(vint 5)] h)
(retL n0 K f.ds [(vint 0)] h))) := by kernel_rfl
theorem at87 : prog.funcs[87]? = some f87 := by kernel_rfl
theorem body87 : f87.body = some (codeOf f87) := by kernel_rfl
theorem e87 {a0 a1 a2 : Value} : W prog J 26 h.length 87 (codeOf f87) (RG.mk (regs [a0, a1, a2]) []) h (RetQ prog [.tmp 6] h.length K) =
(aBox a0 h fun v1 h2 =>
aOff v1 0 fun v3 =>
aLoad false 1 v3 h2 fun v4 =>
Good prog J 68 [v4, a1, a2] h2 fun v5 h6 =>
aUn .not v5 fun v7 =>
cnd v7
(W prog J 26 h.length 87 (subC [1, 0, 1] (codeOf f87)) ((((((((((((((((((RG.mk (regs [a0, a1, a2]) []).put 3 v1).put 6 (vint 0)).put 7 v3).put 8 v4).put 9 a1).put 10 a2).put 11 v5).put 12 v7).put 13 v7).put 13 (Value.bool true)).put 14 undef).put 15 undef).put 16 undef).put 17 undef).put 18 undef).put 19 undef).put 20 (Value.bool true)) h6 (contQ prog J 26 h.length 87 [1, 0, 1] (codeOf f87) [] (RetQ prog [.tmp 6] h.length K)))
(aOff v1 1 fun v8 =>
aLoad false 1 v8 h6 fun v9 =>
Good prog J 68 [v9, a1, a2] h6 fun v10 h11 =>
aUn .not v10 fun v12 =>
W prog J 26 h.length 87 (subC [1, 0, 1] (codeOf f87)) ((((((((((((((((((RG.mk (regs [a0, a1, a2]) []).put 3 v1).put 6 (vint 0)).put 7 v3).put 8 v4).put 9 a1).put 10 a2).put 11 v5).put 12 v7).put 13 v7).put 13 (Value.bool false)).put 14 v8).put 15 v9).put 16 a1).put 17 a2).put 18 v10).put 19 v12).put 20 v12) h11 (contQ prog J 26 h.length 87 [1, 0, 1] (codeOf f87) [] (RetQ prog [.tmp 6] h.length K)))) := by kernel_rfl
theorem g87 (hJ : Closed prog main J) {a0 a1 a2 : Value} (hs : heapOk h → W prog J 26 h.length 87 (codeOf f87) (RG.mk (regs [a0, a1, a2]) []) h (RetQ prog [.tmp 6] h.length K)) : Good prog J 87 [a0, a1, a2] h K :=
  good_of_W hJ mixed at87 body87 (by kernel_rfl) (Nat.le_of_ble_eq_true rfl) hs
-- join [1, 0, 1]
theorem s87_1 {f : RG} : W prog J 26 n0 87 (subC [1, 0, 1] (codeOf f87)) f h (contQ prog J 26 n0 87 [1, 0, 1] (codeOf f87) [] (RetQ prog [.tmp 6] n0 K)) =
(cnd (f.r 20)
(retL n0 K f.ds [(vint 1)] h)
(aOff (f.r 3) 0 fun v1 =>
aLoad false 1 v1 h fun v2 =>
aOff (f.r 3) 1 fun v3 =>
aLoad false 1 v3 h fun v4 =>
aBin prog .gtr 3 v2 v4 fun v5 =>
cnd v5
(retL n0 K f.ds [(vint 5)] h)
(retL n0 K f.ds [(vint 0)] h))) := by kernel_rfl
end
end Go.Proofs.Ytdgpacdknpahnaa

/- Printed by program: the forms to which the bodies of some functions come down. No conditions. -/
namespace Go.Proofs.Ytdgpacdknpahnaa
open Go.Conc Go.Proofs.Try
set_option maxRecDepth 100000
set_option linter.unusedVariables false
section
variable {main : Bool} {J : JT} {n0 : Nat} {h : List AObj} {K : Value → List AObj → Prop}
theorem at77 : prog.funcs[77]? = some f77 := by kernel_rfl
theorem body77 : f77.body = some (codeOf f77) := by kernel_rfl
theorem e77 {a0 a1 : Value} : W prog J 25 h.length 77 (codeOf f77) (RG.mk (regs [a0, a1]) []) h (RetQ prog [.tmp 4] h.length K) =
(aBox a0 h fun v1 h2 =>
aOff v1 0 fun v3 =>
aLoad false 1 v3 h2 fun v4 =>
aBin prog .sub 3 a1 (vint 1) fun v5 =>
Good prog J 67 [v4, (vint 0), v5] h2 fun v6 h7 =>
aUn .not v6 fun v8 =>
cnd v8
(retL h.length K [] [(vint 3)] h7)
(aOff v1 1 fun v9 =>
aLoad false 1 v9 h7 fun v10 =>
Good prog J 67 [v10, (vint 1), (vint 9)] h7 fun v11 h12 =>
aUn .not v11 fun v13 =>
cnd v13
(W prog J 25 h.length 77 (subC [1, 0, 0, 1, 1, 1] (codeOf f77)) (((((((((((((((RG.mk (regs [a0, a1]) []).put 2 v1).put 4 (vint 0)).put 6 v3).put 7 v4).put 8 a1).put 9 v5).put 10 v6).put 11 v8).put 5 v8).put 13 v9).put 14 v10).put 15 v11).put 16 v13).put 12 v13) h12 (contQ prog J 25 h.length 77 [1, 0, 0, 1, 1, 1] (codeOf f77) [] (RetQ prog [.tmp 4] h.length K)))
(aOff v1 2 fun v14 =>
aLoad false 1 v14 h12 fun v15 =>
Good prog J 67 [v15, (vint 0), (vint 300)] h12 fun v16 h17 =>
aUn .not v16 fun v18 =>
cnd v18
(W prog J 25 h.length 77 (subC [1, 0, 0, 1, 1, 1] (codeOf f77)) ((((((((((((((((((((RG.mk (regs [a0, a1]) []).put 2 v1).put 4 (vint 0)).put 6 v3).put 7 v4).put 8 a1).put 9 v5).put 10 v6).put 11 v8).put 5 v8).put 13 v9).put 14 v10).put 15 v11).put 16 v13).put 12 v13).put 17 v14).put 18 v15).put 19 v16).put 20 v18).put 12 v18) h17 (contQ prog J 25 h.length 77 [1, 0, 0, 1, 1, 1] (codeOf f77) [] (RetQ prog [.tmp 4] h.length K)))
(aOff v1 3 fun v19 =>
aLoad false 1 v19 h17 fun v20 =>
Good prog J 67 [v20, (vint 0), (vint 20)] h17 fun v21 h22 =>
aUn .not v21 fun v23 =>
W prog J 25 h.length 77 (subC [1, 0, 0, 1, 1, 1] (codeOf f77)) (((((((((((((((((((((((((RG.mk (regs [a0, a1]) []).put 2 v1).put 4 (vint 0)).put 6 v3).put 7 v4).put 8 a1).put 9 v5).put 10 v6).put 11 v8).put 5 v8).put 13 v9).put 14 v10).put 15 v11).put 16 v13).put 12 v13).put 17 v14).put 18 v15).put 19 v16).put 20 v18).put 12 v18).put 21 v19).put 22 v20).put 23 v21).put 24 v23).put 12 v23) h22 (contQ prog J 25 h.length 77 [1, 0, 0, 1, 1, 1] (codeOf f77) [] (RetQ prog [.tmp 4] h.length K)))))) := by kernel_rfl
theorem g77 (hJ : Closed prog main J) {a0 a1 : Value} (hs : heapOk h → W prog J 25 h.length 77 (codeOf f77) (RG.mk (regs [a0, a1]) []) h (RetQ prog [.tmp 4] h.length K)) : Good prog J 77 [a0, a1] h K :=
  good_of_W hJ mixed at77 body77 (by kernel_rfl) (Nat.le_of_ble_eq_true rfl) hs
-- join [1, 0, 0, 1, 1, 1]
theorem s77_1 {f : RG} : W prog J 25 n0 77 (subC [1, 0, 0, 1, 1, 1] (codeOf f77)) f h (contQ prog J 25 n0 77 [1, 0, 0, 1, 1, 1] (codeOf f77) [] (RetQ prog [.tmp 4] n0 K)) =
(cnd (f.r 12)
(retL n0 K f.ds [(vint 1)] h)
(retL n0 K f.ds [(vint 0)] h)) := by kernel_rfl
theorem at78 : prog.funcs[78]? = some f78 := by kernel_rfl
theorem body78 : f78.body = some (codeOf f78) := by kernel_rfl
theorem e78 {a0 : Value} : W prog J 22 h.length 78 (codeOf f78) (RG.mk (regs [a0]) []) h (RetQ prog [.cell 2 98] h.length K) =
(aBox a0 h fun v1 h2 =>
aAlloc [(vint 0), (vint 0)] h2 fun v3 h4 =>
aOff v1 2 fun v5 =>
aLoad false 1 v5 h4 fun v6 =>
aBin prog .mul 3 (vint 100) v6 fun v7 =>
aBin prog .add 3 v7 (vint 99) fun v8 =>
aOff v1 3 fun v9 =>
aLoad false 1 v9 h4 fun v10 =>
aBin prog .add 3 v8 v10 fun v11 =>
aOff v1 3 fun v12 =>
aLoad false 1 v12 h4 fun v13 =>
aBin prog .add 3 (vint 100) v13 fun v14 =>
aBin prog .quo 3 v11 v14 fun v15 =>
aOff v1 2 fun v16 =>
aLoad false 1 v16 h4 fun v17 =>
aBin prog .mul 3 (vint 100) v17 fun v18 =>
aOff v1 3 fun v19 =>
aLoad false 1 v19 h4 fun v20 =>
aBin prog .sub 3 (vint 100) v20 fun v21 =>
aBin prog .quo 3 v18 v21 fun v22 =>
aFill [(vint 0), (vint 0)] [(0, 1, v15), (1, 1, v22)] fun c23 =>
aStore 2 v3 (Value.agg ⟨c23⟩) h4 fun h24 =>
RetQ prog [.cell 2 98] h.length K .ret ((((((((((((((((((((((RG.mk (regs [a0]) []).put 1 v1).put 2 v3).put 3 v5).put 4 v6).put 5 v7).put 6 v8).put 7 v9).put 8 v10).put 9 v11).put 10 v12).put 11 v13).put 12 v14).put 13 v15).put 14 v16).put 15 v17).put 16 v18).put 17 v19).put 18 v20).put 19 v21).put 20 v22).put 21 (Value.agg ⟨c23⟩)) h24) := by kernel_rfl
theorem g78 (hJ : Closed prog main J) {a0 : Value} (hs : heapOk h → W prog J 22 h.length 78 (codeOf f78) (RG.mk (regs [a0]) []) h (RetQ prog [.cell 2 98] h.length K)) : Good prog J 78 [a0] h K :=
  good_of_W hJ mixed at78 body78 (by kernel_rfl) (Nat.le_of_ble_eq_true rfl) hs
theorem at40 : prog.funcs[40]? = some f40 := by kernel_rfl
theorem body40 : f40.body = some (codeOf f40) := by kernel_rfl
theorem e40 {a0 : Value} : W prog J 13 h.length 40 (codeOf f40) (RG.mk (regs [a0]) []) h (RetQ prog [.cell 2 38, .tmp 3] h.length K) =
(aBox a0 h fun v1 h2 =>
aAlloc [(vint 0), (vint 0)] h2 fun v3 h4 =>
aLoad true 4 v1 h4 fun v5 =>
Good prog J 77 [v5, (vint 5)] h4 fun v6 h7 =>
aBin prog .neq 32 v6 (vint 0) fun v8 =>
cnd v8
(aFill [(vint 0), (vint 0)] [] fun c9 =>
aStore 2 v3 (Value.agg ⟨c9⟩) h7 fun h10 =>
RetQ prog [.cell 2 38, .tmp 3] h.length K .ret ((((((((((((RG.mk (regs [a0]) []).put 1 v1).put 2 v3).put 3 (vint 0)).put 5 v5).put 6 v6).put 4 v6).put 7 v6).put 8 v8).put 9 (Value.agg ⟨c9⟩)).put 10 v6).put 3 v6) h10)
(aLoad true 4 v1 h7 fun v11 =>
Good prog J 78 [v11] h7 fun v12 h13 =>
aStore 2 v3 v12 h13 fun h14 =>
RetQ prog [.cell 2 38, .tmp 3] h.length K .ret ((((((((((((RG.mk (regs [a0]) []).put 1 v1).put 2 v3).put 3 (vint 0)).put 5 v5).put 6 v6).put 4 v6).put 7 v6).put 8 v8).put 11 v11).put 12 v12).put 3 (vint 0)) h14)) := by kernel_rfl
theorem g40 (hJ : Closed prog main J) {a0 : Value} (hs : heapOk h → W prog J 13 h.length 40 (codeOf f40) (RG.mk (regs [a0]) []) h (RetQ prog [.cell 2 38, .tmp 3] h.length K)) : Good prog J 40 [a0] h K :=
  good_of_W hJ mixed at40 body40 (by kernel_rfl) (Nat.le_of_ble_eq_true rfl) hs
end
end Go.Proofs.Ytdgpacdknpahnaa

/- Laws of the operations on plain values. No conditions. -/
namespace Go.Proofs.Ytdgpacdknpahnaa
open Go.Conc

section
variable {P : Program} {t : TypeId} {K : Value → Prop} {H : Value → List AObj → Prop} {k : IntKind} {a b : Int} {p : Prop} [Decidable p] {A B : Prop} {h : List AObj}

theorem cnd_dec : cnd (.bool (decide p)) A B ↔ (p → A) ∧ (¬p → B) := by simp [cnd]
theorem cnd_ndec : cnd (.bool (!decide p)) A B ↔ (¬p → A) ∧ (p → B) := by simp [cnd]
theorem cnd_bool {b : Bool} : cnd (.bool b) A B ↔ (b = true → A) ∧ (b = false → B) := Iff.rfl
theorem cnd_true : cnd (.bool true) A B ↔ A := by simp [cnd]
theorem cnd_false : cnd (.bool false) A B ↔ B := by simp [cnd]

theorem b_lss : aBin P .lss t (.int k a) (.int k b) K = K (.bool (decide (a < b))) := by simp [aBin, aInt]
theorem b_leq : aBin P .leq t (.int k a) (.int k b) K = K (.bool (decide (a ≤ b))) := by simp [aBin, aInt]
theorem b_gtr : aBin P .gtr t (.int k a) (.int k b) K = K (.bool (decide (a > b))) := by simp [aBin, aInt]
theorem b_geq : aBin P .geq t (.int k a) (.int k b) K = K (.bool (decide (a ≥ b))) := by simp [aBin, aInt]
theorem b_eql : aBin P .eql t (.int k a) (.int k b) K = K (.bool (decide (a = b))) := by simp [aBin, aInt]; rfl
theorem b_neq : aBin P .neq t (.int k a) (.int k b) K = K (.bool (decide (a ≠ b))) := by simp [aBin, aInt]; rfl

theorem wrap64 {n : Int} (h1 : -9223372036854775808 ≤ n) (h2 : n < 9223372036854775808) : IntKind.i64.wrap n = n := by
  simp only [IntKind.wrap, IntKind.bits, IntKind.signed]
  simp
  split <;> omega
theorem b_add (h : -9223372036854775808 ≤ a + b ∧ a + b < 9223372036854775808) : aBin P .add t (vint a) (vint b) K = K (vint (a + b)) := by simp [aBin, aInt, vint, wrap64 h.1 h.2]
theorem b_sub (h : -9223372036854775808 ≤ a - b ∧ a - b < 9223372036854775808) : aBin P .sub t (vint a) (vint b) K = K (vint (a - b)) := by simp [aBin, aInt, vint, wrap64 h.1 h.2]
theorem b_mul (h : -9223372036854775808 ≤ a * b ∧ a * b < 9223372036854775808) : aBin P .mul t (vint a) (vint b) K = K (vint (a * b)) := by simp [aBin, aInt, vint, wrap64 h.1 h.2]
theorem u_not {b : Bool} : aUn .not (.bool b) K = K (.bool (!b)) := rfl

theorem lenS {x : Option Addr} {n c : Nat} : aLenS (.slice x n c) K = K (vint n) := rfl
theorem idx_ok {s b o n c : Nat} {j : Int} : aIdx s (.slice (some ⟨b, o, none⟩) n c) (vint j) K = ((0 ≤ j ∧ j < n) ∧ K (ptr b (o + j.toNat * s))) := rfl
theorem load_cell {b o s : Nat} {c : List Value} {wr : Bool} {sz : Nat} {v : Value} (hb : h[b]? = some (.cells c wr sz)) (hv : c[o]? = some v) (hn : kn1 v = true) {K : Value → Prop} : aLoad false s (ptr b o) h K = K v := by
  simp [aLoad, hb, hv, hn]
theorem store_cell {b o : Nat} {c : List Value} {sz : Nat} {v : Value} (hb : h[b]? = some (.cells c true sz)) (ho : o < c.length) (h1 : v.cells = #[v]) (h2 : one v = true) {K : List AObj → Prop} (hk : K (h.set b (.cells (c.set o v) true sz))) : aStore 1 (ptr b o) v h K := by
  simp [aStore, ptr, hb, h1, h2, wrAt]
  exact ⟨ho, hk⟩

theorem sub_id {n : Nat} {v : Value} (h : VOk n v) : sub id v = v := sub_same (n := n) (fun _ _ => rfl) v h

theorem gc_id {n0 : Nat} (ok : heapOk h) (hn : n0 ≤ h.length) : GC n0 id h h :=
  ⟨hn, fun _ _ => rfl, fun i o hi => .inr (by rw [subO_same (σ := id) (n := h.length) (fun _ _ => rfl) (ok i o hi)]; exact hi), fun i j _ _ _ _ _ _ e => e, ok⟩

/-- Blocks at the end are forgotten. -/
theorem gc_drop {n0 : Nat} {g : List AObj} (ok : heapOk h) (hn : n0 ≤ h.length) : GC n0 id (h ++ g) h :=
  ⟨hn, fun _ _ => rfl, fun i o hi => .inr (by
    rw [subO_same (σ := id) (n := h.length) (fun _ _ => rfl) (ok i o hi)]
    have : i < h.length := by
      rcases Nat.lt_or_ge i h.length with x | x
      · exact x
      · rw [List.getElem?_eq_none x] at hi; cases hi
    simp only [id]
    rw [List.getElem?_append_left this]
    exact hi), fun i j _ _ _ _ _ _ e => e, ok⟩

theorem objOk_mono {n m : Nat} (hn : n ≤ m) {o : AObj} (ho : objOk n o) : objOk m o := by
  cases o with
  | dead => trivial
  | deferred => trivial
  | cells c wr sz => exact LOk.mono hn c ho
  | map es wr => exact fun e he => ⟨(ho e he).1, VOk.mono hn _ (ho e he).2⟩
  | loop st pend fn r size params assign body dfr => exact ⟨fun t => (ho.1 t).imp id (VOk.mono hn _), Nat.lt_of_lt_of_le ho.2 hn⟩

theorem retL_same {n0 : Nat} {vs : List Value} (hv : ∀ v ∈ vs, v ≠ unk) (hk : H (pack vs) h) : retL n0 H [] vs h := by
  unfold retL takeW
  have : ∀ (l : List Value) (p : Prop), (∀ v ∈ l, v ≠ unk) → p → nuK l p := by
    intro l
    induction l with
    | nil => intro p _ hp; exact hp
    | cons v l ih => intro p h hp; exact ⟨h v (by simp), ih p (fun u hu => h u (by simp [hu])) hp⟩
  exact this vs _ hv (.inl hk)
theorem retL_drop {n0 : Nat} {g : List AObj} {vs : List Value} (ok : heapOk h) (hn : n0 ≤ h.length) (hv : ∀ v ∈ vs, v ≠ unk) (hw : VOk h.length (pack vs)) (hk : H (pack vs) h) : retL n0 H [] vs (h ++ g) := by
  unfold retL takeW
  have : ∀ (l : List Value) (p : Prop), (∀ v ∈ l, v ≠ unk) → p → nuK l p := by
    intro l
    induction l with
    | nil => intro p _ hp; exact hp
    | cons v l ih => intro p h hp; exact ⟨h v (by simp), ih p (fun u hu => h u (by simp [hu])) hp⟩
  exact this vs _ hv (.inr ⟨id, h, pack vs, gc_drop ok hn, (sub_id hw).symm, hw, hk⟩)

/-! ### slices -/
/-- The slice v has n elements of s cells each, and these are its cells. -/
def Sli (h : List AObj) (v : Value) (s n : Nat) (cells : List Value) : Prop :=
  ∃ base c, v = .slice base n c ∧ (cells.length = n * s ∧ kn cells = true) ∧ ((base = none ∧ n = 0) ∨ ∃ b o, base = some ⟨b, o, none⟩ ∧ (n = 0 ∨ ∃ cs wr sz, h[b]? = some (.cells cs wr sz) ∧ (cs.drop o).take (n * s) = cells))

theorem sli_len {v : Value} {s n : Nat} {cells : List Value} (hs : Sli h v s n cells) : aLenS v K = K (vint n) := by
  obtain ⟨base, c, rfl, _⟩ := hs
  rfl

theorem sli_get {v : Value} {s n : Nat} {cells : List Value} (hs : Sli h v s n cells) {i : Int} (hi : 0 ≤ i ∧ i < n) :
    ∃ b o cs wr sz c, v = .slice (some ⟨b, o, none⟩) n c ∧ h[b]? = some (.cells cs wr sz) ∧ ∀ j x, cells[j]? = some x → cs[o + j]? = some x := by
  obtain ⟨base, c, rfl, ⟨hl, hkn⟩, hc⟩ := hs
  rcases hc with ⟨_, h0⟩ | ⟨b, o, rfl, h0 | ⟨cs, wr, sz, hb, rfl⟩⟩
  · omega
  · omega
  · refine ⟨b, o, cs, wr, sz, c, rfl, hb, fun j x hx => ?_⟩
    rw [List.getElem?_take] at hx
    split at hx
    · rw [List.getElem?_drop] at hx
      exact hx
    · cases hx

/-- An element of one cell is read. -/
theorem idx_load {v : Value} {n : Nat} {cells : List Value} {i : Int} {x : Value} {K : Value → Value → Prop} (hs : Sli h v 1 n cells) (hi : 0 ≤ i ∧ i < n) (hx : cells[i.toNat]? = some x) (hk : ∀ p, K p x) :
    aIdx 1 v (vint i) fun p => aLoad false 1 p h (K p) := by
  obtain ⟨b, o, cs, wr, sz, c, rfl, hb, hg⟩ := sli_get hs hi
  rw [idx_ok]
  refine ⟨hi, ?_⟩
  rw [load_cell hb (by simpa using hg _ _ hx) (by
    obtain ⟨_, _, _, ⟨_, hkn⟩, _⟩ := hs
    exact kn_get hkn hx)]
  exact hk _

theorem sli_app {v : Value} {s n : Nat} {cells : List Value} {g : List AObj} (hs : Sli h v s n cells) : Sli (h ++ g) v s n cells := by
  obtain ⟨base, c, rfl, ⟨hl, hkn⟩, hc⟩ := hs
  refine ⟨base, c, rfl, ⟨hl, hkn⟩, ?_⟩
  rcases hc with h0 | ⟨b, o, rfl, h0 | ⟨cs, wr, sz, hb, hx⟩⟩
  · exact .inl h0
  · exact .inr ⟨b, o, rfl, .inl h0⟩
  · refine .inr ⟨b, o, rfl, .inr ⟨cs, wr, sz, ?_, hx⟩⟩
    have : b < h.length := by
      rcases Nat.lt_or_ge b h.length with x | x
      · exact x
      · rw [List.getElem?_eq_none x] at hb; cases hb
    rw [List.getElem?_append_left this]
    exact hb

theorem sli_new {b n c : Nat} {cells : List Value} {wr : Bool} {sz : Nat} (hb : h[b]? = some (.cells cells wr sz)) (hl : cells.length = n) (hk : kn cells = true) : Sli h (.slice (some ⟨b, 0, none⟩) n c) 1 n cells :=
  ⟨_, c, rfl, ⟨by omega, hk⟩, .inr ⟨b, 0, rfl, .inr ⟨cells, wr, sz, hb, by simp [← hl]⟩⟩⟩

theorem sli_nil {s : Nat} : Sli h (.slice none 0 0) s 0 [] := ⟨none, 0, rfl, ⟨by simp, rfl⟩, .inl ⟨rfl, rfl⟩⟩

theorem sli_vlen {v : Value} {s n : Nat} {cells : List Value} (hs : Sli h v s n cells) : cells.length = n * s := by
  obtain ⟨_, _, _, ⟨hl, _⟩, _⟩ := hs
  exact hl

theorem src_sli {v : Value} {s n : Nat} {cells : List Value} {K : List Value → Prop} (hs : Sli h v s n cells) (hsp : 0 < s) (hk : K cells) : srcCells s n v h K := by
  obtain ⟨base, c, rfl, ⟨hl, hkn⟩, hc⟩ := hs
  rcases hc with ⟨rfl, rfl⟩ | ⟨b, o, rfl, h0 | ⟨cs, wr, sz, hb, rfl⟩⟩
  · have : cells = [] := List.length_eq_zero_iff.1 (by omega)
    subst this
    exact ⟨rfl, hk⟩
  · subst h0
    have : cells = [] := List.length_eq_zero_iff.1 (by omega)
    subst this
    exact ⟨fun _ => hk, fun x => absurd rfl x⟩
  · by_cases h0 : n = 0
    · subst h0
      exact ⟨fun _ => by simpa using hk, fun x => absurd rfl x⟩
    · refine ⟨fun x => absurd x h0, fun _ => ?_⟩
      simp only [hb]
      refine ⟨?_, hkn, hk⟩
      rw [List.length_take, List.length_drop] at hl
      have := Nat.mul_pos (Nat.pos_of_ne_zero h0) hsp
      omega

/-- Something is appended to the nil slice. -/
theorem app_nil {s m : Nat} {y : Value} {ys : List Value} (hsp : 0 < s) (hy : Sli h y s m ys) (hm : m ≤ room) (h0 : m = 0 → H (.slice none 0 0) h) (h1 : m ≠ 0 → H (.slice (some ⟨h.length, 0, none⟩) m fz) (h ++ [.cells ys true s])) : aApp s (.slice none 0 0) y h H := by
  have hy' := hy
  obtain ⟨yb, yc, rfl, _⟩ := hy
  exact ⟨by omega, src_sli hy' hsp ⟨⟨rfl, rfl⟩, h0, h1⟩⟩

/-- .. to a slice that was grown by append before: its block is given up. -/
theorem app_own {s n m b : Nat} {y : Value} {cs ys : List Value} (hb : h[b]? = some (.cells cs true s)) (hcs : n * s ≤ cs.length) (hkn : kn (cs.take (n * s)) = true) (hsp : 0 < s) (hy : Sli h y s m ys) (hm : n + m ≤ room)
    (hk : H (.slice (some ⟨h.length, 0, none⟩) (n + m) fz) (h.set b .dead ++ [.cells (cs.take (n * s) ++ ys) true s])) : aApp s (.slice (some ⟨b, 0, none⟩) n fz) y h H := by
  have hy' := hy
  obtain ⟨yb, yc, rfl, _⟩ := hy
  refine ⟨hm, src_sli hy' hsp ?_⟩
  simp only [hb, List.drop_zero, Nat.zero_add]
  have : s ≠ 0 := by omega
  exact ⟨⟨hcs, hkn⟩, fun x => absurd x (Nat.lt_irrefl _), fun _ => ⟨trivial, trivial, trivial, trivial, hk⟩⟩

/-- .. to a slice without room. -/
theorem app_copy {s n m b o c : Nat} {y : Value} {cs ys : List Value} {wr : Bool} {sz : Nat} (hb : h[b]? = some (.cells cs wr sz)) (hcs : o + n * s ≤ cs.length) (hkn : kn ((cs.drop o).take (n * s)) = true) (hc : c < n + m) (hsp : 0 < s) (hy : Sli h y s m ys) (hm : n + m ≤ room)
    (hk : H (.slice (some ⟨h.length, 0, none⟩) (n + m) fz) (h ++ [.cells ((cs.drop o).take (n * s) ++ ys) true s])) : aApp s (.slice (some ⟨b, o, none⟩) n c) y h H := by
  have hy' := hy
  obtain ⟨yb, yc, rfl, _⟩ := hy
  refine ⟨hm, src_sli hy' hsp ?_⟩
  simp only [hb]
  have hr : room = 1073741824 := rfl
  have hf : fz = 1180591620717411303424 := rfl
  exact ⟨⟨hcs, hkn⟩, fun _ => ⟨fun x => absurd x (by omega), fun _ => hk⟩, fun x => absurd x (by omega)⟩

theorem zrep_one {z : Value} (n : Nat) : zrep [z] n = List.replicate n z := by
  induction n with
  | zero => rfl
  | succ n ih => simp [zrep, ih, List.replicate_succ]

theorem mkS_one {z : Value} {n : Nat} (hn : n ≤ room) (hk : H (.slice (some ⟨h.length, 0, none⟩) n n) (h ++ [.cells (List.replicate n z) true 0])) : aMkS [z] (vint n) (vint n) h H := by
  have hr : room = 1073741824 := rfl
  simp only [aMkS, Int.toNat_natCast, zrep_one]
  exact ⟨by omega, by omega, by omega, hk⟩

theorem kn_ints (l : List Int) : kn (l.map vint) = true := by
  simp [kn, kn1]

theorem map_get {l : List Int} {k : Nat} (hk : k < l.length) : (l.map vint)[k]? = some (vint (l.getD k 0)) := by
  simp [hk]

theorem mul_bd {a b A B : Int} (h1 : 0 ≤ a) (h2 : a ≤ A) (h3 : 0 ≤ b) (h4 : b ≤ B) : 0 ≤ a * b ∧ a * b ≤ A * B :=
  ⟨Int.mul_nonneg h1 h3, Int.mul_le_mul h2 h4 h3 (by omega)⟩

/-! ### numbers of 64 bits without sign, of which no more is asked than that they are such -/
theorem wrapU (n : Int) : 0 ≤ IntKind.u64.wrap n ∧ IntKind.u64.wrap n < 18446744073709551616 := by
  simp only [IntKind.wrap, IntKind.bits, IntKind.signed]
  simp
  omega
theorem u_add (hk : ∀ y, 0 ≤ y → y < 18446744073709551616 → K (.int .u64 y)) : aBin P .add t (.int .u64 a) (.int .u64 b) K := ⟨rfl, hk _ (wrapU _).1 (wrapU _).2⟩
theorem u_mul (hk : ∀ y, 0 ≤ y → y < 18446744073709551616 → K (.int .u64 y)) : aBin P .mul t (.int .u64 a) (.int .u64 b) K := ⟨rfl, hk _ (wrapU _).1 (wrapU _).2⟩
theorem u_xor (hk : ∀ y, 0 ≤ y → y < 18446744073709551616 → K (.int .u64 y)) : aBin P .xor t (.int .u64 a) (.int .u64 b) K := ⟨rfl, hk _ (wrapU _).1 (wrapU _).2⟩
theorem u_shl (hb : 0 ≤ b) (hk : ∀ y, 0 ≤ y → y < 18446744073709551616 → K (.int .u64 y)) : aBin P .shl t (.int .u64 a) (.int k b) K := ⟨hb, hk _ (wrapU _).1 (wrapU _).2⟩
theorem u_shr (hb : 0 ≤ b) (ha : 0 ≤ a) {A : Int} (hA : a < A) (hk : ∀ y, 0 ≤ y → y < A → K (.int .u64 y)) : aBin P .shr t (.int .u64 a) (.int k b) K := by
  refine ⟨hb, hk _ ?_ ?_⟩
  · exact Int.fdiv_nonneg ha (by exact Int.le_of_lt (Int.pow_pos (by decide)))
  · refine Int.lt_of_le_of_lt ?_ hA
    rw [Int.fdiv_eq_ediv_of_nonneg _ (Int.le_of_lt (Int.pow_pos (by decide)))]
    exact Int.ediv_le_self _ ha

/-! ### of the new blocks only one is kept -/
def moveTo (n k : Nat) : Nat → Nat := fun i => if i = n then k else i

theorem gc_one {n0 : Nat} {g : List AObj} {k : Nat} {o : AObj} (ok : heapOk h) (hn : n0 ≤ h.length) (hk : (h ++ g)[k]? = some o) (hkn : h.length ≤ k) (ho : objOk h.length o) : GC n0 (moveTo h.length k) (h ++ g) (h ++ [o]) := by
  have hsame : Same h.length (moveTo h.length k) := fun b hb => by simp [moveTo]; omega
  refine ⟨by simp; omega, fun b hb => hsame b (by omega), fun i oi hi => .inr ?_, fun i j oi oj hi hj _ _ e => ?_, fun i oi hi => ?_⟩
  · rcases Nat.lt_or_ge i h.length with hlt | hge
    · rw [List.getElem?_append_left hlt] at hi
      rw [hsame i hlt, List.getElem?_append_left hlt, subO_same hsame (ok i oi hi)]
      exact hi
    · have hil : i = h.length := by
        have := (List.getElem?_eq_some_iff.1 hi).1
        simp at this
        omega
      subst hil
      have : oi = o := by simpa using hi.symm
      subst this
      rw [subO_same hsame ho]
      simpa [moveTo] using hk
  · have hil := (List.getElem?_eq_some_iff.1 hi).1
    have hjl := (List.getElem?_eq_some_iff.1 hj).1
    simp at hil hjl
    simp only [moveTo] at e
    split at e <;> split at e <;> omega
  · rcases Nat.lt_or_ge i h.length with hlt | hge
    · rw [List.getElem?_append_left hlt] at hi
      exact objOk_mono (by simp) (ok i oi hi)
    · have hil : i = h.length := by
        have := (List.getElem?_eq_some_iff.1 hi).1
        simp at this
        omega
      subst hil
      have : oi = o := by simpa using hi.symm
      subst this
      exact objOk_mono (by simp) ho

/-- A function that hands on a fresh slice: of its new blocks only that one is kept. -/
theorem retL_one {n0 : Nat} {g : List AObj} {k : Nat} {o : AObj} {m c : Nat} (ok : heapOk h) (hn : n0 ≤ h.length) (hk : (h ++ g)[k]? = some o) (hkn : h.length ≤ k) (ho : objOk h.length o)
    (hK : H (.slice (some ⟨h.length, 0, none⟩) m c) (h ++ [o])) : retL n0 H [] [.slice (some ⟨k, 0, none⟩) m c] (h ++ g) := by
  refine ⟨by simp [unk], .inr ⟨moveTo h.length k, h ++ [o], .slice (some ⟨h.length, 0, none⟩) m c, gc_one ok hn hk hkn ho, ?_, ?_, hK⟩⟩
  · simp [pack, sub, moveTo]
  · simp [VOk, AddrOk]
end
end Go.Proofs.Ytdgpacdknpahnaa

/- More laws of the operations. No conditions. -/
namespace Go.Proofs.Ytdgpacdknpahnaa
open Go.Conc

section
variable {P : Program} {t : TypeId} {K : Value → Prop} {H : Value → List AObj → Prop} {HL : List AObj → Prop} {a b : Int} {h g : List AObj} {A B : Prop}

theorem nil_okp {b o : Nat} : aNil (ptr b o) K = K (ptr b o) := rfl
theorem off_okp {b o d : Nat} : aOff (ptr b o) d K = K (ptr b (o + d)) := rfl
theorem ext_two {a b : Value} : (aExt (.tuple ⟨[a, b]⟩) 0 K = K a) ∧ (aExt (.tuple ⟨[a, b]⟩) 1 K = K b) := ⟨rfl, rfl⟩
theorem ext_three {a b c : Value} : (aExt (.tuple ⟨[a, b, c]⟩) 0 K = K a) ∧ (aExt (.tuple ⟨[a, b, c]⟩) 1 K = K b) ∧ (aExt (.tuple ⟨[a, b, c]⟩) 2 K = K c) := ⟨rfl, rfl, rfl⟩

theorem b_quo (h0 : 0 ≤ a) (h1 : 0 < b) (h2 : a < 9223372036854775808) (hk : K (vint (a / b))) : aBin P .quo t (vint a) (vint b) K := by
  have e : a.tdiv b = a / b := Int.tdiv_eq_ediv_of_nonneg h0
  have l1 : 0 ≤ a / b := Int.ediv_nonneg h0 (by omega)
  have l2 : a / b ≤ a := Int.ediv_le_self _ h0
  refine ⟨rfl, by omega, ?_⟩
  rw [e, wrap64 (by omega) (by omega)]
  exact hk

/-- A box with a struct of plain parts. -/
theorem box_agg {cs : List Value} (h1 : cs.all one = true) (hk : H (ptr h.length 0) (h ++ [.cells cs true 0])) : aBox (.agg ⟨cs⟩) h H := ⟨h1, hk⟩
theorem box_one {v : Value} (hc : v.cells = #[v]) (h1 : one v = true) (hk : H (ptr h.length 0) (h ++ [.cells [v] true 0])) : aBox v h H := by
  unfold aBox
  rw [hc]
  exact ⟨by simpa using h1, hk⟩

theorem load_part {b o s : Nat} {cs c : List Value} {wr : Bool} {sz : Nat} (hb : h[b]? = some (.cells cs wr sz)) (hl : o + s ≤ cs.length) (hc : (cs.drop o).take s = c) (hn : kn c = true) (hk : K (.agg ⟨c⟩)) : aLoad true s (ptr b o) h K := by
  simp only [aLoad, ptr, hb, cond_true, hc]
  exact ⟨hl, hn, hk⟩

theorem wrAt_all {s : List Value} : ∀ {cs : List Value} {o : Nat}, wrAt cs o s = (wrAt cs o s) := rfl

theorem store_agg {b : Nat} {cs c : List Value} {s : Nat} {sz : Nat} (hb : h[b]? = some (.cells cs true sz)) (hl : c.length = s) (hs : cs.length = s) (h1 : c.all one = true) (hk : HL (h.set b (.cells c true sz))) : aStore s (ptr b 0) (.agg ⟨c⟩) h HL := by
  have e : ∀ (c cs : List Value) (pre : List Value), cs.length = c.length → wrAt (pre ++ cs) pre.length c = pre ++ c := by
    intro c
    induction c with
    | nil =>
      intro cs pre h
      have : cs = [] := List.length_eq_zero_iff.1 (by simpa using h)
      subst this
      rfl
    | cons x c ih =>
      intro cs pre h
      cases cs with
      | nil => simp at h
      | cons y cs =>
        unfold wrAt
        have := ih cs (pre ++ [x]) (by simpa using h)
        simp only [List.length_append, List.length_cons, List.length_nil, List.append_assoc, List.cons_append, List.nil_append] at this
        simp only [List.set_append_right _ _ (Nat.le_refl _), Nat.sub_self, List.set_cons_zero]
        exact this
  simp only [aStore, ptr, hb, Value.cells]
  refine ⟨by simpa using hl, h1, by omega, ?_⟩
  have := e c cs [] (by omega)
  simp only [List.nil_append, List.length_nil] at this
  rw [this]
  exact hk

theorem fill1 {c : List Value} {off : Nat} {v : Value} {ps : List (Nat × Nat × Value)} {K : List Value → Prop} (h1 : v.cells = #[v]) (h2 : one v = true) (ho : off < c.length) (hk : aFill (c.set off v) ps K) : aFill c ((off, 1, v) :: ps) K := by
  refine ⟨by rw [h1]; rfl, by rw [h1]; simpa using h2, by omega, ?_⟩
  rw [h1]
  exact hk

theorem fill0 {c : List Value} {K : List Value → Prop} : aFill c [] K = K c := rfl

theorem resW_cell {rs : List ResultVar} {r : Nat → Value} {x : Nat} {gg : Bool} {s : Nat} {KL : List Value → Prop} (ht : tk P t = some (gg, s)) (hk : aLoad gg s (r x) h fun v => resW P rs r h fun vs => KL (v :: vs)) : resW P (.cell x t :: rs) r h KL := by
  unfold resW
  rw [ht]
  exact hk
theorem resW_tmp {rs : List ResultVar} {r : Nat → Value} {x : Nat} {KL : List Value → Prop} (hn : r x ≠ unk) (hk : resW P rs r h fun vs => KL (r x :: vs)) : resW P (.tmp x :: rs) r h KL := ⟨hn, hk⟩
theorem resW_nil {r : Nat → Value} {KL : List Value → Prop} (hk : KL []) : resW P [] r h KL := hk

theorem resW_imp : ∀ (rs : List ResultVar) {r : Nat → Value} {h : List AObj} {K K' : List Value → Prop}, resW P rs r h K → (∀ vs, K vs → K' vs) → resW P rs r h K'
  | [], r, h, K, K', hx, hk => hk _ hx
  | .tmp t :: rs, r, h, K, K', hx, hk => ⟨hx.1, resW_imp rs hx.2 fun vs => hk _⟩
  | .cell a t :: rs, r, h, K, K', hx, hk => by
    unfold resW at hx ⊢
    split at hx
    · obtain ⟨v, k1, k2⟩ := pin_aLoad _ hx
      exact k2 (fun v => resW P rs r h fun vs => K' (v :: vs)) (resW_imp rs k1 fun vs => hk _)
    · exact hx.elim

/-- A function that hands on values without blocks of its own; what it has made is forgotten. -/
theorem retQ_drop {rs : List ResultVar} {n0 : Nat} {f : RG} (ds : f.ds = []) (ok : heapOk h) (hn : n0 ≤ h.length) (hr : resW P rs f.r (h ++ g) fun vs => VOk h.length (pack vs) ∧ H (pack vs) h) : RetQ P rs n0 H .ret f (h ++ g) := by
  unfold RetQ
  rw [ds]
  exact resW_imp rs hr fun vs hv => .inr ⟨id, h, pack vs, gc_drop ok hn, (sub_id hv.1).symm, hv.1, hv.2⟩
end
end Go.Proofs.Ytdgpacdknpahnaa
