/- Parts of the proof, 3. No conditions. -/
import Derived.Test.YtfljbanjmplcfaaK2
namespace Go.Proofs.Ytfljbanjmplcfaa
open Go.Conc Go.Proofs.Try
set_option maxRecDepth 100000
set_option maxHeartbeats 4000000
set_option linter.unusedVariables false
section
variable {main : Bool} {J : JT} {n0 : Nat} {h : List AObj} {K : Value → List AObj → Prop}
theorem at22 : prog.funcs[22]? = some f22 := by kernel_rfl
theorem body22 : f22.body = some (codeOf f22) := by kernel_rfl
theorem e22 {a0 : Value} : W prog J 8 h.length 22 (codeOf f22) (RG.mk (regs [a0]) []) h (RetQ prog [.tmp 2,.tmp 3] h.length K) =
(aBox a0 h fun v1 h2 =>
(∃ B,aLoad true 6 v1 h2 fun v3 =>
RdOk (some B) (ptrBlk v1) ∧ (aLoad true 6 v1 h2 fun v4 =>
RdOk (some B) (ptrBlk v1) ∧ (Good prog J 29 [v3] h2 fun v5 h6 =>
SameB (some B) h2 h6 ∧ (Good prog J 30 [v4] h6 fun v7 h8 =>
SameB (some B) h2 h8 ∧ (retL h.length K [] [v5,v7] h8)))))) := by kernel_rfl
theorem g22 (hJ : Closed prog main J) {a0 : Value} (hs : heapOk h → W prog J 8 h.length 22 (codeOf f22) (RG.mk (regs [a0]) []) h (RetQ prog [.tmp 2,.tmp 3] h.length K)) : Good prog J 22 [a0] h K :=
 good_of_W hJ mixed at22 body22 (by kernel_rfl) (Nat.le_of_ble_eq_true rfl) hs
theorem at29 : prog.funcs[29]? = some f29 := by kernel_rfl
theorem body29 : f29.body = some (codeOf f29) := by kernel_rfl
theorem e29 {a0 : Value} : W prog J 7 h.length 29 (codeOf f29) (RG.mk (regs [a0]) []) h (RetQ prog [.tmp 2] h.length K) =
(aBox a0 h fun v1 h2 =>
aLoad true 6 v1 h2 fun v3 =>
aNewM h2 fun v4 h5 =>
aFill [(vint 0),(vint 0),(vint 0),(Value.slice none 0 0),(vint 0),(Value.slice none 0 0),(Value.int .u64 0),(Value.map none)] [(0,6,v3),(7,1,v4)] fun c6 =>
aBox (Value.agg ⟨c6⟩) h5 fun v7 h8 =>
retL h.length K [] [v7] h8) := by kernel_rfl
theorem g29 (hJ : Closed prog main J) {a0 : Value} (hs : heapOk h → W prog J 7 h.length 29 (codeOf f29) (RG.mk (regs [a0]) []) h (RetQ prog [.tmp 2] h.length K)) : Good prog J 29 [a0] h K :=
 good_of_W hJ mixed at29 body29 (by kernel_rfl) (Nat.le_of_ble_eq_true rfl) hs
theorem at23 : prog.funcs[23]? = some f23 := by kernel_rfl
theorem body23 : f23.body = some (codeOf f23) := by kernel_rfl
theorem e23 {a0 : Value} : W prog J 60 h.length 23 (codeOf f23) (RG.mk (regs [a0]) []) h (RetQ prog [.tmp 2,.tmp 3] h.length K) =
(Good prog J 31 [a0,(Value.int .u64 0)] h fun v1 h2 =>
aUn .not v1 fun v3 =>
cnd v3
(retL h.length K [] [(Value.slice none 0 0),(Value.bool false)] h2)
(aNil a0 fun v4 =>
aOff v4 0 fun v5 =>
aOff v5 0 fun v6 =>
aLoad false 1 v6 h2 fun v7 =>
((List.length [(vint 0),(vint 0)] = 2 ∧ (16 : Nat) ≤ 1024) ∧ aMkS [(vint 0),(vint 0)] v7 v7 h2 fun v8 h9 =>
aAlloc [(Value.slice none 0 0)] h9 fun v10 h11 =>
aStore 1 v10 v8 h11 fun h12 =>
Good prog J 33 [a0] h12 fun v13 h14 =>
Good prog J 32 [a0,v13] h14 fun v15 h16 =>
Sem J 60 h.length 23 (subC [1,1,1,0,1,0] (codeOf f23)) (RG.p (RG.p (RG.p (RG.p (RG.p (RG.p (RG.p (RG.p (RG.p (RG.p (RG.p (RG.p (RG.p (RG.p (RG.p (RG.p (RG.mk (regs [a0]) []) 2 (Value.slice none 0 0)) 3 (Value.bool false)) 10 a0) 11 v1) 12 v3) 13 a0) 14 v4) 15 v5) 16 v6) 17 v7) 18 v8) 4 v10) 19 a0) 20 a0) 21 v13) 22 v15) h16 (contQ prog J 60 h.length 23 [1,1,1,0,1,0] (codeOf f23) [] (RetQ prog [.tmp 2,.tmp 3] h.length K))))) := by kernel_rfl
theorem g23 (hJ : Closed prog main J) {a0 : Value} (hs : heapOk h → W prog J 60 h.length 23 (codeOf f23) (RG.mk (regs [a0]) []) h (RetQ prog [.tmp 2,.tmp 3] h.length K)) : Good prog J 23 [a0] h K :=
 good_of_W hJ mixed at23 body23 (by kernel_rfl) (Nat.le_of_ble_eq_true rfl) hs
theorem a23_1 {f : RG} {fr : FuncId} {Q : QT} : W prog J 60 n0 fr (subC [1,1,1,0,1,0,0] (codeOf f23)) f h Q =
(aAlloc [(vint 0),(vint 0)] h fun v1 h2 =>
aStore 2 v1 (f.r 24) h2 fun h3 =>
Q .normal (RG.p (RG.p f 5 (f.r 23)) 6 v1) h3) := by kernel_rfl
theorem b23_1 {f : RG} {fr : FuncId} {Q : QT} : W prog J 60 n0 fr (subC [1,1,1,0,1,0,1] (codeOf f23)) f h Q =
(aLoad false 1 (f.r 4) h fun v1 =>
aLoad true 2 (f.r 6) h fun v2 =>
aIdx 2 v1 (f.r 5) fun v3 =>
aStore 2 v3 v2 h fun h4 =>
Q .normal (RG.p (RG.p (RG.p (RG.p f 25 v1) 26 (f.r 5)) 27 v2) 28 v3) h4) := by kernel_rfl
theorem c23_1 {f : RG} : (contQ prog J 60 n0 23 [1,1,1,0,1,0] (codeOf f23) [] (RetQ prog [.tmp 2,.tmp 3] n0 K)) .normal f h =
(aNil (f.r 0) fun v1 =>
aOff v1 0 fun v2 =>
aOff v2 0 fun v3 =>
aLoad false 1 v3 h fun v4 =>
aBin prog .sub 3 v4 (vint 2) fun v5 =>
Sem J 60 n0 23 (subC [1,1,1,1,1,0,1,0] (codeOf f23)) (RG.p (RG.p (RG.p (RG.p (RG.p (RG.p (RG.p (RG.p (RG.p f 7 (Value.func (.func 34) #[] #[])) 8 (Value.func (.func 35) #[] #[])) 29 (f.r 0)) 30 v1) 31 v2) 32 v3) 33 v4) 34 v5) 9 v5) h (contQ prog J 60 n0 23 [1,1,1,1,1,0,1,0] (codeOf f23) [] (RetQ prog [.tmp 2,.tmp 3] n0 K))) := by kernel_rfl
theorem l23_1 (hJ : Closed prog main J) {f : RG} {g : FuncId} {first cap : List Value} (hx : ev f.r ((Go.Operand.tmp 22)) = .func (.func g) ⟨first⟩ ⟨cap⟩) (hg : g < prog.funcs.size)
 (hs : Good prog J g (first ++ [.func (.yield (h.length + 1)) ⟨[]⟩ ⟨[]⟩] ++ cap) (h ++ [.deferred] ++ [.loop .ready none 23 f.r 60 #[23,24] (subC [1,1,1,0,1,0,0] (codeOf f23)) (subC [1,1,1,0,1,0,1] (codeOf f23)) h.length]) (endQ h.length f (contQ prog J 60 n0 23 [1,1,1,0,1,0] (codeOf f23) [] (RetQ prog [.tmp 2,.tmp 3] n0 K)))) (hcall : callable prog g = true := by kernel_rfl) : Sem J 60 n0 23 (subC [1,1,1,0,1,0] (codeOf f23)) f h (contQ prog J 60 n0 23 [1,1,1,0,1,0] (codeOf f23) [] (RetQ prog [.tmp 2,.tmp 3] n0 K)) :=
 Sem_range hJ (by decide) (fop := (Go.Operand.tmp 22)) (params := #[23,24]) (assign := subC [1,1,1,0,1,0,0] (codeOf f23)) (body := subC [1,1,1,0,1,0,1] (codeOf f23)) hx hg hs hcall
theorem s23_2 {f : RG} {nx0 : RG → List AObj → Prop} : W prog J 60 n0 23 (subC [1,1,1,1,1,0,1,0,0] (codeOf f23)) f h (thenK nx0 (contQ prog J 60 n0 23 [1,1,1,1,1,0,1,0] (codeOf f23) [] (RetQ prog [.tmp 2,.tmp 3] n0 K))) =
(aBin prog .geq 3 (f.r 9) (vint 0) fun v1 =>
cnd v1
((∃ B,aLoad false 1 (f.r 4) h fun v2 =>
RdOk (some B) (ptrBlk (f.r 4)) ∧ (aLoad false 1 (f.r 4) h fun v3 =>
RdOk (some B) (ptrBlk (f.r 4)) ∧ (aIdx 2 v3 (f.r 9) fun v4 =>
aLoad true 2 v4 h fun v5 =>
RdOk (some B) (ptrBlk v4) ∧ (aLoad false 1 (f.r 4) h fun v6 =>
RdOk (some B) (ptrBlk (f.r 4)) ∧ (aBin prog .add 3 (f.r 9) (vint 1) fun v7 =>
aIdx 2 v6 v7 fun v8 =>
aLoad true 2 v8 h fun v9 =>
RdOk (some B) (ptrBlk v8) ∧ (Good prog J 37 [(f.r 0),(f.r 9)] h fun v10 h11 =>
SameB (some B) h h11 ∧ (callV prog (Good prog J) (f.r 7) [v10] h11 fun v12 h13 =>
SameB (some B) h h13 ∧ (Good prog J 36 [v9,v12] h13 fun v14 h15 =>
SameB (some B) h h15 ∧ (callV prog (Good prog J) (f.r 8) [v5,v14] h15 fun v16 h17 =>
SameB (some B) h h17 ∧ (aIdx 2 v2 (f.r 9) fun v18 =>
aStore 2 v18 v16 h17 fun h19 =>
aBin prog .sub 3 (f.r 9) (vint 1) fun v20 =>
nx0 (RG.p (RG.p (RG.p (RG.p (RG.p (RG.p (RG.p (RG.p (RG.p (RG.p (RG.p (RG.p (RG.p (RG.p (RG.p (RG.p (RG.p (RG.p (RG.p (RG.p (RG.p (RG.p (RG.p (RG.p (RG.p f 35 (f.r 9)) 36 v1) 39 v2) 40 (f.r 9)) 41 (f.r 8)) 42 v3) 43 (f.r 9)) 44 v4) 45 v5) 46 v6) 47 (f.r 9)) 48 v7) 49 v8) 50 v9) 51 (f.r 7)) 52 (f.r 0)) 53 (f.r 9)) 54 v10) 55 v12) 56 v14) 57 v16) 58 v18) 37 (f.r 9)) 38 v20) 9 v20) h19)))))))))))
(aLoad false 1 (f.r 4) h fun v21 =>
retL n0 K f.ds [v21,(Value.bool true)] h)) := by kernel_rfl
theorem l23_2 (hJ : Closed prog main J) {S : Type} (μ : S → Nat) (I : S → RG → List AObj → Prop) (hI : ∀ s f h,I s f h → heapOk h → n0 ≤ h.length → W prog J 60 n0 23 (subC [1,1,1,1,1,0,1,0,0] (codeOf f23)) f h (thenK (Nx n0 μ I s) (contQ prog J 60 n0 23 [1,1,1,1,1,0,1,0] (codeOf f23) [] (RetQ prog [.tmp 2,.tmp 3] n0 K))))
 {s : S} {f : RG} (hi : Gets n0 I s f h) : Sem J 60 n0 23 (subC [1,1,1,1,1,0,1,0] (codeOf f23)) f h (contQ prog J 60 n0 23 [1,1,1,1,1,0,1,0] (codeOf f23) [] (RetQ prog [.tmp 2,.tmp 3] n0 K)) :=
 loop_rule hJ mixed (b := subC [1,1,1,1,1,0,1,0,0] (codeOf f23)) (by kernel_rfl) μ I hI hi
theorem at10 : prog.funcs[10]? = some f10 := by kernel_rfl
theorem body10 : f10.body = some (codeOf f10) := by kernel_rfl
theorem e10 {a0 : Value} : W prog J 38 h.length 10 (codeOf f10) (RG.mk (regs [a0]) []) h (RetQ prog [.tmp 2,.tmp 3] h.length K) =
(aBox a0 h fun v1 h2 =>
aLoad true 6 v1 h2 fun v3 =>
Good prog J 22 [v3] h2 fun v4 h5 =>
aExt v4 0 fun v6 =>
aExt v4 1 fun v7 =>
aBin prog .neq 44 v7 (vint 0) fun v8 =>
cnd v8
(retL h.length K [] [(Value.slice none 0 0),v7] h5)
(Good prog J 23 [v6] h5 fun v9 h10 =>
aExt v9 0 fun v11 =>
aExt v9 1 fun v12 =>
aUn .not v12 fun v13 =>
cnd v13
(retL h.length K [] [(Value.slice none 0 0),(vint 11)] h10)
(aLenS v11 fun v14 =>
Sem J 38 h.length 10 (subC [1,1,1,1,1,1,0,1,0] (codeOf f10)) (RG.p (RG.p (RG.p (RG.p (RG.p (RG.p (RG.p (RG.p (RG.p (RG.p (RG.p (RG.p (RG.p (RG.p (RG.p (RG.p (RG.p (RG.p (RG.p (RG.p (RG.p (RG.p (RG.p (RG.p (RG.p (RG.mk (regs [a0]) []) 1 v1) 2 (Value.slice none 0 0)) 3 (vint 0)) 12 v3) 13 v4) 11 v4) 14 v6) 15 v7) 4 v6) 5 v7) 16 v7) 17 v8) 20 v6) 21 v9) 19 v9) 22 v11) 23 v12) 6 v11) 7 v12) 24 v12) 25 v13) 8 (Value.slice none 0 0)) 26 v11) 27 v14) 28 (vint 0)) h10 (contQ prog J 38 h.length 10 [1,1,1,1,1,1,0,1,0] (codeOf f10) [] (RetQ prog [.tmp 2,.tmp 3] h.length K))))) := by kernel_rfl
theorem g10 (hJ : Closed prog main J) {a0 : Value} (hs : heapOk h → W prog J 38 h.length 10 (codeOf f10) (RG.mk (regs [a0]) []) h (RetQ prog [.tmp 2,.tmp 3] h.length K)) : Good prog J 10 [a0] h K :=
 good_of_W hJ mixed at10 body10 (by kernel_rfl) (Nat.le_of_ble_eq_true rfl) hs
theorem s10_1 {f : RG} {nx0 : RG → List AObj → Prop} : W prog J 38 n0 10 (subC [1,1,1,1,1,1,0,1,0,0] (codeOf f10)) f h (thenK nx0 (contQ prog J 38 n0 10 [1,1,1,1,1,1,0,1,0] (codeOf f10) [] (RetQ prog [.tmp 2,.tmp 3] n0 K))) =
(aBin prog .lss 3 (f.r 28) (f.r 27) fun v1 =>
cnd v1
(aIdx 2 (f.r 26) (f.r 28) fun v2 =>
aLoad true 2 v2 h fun v3 =>
aAlloc [(vint 0),(vint 0)] h fun v4 h5 =>
aStore 2 v4 v3 h5 fun h6 =>
aLoad true 2 v4 h6 fun v7 =>
(((1 * 2 : Nat) ≤ 16777216 ∧ (1 : Nat) ≤ 16777216 ∧ List.length [(vint 0),(vint 0)] = 2) ∧ aFill (zrep [(vint 0),(vint 0)] 1) [(0,2,v7)] fun c8 =>
aNewS 1 c8 h6 fun v9 h10 =>
((List.length [(vint 0),(vint 0)] = 2 ∧ 0 < (2 : Nat) ∧ 0 < (16 : Nat) ∧ (16 : Nat) ≤ 1024) ∧ aApp 2 (f.r 8) v9 h10 fun v11 h12 =>
aBin prog .add 3 (f.r 28) (vint 1) fun v13 =>
nx0 (RG.p (RG.p (RG.p (RG.p (RG.p (RG.p (RG.p (RG.p (RG.p (RG.p (RG.p f 29 v1) 30 v2) 31 v3) 10 v4) 32 (f.r 8)) 33 v7) 34 v9) 35 v11) 8 v11) 36 v13) 28 v13) h12)))
(retL n0 K f.ds [(f.r 8),(vint 0)] h)) := by kernel_rfl
theorem l10_1 (hJ : Closed prog main J) {S : Type} (μ : S → Nat) (I : S → RG → List AObj → Prop) (hI : ∀ s f h,I s f h → heapOk h → n0 ≤ h.length → W prog J 38 n0 10 (subC [1,1,1,1,1,1,0,1,0,0] (codeOf f10)) f h (thenK (Nx n0 μ I s) (contQ prog J 38 n0 10 [1,1,1,1,1,1,0,1,0] (codeOf f10) [] (RetQ prog [.tmp 2,.tmp 3] n0 K))))
 {s : S} {f : RG} (hi : Gets n0 I s f h) : Sem J 38 n0 10 (subC [1,1,1,1,1,1,0,1,0] (codeOf f10)) f h (contQ prog J 38 n0 10 [1,1,1,1,1,1,0,1,0] (codeOf f10) [] (RetQ prog [.tmp 2,.tmp 3] n0 K)) :=
 loop_rule hJ mixed (b := subC [1,1,1,1,1,1,0,1,0,0] (codeOf f10)) (by kernel_rfl) μ I hI hi
theorem at14 : prog.funcs[14]? = some f14 := by kernel_rfl
theorem body14 : f14.body = some (codeOf f14) := by kernel_rfl
theorem e14 {a0 a1 a2 : Value} : W prog J 54 h.length 14 (codeOf f14) (RG.mk (regs [a0,a1,a2]) []) h (RetQ prog [.tmp 6,.tmp 7] h.length K) =
(aBox a0 h fun v1 h2 =>
aLoad true 6 v1 h2 fun v3 =>
Good prog J 22 [v3] h2 fun v4 h5 =>
aExt v4 0 fun v6 =>
aExt v4 1 fun v7 =>
aBin prog .neq 44 v7 (vint 0) fun v8 =>
cnd v8
(retL h.length K [] [(vint 0),v7] h5)
(aOff v1 0 fun v9 =>
aLoad false 1 v9 h5 fun v10 =>
aBin prog .sub 3 v10 (vint 1) fun v11 =>
Good prog J 27 [a1,(vint 0),v11] h5 fun v12 h13 =>
aUn .not v12 fun v14 =>
cnd v14
(retL h.length K [] [(vint 0),(vint 3)] h13)
(aBin prog .lss 3 a2 (vint 0) fun v15 =>
cnd v15
(retL h.length K [] [(vint 0),(vint 1)] h13)
(Good prog J 23 [v6] h13 fun v16 h17 =>
aExt v16 0 fun v18 =>
aExt v16 1 fun v19 =>
aUn .not v19 fun v20 =>
cnd v20
(retL h.length K [] [(vint 0),(vint 11)] h17)
(aIdx 2 v18 a1 fun v21 =>
aLoad true 2 v21 h17 fun v22 =>
aAlloc [(vint 0),(vint 0)] h17 fun v23 h24 =>
aStore 2 v23 v22 h24 fun h25 =>
aOff v23 0 fun v26 =>
aLoad false 1 v26 h25 fun v27 =>
aOff v23 1 fun v28 =>
aLoad false 1 v28 h25 fun v29 =>
Good prog J 27 [a2,v27,v29] h25 fun v30 h31 =>
aUn .not v30 fun v32 =>
cnd v32
(retL h.length K [] [(vint 2),(vint 0)] h31)
(aOff v23 0 fun v33 =>
aLoad false 1 v33 h31 fun v34 =>
aOff v23 1 fun v35 =>
aLoad false 1 v35 h31 fun v36 =>
aBin prog .eql 3 v34 v36 fun v37 =>
cnd v37
(retL h.length K [] [(vint 1),(vint 0)] h31)
(retL h.length K [] [(vint 3),(vint 0)] h31))))))) := by kernel_rfl
theorem g14 (hJ : Closed prog main J) {a0 a1 a2 : Value} (hs : heapOk h → W prog J 54 h.length 14 (codeOf f14) (RG.mk (regs [a0,a1,a2]) []) h (RetQ prog [.tmp 6,.tmp 7] h.length K)) : Good prog J 14 [a0,a1,a2] h K :=
 good_of_W hJ mixed at14 body14 (by kernel_rfl) (Nat.le_of_ble_eq_true rfl) hs
end
section
variable {main : Bool} {J : JT} {n0 : Nat} {h : List AObj} {K : Value → List AObj → Prop}
theorem at33 : prog.funcs[33]? = some f33 := by kernel_rfl
theorem body33 : f33.body = some (codeOf f33) := by kernel_rfl
theorem e33 {a0 : Value} : W prog J 46 h.length 33 (codeOf f33) (RG.mk (regs [a0]) []) h (RetQ prog [.cell 2 104] h.length K) =
(aAlloc [(vint 0),(vint 0),(vint 0),(vint 0),(vint 0),(vint 0),(vint 0),(vint 0),(vint 0),(vint 0)] h fun v1 h2 =>
aAlloc [(vint 0),(vint 0),(vint 0),(vint 0),(vint 0),(vint 0),(vint 0),(vint 0),(vint 0),(vint 0)] h2 fun v3 h4 =>
Sem J 46 h.length 33 (subC [1,1,0,1,0] (codeOf f33)) (RG.p (RG.p (RG.p (RG.mk (regs [a0]) []) 2 v1) 3 v3) 7 (vint 0)) h4 (contQ prog J 46 h.length 33 [1,1,0,1,0] (codeOf f33) [] (RetQ prog [.cell 2 104] h.length K))) := by kernel_rfl
theorem g33 (hJ : Closed prog main J) {a0 : Value} (hs : heapOk h → W prog J 46 h.length 33 (codeOf f33) (RG.mk (regs [a0]) []) h (RetQ prog [.cell 2 104] h.length K)) : Good prog J 33 [a0] h K :=
 good_of_W hJ mixed at33 body33 (by kernel_rfl) (Nat.le_of_ble_eq_true rfl) hs
theorem s33_1 {f : RG} {nx0 : RG → List AObj → Prop} : W prog J 46 n0 33 (subC [1,1,0,1,0,0] (codeOf f33)) f h (thenK nx0 (contQ prog J 46 n0 33 [1,1,0,1,0] (codeOf f33) [] (RetQ prog [.cell 2 104] n0 K))) =
(aBin prog .lss 3 (f.r 7) (vint 5) fun v1 =>
cnd v1
(aFill [(vint 0),(vint 0)] [(0,1,(vint 0)),(1,1,(vint 600))] fun c2 =>
aIdxA 5 2 (f.r 3) (f.r 7) fun v3 =>
aStore 2 v3 (Value.agg ⟨c2⟩) h fun h4 =>
aBin prog .add 3 (f.r 7) (vint 1) fun v5 =>
nx0 (RG.p (RG.p (RG.p (RG.p (RG.p (RG.p (RG.p (RG.p f 8 v1) 9 (f.r 7)) 4 (f.r 7)) 10 (f.r 7)) 11 (Value.agg ⟨c2⟩)) 12 v3) 13 v5) 7 v5) h4)
(aNil (f.r 0) fun v6 =>
aOff v6 0 fun v7 =>
aOff v7 5 fun v8 =>
aLoad false 1 v8 h fun v9 =>
aLenS v9 fun v10 =>
Sem J 46 n0 33 (subC [1,1,1,0,1,0] (codeOf f33)) (RG.p (RG.p (RG.p (RG.p (RG.p (RG.p (RG.p (RG.p f 8 v1) 14 (f.r 0)) 15 v6) 16 v7) 17 v8) 18 v9) 19 v10) 20 (vint 0)) h (contQ prog J 46 n0 33 [1,1,1,0,1,0] (codeOf f33) [] (RetQ prog [.cell 2 104] n0 K)))) := by kernel_rfl
theorem l33_1 (hJ : Closed prog main J) {S : Type} (μ : S → Nat) (I : S → RG → List AObj → Prop) (hI : ∀ s f h,I s f h → heapOk h → n0 ≤ h.length → W prog J 46 n0 33 (subC [1,1,0,1,0,0] (codeOf f33)) f h (thenK (Nx n0 μ I s) (contQ prog J 46 n0 33 [1,1,0,1,0] (codeOf f33) [] (RetQ prog [.cell 2 104] n0 K))))
 {s : S} {f : RG} (hi : Gets n0 I s f h) : Sem J 46 n0 33 (subC [1,1,0,1,0] (codeOf f33)) f h (contQ prog J 46 n0 33 [1,1,0,1,0] (codeOf f33) [] (RetQ prog [.cell 2 104] n0 K)) :=
 loop_rule hJ mixed (b := subC [1,1,0,1,0,0] (codeOf f33)) (by kernel_rfl) μ I hI hi
theorem s33_2 {f : RG} {nx0 : RG → List AObj → Prop} : W prog J 46 n0 33 (subC [1,1,1,0,1,0,0] (codeOf f33)) f h (thenK nx0 (contQ prog J 46 n0 33 [1,1,1,0,1,0] (codeOf f33) [] (RetQ prog [.cell 2 104] n0 K))) =
(aBin prog .lss 3 (f.r 20) (f.r 19) fun v1 =>
cnd v1
(aIdx 4 (f.r 18) (f.r 20) fun v2 =>
aLoad true 4 v2 h fun v3 =>
aAlloc [(vint 0),(vint 0),(vint 0),(vint 0)] h fun v4 h5 =>
aStore 4 v4 v3 h5 fun h6 =>
aNil (f.r 0) fun v7 =>
aOff v7 6 fun v8 =>
aLoad false 1 v8 h6 fun v9 =>
aConvI .u64 (f.r 20) fun v10 =>
aBin prog .shr 93 v9 v10 fun v11 =>
aBin prog .and 93 v11 (Value.int .u64 1) fun v12 =>
aBin prog .eql 93 v12 (Value.int .u64 0) fun v13 =>
cnd v13
((∃ B,aOff v4 0 fun v14 =>
aLoad false 1 v14 h6 fun v15 =>
RdOk (some B) (ptrBlk v14) ∧ (aOff v4 0 fun v16 =>
aLoad false 1 v16 h6 fun v17 =>
RdOk (some B) (ptrBlk v16) ∧ (aIdxA 5 2 (f.r 3) v17 fun v18 =>
aLoad true 2 v18 h6 fun v19 =>
RdOk (some B) (ptrBlk v18) ∧ (aLoad true 4 v4 h6 fun v20 =>
RdOk (some B) (ptrBlk v4) ∧ (Good prog J 50 [v20] h6 fun v21 h22 =>
SameB (some B) h6 h22 ∧ (Good prog J 35 [v19,v21] h22 fun v23 h24 =>
SameB (some B) h6 h24 ∧ (aIdxA 5 2 (f.r 3) v15 fun v25 =>
aStore 2 v25 v23 h24 fun h26 =>
aBin prog .add 3 (f.r 20) (vint 1) fun v27 =>
nx0 (RG.p (RG.p (RG.p (RG.p (RG.p (RG.p (RG.p (RG.p (RG.p (RG.p (RG.p (RG.p (RG.p (RG.p (RG.p (RG.p (RG.p (RG.p (RG.p (RG.p (RG.p (RG.p (RG.p (RG.p (RG.p (RG.p (RG.p f 21 v1) 22 (f.r 20)) 23 v2) 24 v3) 6 v4) 5 (f.r 20)) 25 (f.r 0)) 26 v7) 27 v8) 28 v9) 29 (f.r 20)) 30 v10) 31 v11) 32 v12) 33 v13) 34 v14) 35 v15) 36 v16) 37 v17) 38 v18) 39 v19) 40 v20) 41 v21) 42 v23) 43 v25) 44 v27) 20 v27) h26))))))))
(aBin prog .add 3 (f.r 20) (vint 1) fun v28 =>
nx0 (RG.p (RG.p (RG.p (RG.p (RG.p (RG.p (RG.p (RG.p (RG.p (RG.p (RG.p (RG.p (RG.p (RG.p (RG.p (RG.p (RG.p f 21 v1) 22 (f.r 20)) 23 v2) 24 v3) 6 v4) 5 (f.r 20)) 25 (f.r 0)) 26 v7) 27 v8) 28 v9) 29 (f.r 20)) 30 v10) 31 v11) 32 v12) 33 v13) 44 v28) 20 v28) h6))
(aLoad true 10 (f.r 3) h fun v29 =>
aStore 10 (f.r 2) v29 h fun h30 =>
RetQ prog [.cell 2 104] n0 K .ret (RG.p (RG.p f 21 v1) 45 v29) h30)) := by kernel_rfl
theorem l33_2 (hJ : Closed prog main J) {S : Type} (μ : S → Nat) (I : S → RG → List AObj → Prop) (hI : ∀ s f h,I s f h → heapOk h → n0 ≤ h.length → W prog J 46 n0 33 (subC [1,1,1,0,1,0,0] (codeOf f33)) f h (thenK (Nx n0 μ I s) (contQ prog J 46 n0 33 [1,1,1,0,1,0] (codeOf f33) [] (RetQ prog [.cell 2 104] n0 K))))
 {s : S} {f : RG} (hi : Gets n0 I s f h) : Sem J 46 n0 33 (subC [1,1,1,0,1,0] (codeOf f33)) f h (contQ prog J 46 n0 33 [1,1,1,0,1,0] (codeOf f33) [] (RetQ prog [.cell 2 104] n0 K)) :=
 loop_rule hJ mixed (b := subC [1,1,1,0,1,0,0] (codeOf f33)) (by kernel_rfl) μ I hI hi
theorem at34 : prog.funcs[34]? = some f34 := by kernel_rfl
theorem body34 : f34.body = some (codeOf f34) := by kernel_rfl
theorem e34 {a0 : Value} : W prog J 10 h.length 34 (codeOf f34) (RG.mk (regs [a0]) []) h (RetQ prog [.cell 2 80] h.length K) =
(aBox a0 h fun v1 h2 =>
aAlloc [(vint 0),(vint 0)] h2 fun v3 h4 =>
aOff v1 1 fun v5 =>
aLoad false 1 v5 h4 fun v6 =>
aUn .neg v6 fun v7 =>
aOff v1 0 fun v8 =>
aLoad false 1 v8 h4 fun v9 =>
aUn .neg v9 fun v10 =>
aFill [(vint 0),(vint 0)] [(0,1,v7),(1,1,v10)] fun c11 =>
aStore 2 v3 (Value.agg ⟨c11⟩) h4 fun h12 =>
RetQ prog [.cell 2 80] h.length K .ret (RG.p (RG.p (RG.p (RG.p (RG.p (RG.p (RG.p (RG.p (RG.p (RG.mk (regs [a0]) []) 1 v1) 2 v3) 3 v5) 4 v6) 5 v7) 6 v8) 7 v9) 8 v10) 9 (Value.agg ⟨c11⟩)) h12) := by kernel_rfl
theorem g34 (hJ : Closed prog main J) {a0 : Value} (hs : heapOk h → W prog J 10 h.length 34 (codeOf f34) (RG.mk (regs [a0]) []) h (RetQ prog [.cell 2 80] h.length K)) : Good prog J 34 [a0] h K :=
 good_of_W hJ mixed at34 body34 (by kernel_rfl) (Nat.le_of_ble_eq_true rfl) hs
theorem at35 : prog.funcs[35]? = some f35 := by kernel_rfl
theorem body35 : f35.body = some (codeOf f35) := by kernel_rfl
theorem e35 {a0 a1 : Value} : W prog J 16 h.length 35 (codeOf f35) (RG.mk (regs [a0,a1]) []) h (RetQ prog [.cell 4 80] h.length K) =
(aBox a0 h fun v1 h2 =>
aBox a1 h2 fun v3 h4 =>
aAlloc [(vint 0),(vint 0)] h4 fun v5 h6 =>
aOff v1 0 fun v7 =>
aLoad false 1 v7 h6 fun v8 =>
aOff v3 0 fun v9 =>
aLoad false 1 v9 h6 fun v10 =>
aMax v8 [v10] fun v11 =>
aOff v1 1 fun v12 =>
aLoad false 1 v12 h6 fun v13 =>
aOff v3 1 fun v14 =>
aLoad false 1 v14 h6 fun v15 =>
aMin v13 [v15] fun v16 =>
aFill [(vint 0),(vint 0)] [(0,1,v11),(1,1,v16)] fun c17 =>
aStore 2 v5 (Value.agg ⟨c17⟩) h6 fun h18 =>
RetQ prog [.cell 4 80] h.length K .ret (RG.p (RG.p (RG.p (RG.p (RG.p (RG.p (RG.p (RG.p (RG.p (RG.p (RG.p (RG.p (RG.p (RG.p (RG.mk (regs [a0,a1]) []) 2 v1) 3 v3) 4 v5) 5 v7) 6 v8) 7 v9) 8 v10) 9 v11) 10 v12) 11 v13) 12 v14) 13 v15) 14 v16) 15 (Value.agg ⟨c17⟩)) h18) := by kernel_rfl
theorem g35 (hJ : Closed prog main J) {a0 a1 : Value} (hs : heapOk h → W prog J 16 h.length 35 (codeOf f35) (RG.mk (regs [a0,a1]) []) h (RetQ prog [.cell 4 80] h.length K)) : Good prog J 35 [a0,a1] h K :=
 good_of_W hJ mixed at35 body35 (by kernel_rfl) (Nat.le_of_ble_eq_true rfl) hs
theorem at36 : prog.funcs[36]? = some f36 := by kernel_rfl
theorem body36 : f36.body = some (codeOf f36) := by kernel_rfl
theorem e36 {a0 a1 : Value} : W prog J 16 h.length 36 (codeOf f36) (RG.mk (regs [a0,a1]) []) h (RetQ prog [.cell 4 80] h.length K) =
(aBox a0 h fun v1 h2 =>
aBox a1 h2 fun v3 h4 =>
aAlloc [(vint 0),(vint 0)] h4 fun v5 h6 =>
aOff v1 0 fun v7 =>
aLoad false 1 v7 h6 fun v8 =>
aOff v3 0 fun v9 =>
aLoad false 1 v9 h6 fun v10 =>
aBin prog .add 3 v8 v10 fun v11 =>
aOff v1 1 fun v12 =>
aLoad false 1 v12 h6 fun v13 =>
aOff v3 1 fun v14 =>
aLoad false 1 v14 h6 fun v15 =>
aBin prog .add 3 v13 v15 fun v16 =>
aFill [(vint 0),(vint 0)] [(0,1,v11),(1,1,v16)] fun c17 =>
aStore 2 v5 (Value.agg ⟨c17⟩) h6 fun h18 =>
RetQ prog [.cell 4 80] h.length K .ret (RG.p (RG.p (RG.p (RG.p (RG.p (RG.p (RG.p (RG.p (RG.p (RG.p (RG.p (RG.p (RG.p (RG.p (RG.mk (regs [a0,a1]) []) 2 v1) 3 v3) 4 v5) 5 v7) 6 v8) 7 v9) 8 v10) 9 v11) 10 v12) 11 v13) 12 v14) 13 v15) 14 v16) 15 (Value.agg ⟨c17⟩)) h18) := by kernel_rfl
theorem g36 (hJ : Closed prog main J) {a0 a1 : Value} (hs : heapOk h → W prog J 16 h.length 36 (codeOf f36) (RG.mk (regs [a0,a1]) []) h (RetQ prog [.cell 4 80] h.length K)) : Good prog J 36 [a0,a1] h K :=
 good_of_W hJ mixed at36 body36 (by kernel_rfl) (Nat.le_of_ble_eq_true rfl) hs
theorem at37 : prog.funcs[37]? = some f37 := by kernel_rfl
theorem body37 : f37.body = some (codeOf f37) := by kernel_rfl
theorem e37 {a0 a1 : Value} : W prog J 21 h.length 37 (codeOf f37) (RG.mk (regs [a0,a1]) []) h (RetQ prog [.cell 4 80] h.length K) =
(aAlloc [(vint 0),(vint 0)] h fun v1 h2 =>
(∃ B,aNil a0 fun v3 =>
aOff v3 0 fun v4 =>
aOff v4 3 fun v5 =>
aLoad false 1 v5 h2 fun v6 =>
RdOk (some B) (ptrBlk v5) ∧ (aIdx 2 v6 a1 fun v7 =>
aLoad true 2 v7 h2 fun v8 =>
RdOk (some B) (ptrBlk v7) ∧ (aNil a0 fun v9 =>
aOff v9 0 fun v10 =>
aOff v10 4 fun v11 =>
aLoad false 1 v11 h2 fun v12 =>
RdOk (some B) (ptrBlk v11) ∧ (aUn .neg v12 fun v13 =>
aFill [(vint 0),(vint 0)] [(0,1,v13),(1,1,(vint 0))] fun c14 =>
Good prog J 36 [v8,(Value.agg ⟨c14⟩)] h2 fun v15 h16 =>
SameB (some B) h2 h16 ∧ (aStore 2 v1 v15 h16 fun h17 =>
RetQ prog [.cell 4 80] h.length K .ret (RG.p (RG.p (RG.p (RG.p (RG.p (RG.p (RG.p (RG.p (RG.p (RG.p (RG.p (RG.p (RG.p (RG.p (RG.p (RG.p (RG.p (RG.mk (regs [a0,a1]) []) 4 v1) 5 a0) 6 v3) 7 v4) 8 v5) 9 v6) 10 a1) 11 v7) 12 v8) 13 a0) 14 v9) 15 v10) 16 v11) 17 v12) 18 v13) 19 (Value.agg ⟨c14⟩)) 20 v15) h17)))))) := by kernel_rfl
theorem g37 (hJ : Closed prog main J) {a0 a1 : Value} (hs : heapOk h → W prog J 21 h.length 37 (codeOf f37) (RG.mk (regs [a0,a1]) []) h (RetQ prog [.cell 4 80] h.length K)) : Good prog J 37 [a0,a1] h K :=
 good_of_W hJ mixed at37 body37 (by kernel_rfl) (Nat.le_of_ble_eq_true rfl) hs
theorem at48 : prog.funcs[48]? = some f48 := by kernel_rfl
theorem body48 : f48.body = some (codeOf f48) := by kernel_rfl
theorem e48 {a0 : Value} : W prog J 8 h.length 48 (codeOf f48) (RG.mk (regs [a0]) []) h (RetQ prog [.tmp 2] h.length K) =
(aBox a0 h fun v1 h2 =>
aOff v1 0 fun v3 =>
aLoad false 1 v3 h2 fun v4 =>
aOff v1 1 fun v5 =>
aLoad false 1 v5 h2 fun v6 =>
aBin prog .gtr 3 v4 v6 fun v7 =>
retL h.length K [] [v7] h2) := by kernel_rfl
theorem g48 (hJ : Closed prog main J) {a0 : Value} (hs : heapOk h → W prog J 8 h.length 48 (codeOf f48) (RG.mk (regs [a0]) []) h (RetQ prog [.tmp 2] h.length K)) : Good prog J 48 [a0] h K :=
 good_of_W hJ mixed at48 body48 (by kernel_rfl) (Nat.le_of_ble_eq_true rfl) hs
theorem at49 : prog.funcs[49]? = some f49 := by kernel_rfl
theorem body49 : f49.body = some (codeOf f49) := by kernel_rfl
theorem e49 {a0 a1 a2 : Value} : W prog J 38 h.length 49 (codeOf f49) (RG.mk (regs [a0,a1,a2]) []) h (RetQ prog [] h.length K) =
(aLoad false 1 a1 h fun v1 =>
aNil v1 fun v2 =>
aOff v2 0 fun v3 =>
aOff v3 1 fun v4 =>
aLoad true 2 v4 h fun v5 =>
aAlloc [(vint 0),(vint 0)] h fun v6 h7 =>
aStore 2 v6 v5 h7 fun h8 =>
aLoad false 1 a1 h8 fun v9 =>
aNil v9 fun v10 =>
aOff v10 0 fun v11 =>
aOff v11 0 fun v12 =>
aLoad false 1 v12 h8 fun v13 =>
Sem J 38 h.length 49 (subC [1,1,0] (codeOf f49)) (RG.p (RG.p (RG.p (RG.p (RG.p (RG.p (RG.p (RG.p (RG.p (RG.p (RG.p (RG.p (RG.mk (regs [a0,a1,a2]) []) 6 v1) 7 v2) 8 v3) 9 v4) 10 v5) 4 v6) 11 v9) 12 v10) 13 v11) 14 v12) 15 v13) 16 (vint 0)) h8 (contQ prog J 38 h.length 49 [1,1,0] (codeOf f49) [] (RetQ prog [] h.length K))) := by kernel_rfl
theorem g49 (hJ : Closed prog main J) {a0 a1 a2 : Value} (hs : heapOk h → W prog J 38 h.length 49 (codeOf f49) (RG.mk (regs [a0,a1,a2]) []) h (RetQ prog [] h.length K)) : Good prog J 49 [a0,a1,a2] h K :=
 good_of_W hJ mixed at49 body49 (by kernel_rfl) (Nat.le_of_ble_eq_true rfl) hs
theorem s49_1 {f : RG} {nx0 : RG → List AObj → Prop} : W prog J 38 n0 49 (subC [1,1,0,0] (codeOf f49)) f h (thenK nx0 (contQ prog J 38 n0 49 [1,1,0] (codeOf f49) [] (RetQ prog [] n0 K))) =
(aBin prog .lss 3 (f.r 16) (f.r 15) fun v1 =>
cnd v1
(aBin prog .gtr 3 (f.r 16) (vint 0) fun v2 =>
cnd v2
((∃ B,aLoad true 2 (f.r 4) h fun v3 =>
RdOk (some B) (ptrBlk (f.r 4)) ∧ (aLoad false 1 (f.r 1) h fun v4 =>
RdOk (some B) (ptrBlk (f.r 1)) ∧ (aBin prog .sub 3 (f.r 16) (vint 1) fun v5 =>
Good prog J 37 [v4,v5] h fun v6 h7 =>
SameB (some B) h h7 ∧ (Good prog J 36 [v3,v6] h7 fun v8 h9 =>
SameB (some B) h h9 ∧ (aStore 2 (f.r 4) v8 h9 fun h10 =>
aLoad true 2 (f.r 4) h10 fun v11 =>
aIdxA 5 2 (f.r 2) (f.r 16) fun v12 =>
aLoad true 2 v12 h10 fun v13 =>
Good prog J 35 [v11,v13] h10 fun v14 h15 =>
aStore 2 (f.r 4) v14 h15 fun h16 =>
aLoad true 2 (f.r 4) h16 fun v17 =>
callV prog (Good prog J) (f.r 0) [(f.r 16),v17] h16 fun v18 h19 =>
aUn .not v18 fun v20 =>
cnd v20
(retL n0 K f.ds [] h19)
(aBin prog .add 3 (f.r 16) (vint 1) fun v21 =>
nx0 (RG.p (RG.p (RG.p (RG.p (RG.p (RG.p (RG.p (RG.p (RG.p (RG.p (RG.p (RG.p (RG.p (RG.p (RG.p (RG.p (RG.p (RG.p (RG.p (RG.p (RG.p (RG.p (RG.p f 17 v1) 18 (f.r 16)) 5 (f.r 16)) 19 (f.r 16)) 20 v2) 21 v3) 22 v4) 23 (f.r 16)) 24 v5) 25 v6) 26 v8) 27 v11) 28 (f.r 16)) 29 v12) 30 v13) 31 v14) 32 (f.r 0)) 33 (f.r 16)) 34 v17) 35 v18) 36 v20) 37 v21) 16 v21) h19)))))))
(aLoad true 2 (f.r 4) h fun v22 =>
aIdxA 5 2 (f.r 2) (f.r 16) fun v23 =>
aLoad true 2 v23 h fun v24 =>
Good prog J 35 [v22,v24] h fun v25 h26 =>
aStore 2 (f.r 4) v25 h26 fun h27 =>
aLoad true 2 (f.r 4) h27 fun v28 =>
callV prog (Good prog J) (f.r 0) [(f.r 16),v28] h27 fun v29 h30 =>
aUn .not v29 fun v31 =>
cnd v31
(retL n0 K f.ds [] h30)
(aBin prog .add 3 (f.r 16) (vint 1) fun v32 =>
nx0 (RG.p (RG.p (RG.p (RG.p (RG.p (RG.p (RG.p (RG.p (RG.p (RG.p (RG.p (RG.p (RG.p (RG.p (RG.p (RG.p (RG.p f 17 v1) 18 (f.r 16)) 5 (f.r 16)) 19 (f.r 16)) 20 v2) 27 v22) 28 (f.r 16)) 29 v23) 30 v24) 31 v25) 32 (f.r 0)) 33 (f.r 16)) 34 v28) 35 v29) 36 v31) 37 v32) 16 v32) h30)))
(retL n0 K f.ds [] h)) := by kernel_rfl
theorem l49_1 (hJ : Closed prog main J) {S : Type} (μ : S → Nat) (I : S → RG → List AObj → Prop) (hI : ∀ s f h,I s f h → heapOk h → n0 ≤ h.length → W prog J 38 n0 49 (subC [1,1,0,0] (codeOf f49)) f h (thenK (Nx n0 μ I s) (contQ prog J 38 n0 49 [1,1,0] (codeOf f49) [] (RetQ prog [] n0 K))))
 {s : S} {f : RG} (hi : Gets n0 I s f h) : Sem J 38 n0 49 (subC [1,1,0] (codeOf f49)) f h (contQ prog J 38 n0 49 [1,1,0] (codeOf f49) [] (RetQ prog [] n0 K)) :=
 loop_rule hJ mixed (b := subC [1,1,0,0] (codeOf f49)) (by kernel_rfl) μ I hI hi
theorem at31 : prog.funcs[31]? = some f31 := by kernel_rfl
theorem body31 : f31.body = some (codeOf f31) := by kernel_rfl
theorem e31 {a0 a1 : Value} : W prog J 43 h.length 31 (codeOf f31) (RG.mk (regs [a0,a1]) []) h (RetQ prog [.tmp 4] h.length K) =
(aNil a0 fun v1 =>
aOff v1 6 fun v2 =>
aStore 1 v2 a1 h fun h3 =>
Good prog J 33 [a0] h3 fun v4 h5 =>
aAlloc [(vint 0),(vint 0),(vint 0),(vint 0),(vint 0),(vint 0),(vint 0),(vint 0),(vint 0),(vint 0)] h5 fun v6 h7 =>
aStore 10 v6 v4 h7 fun h8 =>
aNil a0 fun v9 =>
aOff v9 7 fun v10 =>
aLoad false 1 v10 h8 fun v11 =>
aLoad true 10 v6 h8 fun v12 =>
aLook prog 97 true v11 v12 h8 fun v13 =>
aExt v13 0 fun v14 =>
aExt v13 1 fun v15 =>
cnd v15
(retL h.length K [] [v14] h8)
(aAlloc [(Value.bool false)] h8 fun v16 h17 =>
aStore 1 v16 (Value.bool true) h17 fun h18 =>
aLoad true 10 v6 h18 fun v19 =>
Good prog J 32 [a0,v19] h18 fun v20 h21 =>
Sem J 43 h.length 31 (subC [1,0,1,1,1,1,1,0,1,0] (codeOf f31)) (RG.p (RG.p (RG.p (RG.p (RG.p (RG.p (RG.p (RG.p (RG.p (RG.p (RG.p (RG.p (RG.p (RG.p (RG.p (RG.p (RG.p (RG.p (RG.p (RG.p (RG.p (RG.p (RG.p (RG.p (RG.mk (regs [a0,a1]) []) 4 (Value.bool false)) 11 a0) 12 a1) 13 v1) 14 v2) 15 a0) 16 v4) 5 v6) 18 a0) 19 v9) 20 v10) 21 v11) 22 v12) 23 v13) 17 v13) 24 v14) 25 v15) 6 v14) 7 v15) 26 v15) 8 v16) 28 a0) 29 v19) 30 v20) h21 (contQ prog J 43 h.length 31 [1,0,1,1,1,1,1,0,1,0] (codeOf f31) [] (RetQ prog [.tmp 4] h.length K)))) := by kernel_rfl
theorem g31 (hJ : Closed prog main J) {a0 a1 : Value} (hs : heapOk h → W prog J 43 h.length 31 (codeOf f31) (RG.mk (regs [a0,a1]) []) h (RetQ prog [.tmp 4] h.length K)) : Good prog J 31 [a0,a1] h K :=
 good_of_W hJ mixed at31 body31 (by kernel_rfl) (Nat.le_of_ble_eq_true rfl) hs
theorem a31_1 {f : RG} {fr : FuncId} {Q : QT} : W prog J 43 n0 fr (subC [1,0,1,1,1,1,1,0,1,0,0] (codeOf f31)) f h Q =
(aAlloc [(vint 0),(vint 0)] h fun v1 h2 =>
aStore 2 v1 (f.r 32) h2 fun h3 =>
Q .normal (RG.p f 10 v1) h3) := by kernel_rfl
theorem b31_1 {f : RG} {fr : FuncId} {Q : QT} : W prog J 43 n0 fr (subC [1,0,1,1,1,1,1,0,1,0,1] (codeOf f31)) f h Q =
(aLoad true 2 (f.r 10) h fun v1 =>
Good prog J 48 [v1] h fun v2 h3 =>
cnd v2
(aStore 1 (f.r 8) (Value.bool false) h3 fun h4 =>
Q (.exit 0) (RG.p (RG.p (RG.p f 34 v1) 35 v2) 33 v2) h4)
(Q .normal (RG.p (RG.p (RG.p f 34 v1) 35 v2) 33 v2) h3)) := by kernel_rfl
theorem c31_1x0 {f : RG} : (contQ prog J 43 n0 31 [1,0,1,1,1,1,1,0,1,0] (codeOf f31) [] (RetQ prog [.tmp 4] n0 K)) (.exit 0) f h =
(aNil (f.r 0) fun v1 =>
aOff v1 7 fun v2 =>
aLoad false 1 v2 h fun v3 =>
aLoad true 10 (f.r 5) h fun v4 =>
aLoad false 1 (f.r 8) h fun v5 =>
((VOk h.length v5 ∧ one v5 = true) ∧ aUpd prog 97 v3 v4 v5 h fun h6 =>
aLoad false 1 (f.r 8) h6 fun v7 =>
retL n0 K f.ds [v7] h6)) := by kernel_rfl
theorem c31_1 {f : RG} : (contQ prog J 43 n0 31 [1,0,1,1,1,1,1,0,1,0] (codeOf f31) [] (RetQ prog [.tmp 4] n0 K)) .normal f h =
(aNil (f.r 0) fun v1 =>
aOff v1 7 fun v2 =>
aLoad false 1 v2 h fun v3 =>
aLoad true 10 (f.r 5) h fun v4 =>
aLoad false 1 (f.r 8) h fun v5 =>
((VOk h.length v5 ∧ one v5 = true) ∧ aUpd prog 97 v3 v4 v5 h fun h6 =>
aLoad false 1 (f.r 8) h6 fun v7 =>
retL n0 K f.ds [v7] h6)) := by kernel_rfl
theorem l31_1 (hJ : Closed prog main J) {f : RG} {g : FuncId} {first cap : List Value} (hx : ev f.r ((Go.Operand.tmp 30)) = .func (.func g) ⟨first⟩ ⟨cap⟩) (hg : g < prog.funcs.size)
 (hs : Good prog J g (first ++ [.func (.yield (h.length + 1)) ⟨[]⟩ ⟨[]⟩] ++ cap) (h ++ [.deferred] ++ [.loop .ready none 31 f.r 43 #[31,32] (subC [1,0,1,1,1,1,1,0,1,0,0] (codeOf f31)) (subC [1,0,1,1,1,1,1,0,1,0,1] (codeOf f31)) h.length]) (endQ h.length f (contQ prog J 43 n0 31 [1,0,1,1,1,1,1,0,1,0] (codeOf f31) [] (RetQ prog [.tmp 4] n0 K)))) (hcall : callable prog g = true := by kernel_rfl) : Sem J 43 n0 31 (subC [1,0,1,1,1,1,1,0,1,0] (codeOf f31)) f h (contQ prog J 43 n0 31 [1,0,1,1,1,1,1,0,1,0] (codeOf f31) [] (RetQ prog [.tmp 4] n0 K)) :=
 Sem_range hJ (by decide) (fop := (Go.Operand.tmp 30)) (params := #[31,32]) (assign := subC [1,0,1,1,1,1,1,0,1,0,0] (codeOf f31)) (body := subC [1,0,1,1,1,1,1,0,1,0,1] (codeOf f31)) hx hg hs hcall
theorem at32 : prog.funcs[32]? = some f32 := by kernel_rfl
theorem body32 : f32.body = some (codeOf f32) := by kernel_rfl
theorem e32 {a0 a1 : Value} : W prog J 6 h.length 32 (codeOf f32) (RG.mk (regs [a0,a1]) []) h (RetQ prog [.tmp 4] h.length K) =
(aBox a0 h fun v1 h2 =>
aBox a1 h2 fun v3 h4 =>
aMkF 49 [] [v1,v3] fun v5 =>
retL h.length K [] [v5] h4) := by kernel_rfl
theorem g32 (hJ : Closed prog main J) {a0 a1 : Value} (hs : heapOk h → W prog J 6 h.length 32 (codeOf f32) (RG.mk (regs [a0,a1]) []) h (RetQ prog [.tmp 4] h.length K)) : Good prog J 32 [a0,a1] h K :=
 good_of_W hJ mixed at32 body32 (by kernel_rfl) (Nat.le_of_ble_eq_true rfl) hs
end
section
variable {main : Bool} {J : JT} {n0 : Nat} {h : List AObj} {K : Value → List AObj → Prop}
theorem at5 : prog.funcs[5]? = some f5 := by kernel_rfl
theorem body5 : f5.body = some (codeOf f5) := by kernel_rfl
theorem e5 {a0 a1 a2 : Value} : W prog J 152 h.length 5 (codeOf f5) (RG.mk (regs [a0,a1,a2]) []) h (RetQ prog [.cell 6 30,.tmp 7,.tmp 8] h.length K) =
(aAlloc [(vint 0),(vint 0),(vint 0),(Value.slice none 0 0),(vint 0),(Value.slice none 0 0)] h fun v1 h2 =>
aMin a1 [(vint 5)] fun v3 =>
Good prog J 9 [a0,(vint 1),v3] h2 fun v4 h5 =>
Good prog J 8 [a0,(vint 4)] h5 fun v6 h7 =>
(((3 * 1 : Nat) ≤ 16777216 ∧ (3 : Nat) ≤ 16777216 ∧ List.length [(vint 0)] = 1) ∧ aFill (zrep [(vint 0)] 3) [(0,1,(vint 1)),(1,1,(vint 2)),(2,1,v6)] fun c8 =>
aNewS 3 c8 h7 fun v9 h10 =>
Good prog J 15 [a0,(vint 0),v9] h10 fun v11 h12 =>
aFill [(vint 0),(vint 0),(vint 0),(Value.slice none 0 0),(vint 0),(Value.slice none 0 0)] [(0,1,v4),(4,1,v11)] fun c13 =>
aAlloc [(vint 0),(vint 0),(vint 0),(Value.slice none 0 0),(vint 0),(Value.slice none 0 0)] h12 fun v14 h15 =>
aStore 6 v14 (Value.agg ⟨c13⟩) h15 fun h16 =>
Good prog J 9 [a0,(vint 30),(vint 60)] h16 fun v17 h18 =>
aOff v14 1 fun v19 =>
aOff v19 0 fun v20 =>
aStore 1 v20 v17 h18 fun h21 =>
(∃ B,aOff v14 1 fun v22 =>
aOff v22 0 fun v23 =>
aLoad false 1 v23 h21 fun v24 =>
RdOk (some B) (ptrBlk v23) ∧ (Good prog J 8 [a0,(vint 3)] h21 fun v25 h26 =>
SameB (some B) h21 h26 ∧ (Good prog J 8 [a0,(vint 6)] h26 fun v27 h28 =>
SameB (some B) h21 h28 ∧ ((((2 * 1 : Nat) ≤ 16777216 ∧ (2 : Nat) ≤ 16777216 ∧ List.length [(vint 0)] = 1) ∧ aFill (zrep [(vint 0)] 2) [(0,1,v25),(1,1,v27)] fun c29 =>
aNewS 2 c29 h28 fun v30 h31 =>
SameB (some B) h21 h31 ∧ (Good prog J 15 [a0,(vint 0),v30] h31 fun v32 h33 =>
SameB (some B) h21 h33 ∧ (aBin prog .add 3 v24 v32 fun v34 =>
aOff v14 1 fun v35 =>
aOff v35 1 fun v36 =>
aStore 1 v36 v34 h33 fun h37 =>
aOff v14 1 fun v38 =>
aOff v38 0 fun v39 =>
aLoad false 1 v39 h37 fun v40 =>
aOff v14 1 fun v41 =>
aOff v41 1 fun v42 =>
aLoad false 1 v42 h37 fun v43 =>
Good prog J 9 [a0,v40,v43] h37 fun v44 h45 =>
(((1 * 1 : Nat) ≤ 16777216 ∧ (1 : Nat) ≤ 16777216 ∧ List.length [(vint 0)] = 1) ∧ aFill (zrep [(vint 0)] 1) [(0,1,v44)] fun c46 =>
aNewS 1 c46 h45 fun v47 h48 =>
Sem J 152 h.length 5 (subC [1,1,1,1,1,1,1,0,1,0] (codeOf f5)) (RG.p (RG.p (RG.p (RG.p (RG.p (RG.p (RG.p (RG.p (RG.p (RG.p (RG.p (RG.p (RG.p (RG.p (RG.p (RG.p (RG.p (RG.p (RG.p (RG.p (RG.p (RG.p (RG.p (RG.p (RG.p (RG.p (RG.p (RG.p (RG.p (RG.p (RG.p (RG.p (RG.p (RG.p (RG.p (RG.p (RG.p (RG.p (RG.p (RG.p (RG.p (RG.p (RG.p (RG.p (RG.p (RG.mk (regs [a0,a1,a2]) []) 6 v1) 7 (Value.slice none 0 0)) 8 (Value.slice none 0 0)) 19 a0) 20 a1) 21 v3) 22 v4) 23 a0) 24 a0) 25 v6) 26 v9) 27 v11) 28 (Value.agg ⟨c13⟩)) 9 v14) 29 a0) 30 v17) 31 v19) 32 v20) 33 v22) 34 v23) 35 v24) 36 a0) 37 a0) 39 a0) 38 v25) 40 v27) 41 v30) 42 v32) 43 v34) 44 v35) 45 v36) 46 a0) 47 v38) 48 v39) 49 v40) 50 v41) 51 v42) 52 v43) 53 v44) 10 v44) 54 v44) 55 v47) 11 v47) 12 (Value.slice none 0 0)) 13 (vint 1)) h48 (contQ prog J 152 h.length 5 [1,1,1,1,1,1,1,0,1,0] (codeOf f5) [] (RetQ prog [.cell 6 30,.tmp 7,.tmp 8] h.length K)))))))))))) := by kernel_rfl
theorem g5 (hJ : Closed prog main J) {a0 a1 a2 : Value} (hs : heapOk h → W prog J 152 h.length 5 (codeOf f5) (RG.mk (regs [a0,a1,a2]) []) h (RetQ prog [.cell 6 30,.tmp 7,.tmp 8] h.length K)) : Good prog J 5 [a0,a1,a2] h K :=
 good_of_W hJ mixed at5 body5 (by kernel_rfl) (Nat.le_of_ble_eq_true rfl) hs
theorem s5_1 {f : RG} {nx0 : RG → List AObj → Prop} : W prog J 152 n0 5 (subC [1,1,1,1,1,1,1,0,1,0,0] (codeOf f5)) f h (thenK nx0 (contQ prog J 152 n0 5 [1,1,1,1,1,1,1,0,1,0] (codeOf f5) [] (RetQ prog [.cell 6 30,.tmp 7,.tmp 8] n0 K))) =
(aOff (f.r 9) 0 fun v1 =>
aLoad false 1 v1 h fun v2 =>
aBin prog .lss 3 (f.r 13) v2 fun v3 =>
cnd v3
(Good prog J 9 [(f.r 0),(vint (-3)),(vint 2)] h fun v4 h5 =>
aFill [(vint 0),(vint 0)] [(0,1,v4)] fun c6 =>
aAlloc [(vint 0),(vint 0)] h5 fun v7 h8 =>
aStore 2 v7 (Value.agg ⟨c6⟩) h8 fun h9 =>
(∃ B,aOff v7 0 fun v10 =>
aLoad false 1 v10 h9 fun v11 =>
RdOk (some B) (ptrBlk v10) ∧ (Good prog J 8 [(f.r 0),(vint 2)] h9 fun v12 h13 =>
SameB (some B) h9 h13 ∧ (aBin prog .add 3 v11 v12 fun v14 =>
aOff v7 1 fun v15 =>
aStore 1 v15 v14 h13 fun h16 =>
aOff (f.r 9) 4 fun v17 =>
aLoad false 1 v17 h16 fun v18 =>
Good prog J 8 [(f.r 0),v18] h16 fun v19 h20 =>
aOff v7 0 fun v21 =>
aLoad false 1 v21 h20 fun v22 =>
aOff v7 1 fun v23 =>
aLoad false 1 v23 h20 fun v24 =>
Good prog J 9 [(f.r 0),v22,v24] h20 fun v25 h26 =>
aBin prog .add 3 (f.r 10) v25 fun v27 =>
aBin prog .sub 3 v27 v19 fun v28 =>
aOff (f.r 9) 3 fun v29 =>
aLoad false 1 v29 h26 fun v30 =>
aLoad true 2 v7 h26 fun v31 =>
(((1 * 2 : Nat) ≤ 16777216 ∧ (1 : Nat) ≤ 16777216 ∧ List.length [(vint 0),(vint 0)] = 2) ∧ aFill (zrep [(vint 0),(vint 0)] 1) [(0,2,v31)] fun c32 =>
aNewS 1 c32 h26 fun v33 h34 =>
((List.length [(vint 0),(vint 0)] = 2 ∧ 0 < (2 : Nat) ∧ 0 < (16 : Nat) ∧ (16 : Nat) ≤ 1024) ∧ aApp 2 v30 v33 h34 fun v35 h36 =>
(((1 * 1 : Nat) ≤ 16777216 ∧ (1 : Nat) ≤ 16777216 ∧ List.length [(vint 0)] = 1) ∧ aFill (zrep [(vint 0)] 1) [(0,1,v28)] fun c37 =>
aNewS 1 c37 h36 fun v38 h39 =>
((List.length [(vint 0)] = 1 ∧ 0 < (1 : Nat) ∧ 0 < (8 : Nat) ∧ (8 : Nat) ≤ 1024) ∧ aApp 1 (f.r 11) v38 h39 fun v40 h41 =>
(((1 * 1 : Nat) ≤ 16777216 ∧ (1 : Nat) ≤ 16777216 ∧ List.length [(vint 0)] = 1) ∧ aFill (zrep [(vint 0)] 1) [(0,1,v19)] fun c42 =>
aNewS 1 c42 h41 fun v43 h44 =>
((List.length [(vint 0)] = 1 ∧ 0 < (1 : Nat) ∧ 0 < (8 : Nat) ∧ (8 : Nat) ≤ 1024) ∧ aApp 1 (f.r 12) v43 h44 fun v45 h46 =>
aOff (f.r 9) 3 fun v47 =>
aStore 1 v47 v35 h46 fun h48 =>
aBin prog .add 3 (f.r 13) (vint 1) fun v49 =>
nx0 (RG.p (RG.p (RG.p (RG.p (RG.p (RG.p (RG.p (RG.p (RG.p (RG.p (RG.p (RG.p (RG.p (RG.p (RG.p (RG.p (RG.p (RG.p (RG.p (RG.p (RG.p (RG.p (RG.p (RG.p (RG.p (RG.p (RG.p (RG.p (RG.p (RG.p (RG.p (RG.p (RG.p (RG.p (RG.p (RG.p (RG.p (RG.p (RG.p (RG.p (RG.p (RG.p (RG.p (RG.p (RG.p (RG.p (RG.p (RG.p (RG.p f 56 (f.r 13)) 57 v1) 58 v2) 59 v3) 62 (f.r 0)) 63 v4) 64 (Value.agg ⟨c6⟩)) 14 v7) 65 v10) 66 v11) 67 (f.r 0)) 68 v12) 69 v14) 70 v15) 71 (f.r 0)) 72 v17) 73 v18) 74 v19) 15 v19) 75 (f.r 10)) 76 (f.r 0)) 77 v21) 78 v22) 79 v23) 80 v24) 81 v25) 82 v27) 83 v19) 84 v28) 10 v28) 85 v29) 86 v30) 87 v31) 88 v33) 89 v35) 90 (f.r 11)) 91 v28) 92 v38) 93 v40) 94 (f.r 12)) 95 v19) 96 v43) 97 v45) 98 v47) 11 v40) 12 v45) 60 (f.r 13)) 61 v49) 13 v49) h48))))))))))
(aMin (f.r 2) [(vint 7)] fun v50 =>
Good prog J 8 [(f.r 0),v50] h fun v51 h52 =>
Sem J 152 n0 5 (subC [1,1,1,1,1,1,1,1,0,1,0] (codeOf f5)) (RG.p (RG.p (RG.p (RG.p (RG.p (RG.p (RG.p (RG.p (RG.p f 56 (f.r 13)) 57 v1) 58 v2) 59 v3) 99 (f.r 0)) 100 (f.r 2)) 101 v50) 102 v51) 16 v51) h52 (contQ prog J 152 n0 5 [1,1,1,1,1,1,1,1,0,1,0] (codeOf f5) [] (RetQ prog [.cell 6 30,.tmp 7,.tmp 8] n0 K)))) := by kernel_rfl
theorem l5_1 (hJ : Closed prog main J) {S : Type} (μ : S → Nat) (I : S → RG → List AObj → Prop) (hI : ∀ s f h,I s f h → heapOk h → n0 ≤ h.length → W prog J 152 n0 5 (subC [1,1,1,1,1,1,1,0,1,0,0] (codeOf f5)) f h (thenK (Nx n0 μ I s) (contQ prog J 152 n0 5 [1,1,1,1,1,1,1,0,1,0] (codeOf f5) [] (RetQ prog [.cell 6 30,.tmp 7,.tmp 8] n0 K))))
 {s : S} {f : RG} (hi : Gets n0 I s f h) : Sem J 152 n0 5 (subC [1,1,1,1,1,1,1,0,1,0] (codeOf f5)) f h (contQ prog J 152 n0 5 [1,1,1,1,1,1,1,0,1,0] (codeOf f5) [] (RetQ prog [.cell 6 30,.tmp 7,.tmp 8] n0 K)) :=
 loop_rule hJ mixed (b := subC [1,1,1,1,1,1,1,0,1,0,0] (codeOf f5)) (by kernel_rfl) μ I hI hi
theorem s5_2 {f : RG} {nx0 : RG → List AObj → Prop} : W prog J 152 n0 5 (subC [1,1,1,1,1,1,1,1,0,1,0,0] (codeOf f5)) f h (thenK nx0 (contQ prog J 152 n0 5 [1,1,1,1,1,1,1,1,0,1,0] (codeOf f5) [] (RetQ prog [.cell 6 30,.tmp 7,.tmp 8] n0 K))) =
(aBin prog .gtr 3 (f.r 16) (vint 0) fun v1 =>
cnd v1
(aOff (f.r 9) 0 fun v2 =>
aLoad false 1 v2 h fun v3 =>
aBin prog .sub 3 v3 (vint 1) fun v4 =>
Good prog J 8 [(f.r 0),v4] h fun v5 h6 =>
Good prog J 9 [(f.r 0),(vint 1),(vint 4)] h6 fun v7 h8 =>
Good prog J 8 [(f.r 0),(vint 10)] h8 fun v9 h10 =>
Good prog J 8 [(f.r 0),(vint 20)] h10 fun v11 h12 =>
(((4 * 1 : Nat) ≤ 16777216 ∧ (4 : Nat) ≤ 16777216 ∧ List.length [(vint 0)] = 1) ∧ aFill (zrep [(vint 0)] 4) [(0,1,(vint 0)),(1,1,(vint 3)),(2,1,v9),(3,1,v11)] fun c13 =>
aNewS 4 c13 h12 fun v14 h15 =>
Good prog J 15 [(f.r 0),(vint 0),v14] h15 fun v16 h17 =>
aFill [(vint 0),(vint 0),(vint 0),(vint 0)] [(0,1,v5),(1,1,v7),(3,1,v16)] fun c18 =>
aAlloc [(vint 0),(vint 0),(vint 0),(vint 0)] h17 fun v19 h20 =>
aStore 4 v19 (Value.agg ⟨c18⟩) h20 fun h21 =>
aOff v19 3 fun v22 =>
aLoad false 1 v22 h21 fun v23 =>
aOff v19 0 fun v24 =>
aLoad false 1 v24 h21 fun v25 =>
aIdx 1 (f.r 11) v25 fun v26 =>
aLoad false 1 v26 h21 fun v27 =>
aBin prog .mul 3 v23 v27 fun v28 =>
aBin prog .quo 3 v28 (vint 100) fun v29 =>
(∃ B,aOff v19 0 fun v30 =>
aLoad false 1 v30 h21 fun v31 =>
RdOk (some B) (ptrBlk v30) ∧ (aIdx 1 (f.r 11) v31 fun v32 =>
aLoad false 1 v32 h21 fun v33 =>
RdOk (some B) (ptrBlk v32) ∧ (aUn .neg v29 fun v34 =>
Good prog J 9 [(f.r 0),v34,v29] h21 fun v35 h36 =>
SameB (some B) h21 h36 ∧ (aBin prog .add 3 v33 v35 fun v37 =>
aOff v19 2 fun v38 =>
aStore 1 v38 v37 h36 fun h39 =>
aOff (f.r 9) 5 fun v40 =>
aLoad false 1 v40 h39 fun v41 =>
aLoad true 4 v19 h39 fun v42 =>
(((1 * 4 : Nat) ≤ 16777216 ∧ (1 : Nat) ≤ 16777216 ∧ List.length [(vint 0),(vint 0),(vint 0),(vint 0)] = 4) ∧ aFill (zrep [(vint 0),(vint 0),(vint 0),(vint 0)] 1) [(0,4,v42)] fun c43 =>
aNewS 1 c43 h39 fun v44 h45 =>
((List.length [(vint 0),(vint 0),(vint 0),(vint 0)] = 4 ∧ 0 < (4 : Nat) ∧ 0 < (32 : Nat) ∧ (32 : Nat) ≤ 1024) ∧ aApp 4 v41 v44 h45 fun v46 h47 =>
aOff (f.r 9) 5 fun v48 =>
aStore 1 v48 v46 h47 fun h49 =>
aBin prog .sub 3 (f.r 16) (vint 1) fun v50 =>
nx0 (RG.p (RG.p (RG.p (RG.p (RG.p (RG.p (RG.p (RG.p (RG.p (RG.p (RG.p (RG.p (RG.p (RG.p (RG.p (RG.p (RG.p (RG.p (RG.p (RG.p (RG.p (RG.p (RG.p (RG.p (RG.p (RG.p (RG.p (RG.p (RG.p (RG.p (RG.p (RG.p (RG.p (RG.p (RG.p (RG.p (RG.p (RG.p (RG.p (RG.p (RG.p (RG.p (RG.p (RG.p (RG.p (RG.p (RG.p (RG.p (RG.p f 103 (f.r 16)) 104 v1) 107 (f.r 0)) 108 v2) 109 v3) 110 v4) 111 v5) 112 (f.r 0)) 113 v7) 114 (f.r 0)) 115 (f.r 0)) 116 v9) 117 (f.r 0)) 118 v11) 119 v14) 120 v16) 121 (Value.agg ⟨c18⟩)) 17 v19) 122 v22) 123 v23) 124 (f.r 11)) 125 v24) 126 v25) 127 v26) 128 v27) 129 v28) 130 v29) 18 v29) 131 (f.r 11)) 132 v30) 133 v31) 134 v32) 135 v33) 136 (f.r 0)) 137 v29) 138 v34) 139 v29) 140 v35) 141 v37) 142 v38) 143 v40) 144 v41) 145 v42) 146 v44) 147 v46) 148 v48) 105 (f.r 16)) 106 v50) 16 v50) h49))))))))
(aLoad true 6 (f.r 9) h fun v51 =>
aStore 6 (f.r 6) v51 h fun h52 =>
RetQ prog [.cell 6 30,.tmp 7,.tmp 8] n0 K .ret (RG.p (RG.p (RG.p (RG.p (RG.p (RG.p (RG.p f 103 (f.r 16)) 104 v1) 149 v51) 150 (f.r 11)) 151 (f.r 12)) 7 (f.r 11)) 8 (f.r 12)) h52)) := by kernel_rfl
theorem l5_2 (hJ : Closed prog main J) {S : Type} (μ : S → Nat) (I : S → RG → List AObj → Prop) (hI : ∀ s f h,I s f h → heapOk h → n0 ≤ h.length → W prog J 152 n0 5 (subC [1,1,1,1,1,1,1,1,0,1,0,0] (codeOf f5)) f h (thenK (Nx n0 μ I s) (contQ prog J 152 n0 5 [1,1,1,1,1,1,1,1,0,1,0] (codeOf f5) [] (RetQ prog [.cell 6 30,.tmp 7,.tmp 8] n0 K))))
 {s : S} {f : RG} (hi : Gets n0 I s f h) : Sem J 152 n0 5 (subC [1,1,1,1,1,1,1,1,0,1,0] (codeOf f5)) f h (contQ prog J 152 n0 5 [1,1,1,1,1,1,1,1,0,1,0] (codeOf f5) [] (RetQ prog [.cell 6 30,.tmp 7,.tmp 8] n0 K)) :=
 loop_rule hJ mixed (b := subC [1,1,1,1,1,1,1,1,0,1,0,0] (codeOf f5)) (by kernel_rfl) μ I hI hi
theorem at17 : prog.funcs[17]? = some f17 := by kernel_rfl
theorem body17 : f17.body = some (codeOf f17) := by kernel_rfl
theorem e17 {a0 a1 a2 : Value} : W prog J 13 h.length 17 (codeOf f17) (RG.mk (regs [a0,a1,a2]) []) h (RetQ prog [.tmp 6] h.length K) =
(aBin prog .sub 3 a2 (vint 1) fun v1 =>
Good prog J 8 [a0,v1] h fun v2 h3 =>
aBin prog .lss 3 v2 a1 fun v4 =>
retL h.length K [] [v4] h3) := by kernel_rfl
theorem g17 (hJ : Closed prog main J) {a0 a1 a2 : Value} (hs : heapOk h → W prog J 13 h.length 17 (codeOf f17) (RG.mk (regs [a0,a1,a2]) []) h (RetQ prog [.tmp 6] h.length K)) : Good prog J 17 [a0,a1,a2] h K :=
 good_of_W hJ mixed at17 body17 (by kernel_rfl) (Nat.le_of_ble_eq_true rfl) hs
end
section
variable {main : Bool} {J : JT} {n0 : Nat} {h : List AObj} {K : Value → List AObj → Prop}
theorem at30 : prog.funcs[30]? = some f30 := by kernel_rfl
theorem body30 : f30.body = some (codeOf f30) := by kernel_rfl
theorem e30 {a0 : Value} : W prog J 72 h.length 30 (codeOf f30) (RG.mk (regs [a0]) []) h (RetQ prog [.tmp 2] h.length K) =
(aBox a0 h fun v1 h2 =>
aOff v1 0 fun v3 =>
aLoad false 1 v3 h2 fun v4 =>
Good prog J 27 [v4,(vint 1),(vint 5)] h2 fun v5 h6 =>
aUn .not v5 fun v7 =>
cnd v7
(retL h.length K [] [(vint 1)] h6)
(aOff v1 1 fun v8 =>
aLoad true 2 v8 h6 fun v9 =>
Good prog J 46 [v9,(vint 0),(vint 300)] h6 fun v10 h11 =>
aBin prog .neq 44 v10 (vint 0) fun v12 =>
cnd v12
(retL h.length K [] [v10] h11)
(aOff v1 3 fun v13 =>
aLoad false 1 v13 h11 fun v14 =>
aLenS v14 fun v15 =>
aOff v1 0 fun v16 =>
aLoad false 1 v16 h11 fun v17 =>
aBin prog .sub 3 v17 (vint 1) fun v18 =>
aBin prog .lss 3 v15 v18 fun v19 =>
cnd v19
(retL h.length K [] [(vint 7)] h11)
(aOff v1 0 fun v20 =>
aLoad false 1 v20 h11 fun v21 =>
aBin prog .sub 3 v21 (vint 1) fun v22 =>
aBin prog .gtr 3 v15 v22 fun v23 =>
cnd v23
(retL h.length K [] [(vint 6)] h11)
(aOff v1 3 fun v24 =>
aLoad false 1 v24 h11 fun v25 =>
aLenS v25 fun v26 =>
Sem J 72 h.length 30 (subC [1,1,1,1,0,1,0] (codeOf f30)) (RG.p (RG.p (RG.p (RG.p (RG.p (RG.p (RG.p (RG.p (RG.p (RG.p (RG.p (RG.p (RG.p (RG.p (RG.p (RG.p (RG.p (RG.p (RG.p (RG.p (RG.p (RG.p (RG.p (RG.p (RG.p (RG.p (RG.p (RG.p (RG.p (RG.p (RG.p (RG.p (RG.mk (regs [a0]) []) 1 v1) 2 (vint 0)) 11 v3) 12 v4) 13 v5) 14 v7) 15 v8) 16 v9) 17 v10) 3 v10) 18 v10) 19 v12) 21 v13) 22 v14) 23 v15) 4 v15) 25 v15) 26 v16) 27 v17) 28 v18) 29 v19) 24 v19) 31 v15) 32 v20) 33 v21) 34 v22) 35 v23) 30 v23) 36 v24) 37 v25) 38 v26) 39 (vint 0)) h11 (contQ prog J 72 h.length 30 [1,1,1,1,0,1,0] (codeOf f30) [] (RetQ prog [.tmp 2] h.length K))))))) := by kernel_rfl
theorem g30 (hJ : Closed prog main J) {a0 : Value} (hs : heapOk h → W prog J 72 h.length 30 (codeOf f30) (RG.mk (regs [a0]) []) h (RetQ prog [.tmp 2] h.length K)) : Good prog J 30 [a0] h K :=
 good_of_W hJ mixed at30 body30 (by kernel_rfl) (Nat.le_of_ble_eq_true rfl) hs
theorem s30_1 {f : RG} {nx0 : RG → List AObj → Prop} : W prog J 72 n0 30 (subC [1,1,1,1,0,1,0,0] (codeOf f30)) f h (thenK nx0 (contQ prog J 72 n0 30 [1,1,1,1,0,1,0] (codeOf f30) [] (RetQ prog [.tmp 2] n0 K))) =
(aBin prog .lss 3 (f.r 39) (f.r 38) fun v1 =>
cnd v1
(aIdx 2 (f.r 37) (f.r 39) fun v2 =>
aLoad true 2 v2 h fun v3 =>
aAlloc [(vint 0),(vint 0)] h fun v4 h5 =>
aStore 2 v4 v3 h5 fun h6 =>
aLoad true 2 v4 h6 fun v7 =>
Good prog J 46 [v7,(vint (-60)),(vint 60)] h6 fun v8 h9 =>
aBin prog .neq 44 v8 (vint 0) fun v10 =>
cnd v10
(retL n0 K f.ds [v8] h9)
(aBin prog .add 3 (f.r 39) (vint 1) fun v11 =>
nx0 (RG.p (RG.p (RG.p (RG.p (RG.p (RG.p (RG.p (RG.p (RG.p (RG.p (RG.p f 40 v1) 41 v2) 42 v3) 6 v4) 43 v7) 44 v8) 7 v8) 45 v8) 46 v10) 48 v11) 39 v11) h9))
(aOff (f.r 1) 4 fun v12 =>
aLoad false 1 v12 h fun v13 =>
Good prog J 27 [v13,(vint 0),(vint 60)] h fun v14 h15 =>
aUn .not v14 fun v16 =>
cnd v16
(retL n0 K f.ds [(vint 1)] h15)
(aOff (f.r 1) 5 fun v17 =>
aLoad false 1 v17 h15 fun v18 =>
aLenS v18 fun v19 =>
aBin prog .gtr 3 v19 (vint 7) fun v20 =>
cnd v20
(retL n0 K f.ds [(vint 6)] h15)
(aOff (f.r 1) 5 fun v21 =>
aLoad false 1 v21 h15 fun v22 =>
aLenS v22 fun v23 =>
Sem J 72 n0 30 (subC [1,1,1,1,1,1,1,0,1,0] (codeOf f30)) (RG.p (RG.p (RG.p (RG.p (RG.p (RG.p (RG.p (RG.p (RG.p (RG.p (RG.p (RG.p (RG.p f 40 v1) 49 v12) 50 v13) 51 v14) 52 v16) 53 v17) 54 v18) 55 v19) 56 v20) 57 v21) 58 v22) 59 v23) 60 (vint 0)) h15 (contQ prog J 72 n0 30 [1,1,1,1,1,1,1,0,1,0] (codeOf f30) [] (RetQ prog [.tmp 2] n0 K)))))) := by kernel_rfl
theorem l30_1 (hJ : Closed prog main J) {S : Type} (μ : S → Nat) (I : S → RG → List AObj → Prop) (hI : ∀ s f h,I s f h → heapOk h → n0 ≤ h.length → W prog J 72 n0 30 (subC [1,1,1,1,0,1,0,0] (codeOf f30)) f h (thenK (Nx n0 μ I s) (contQ prog J 72 n0 30 [1,1,1,1,0,1,0] (codeOf f30) [] (RetQ prog [.tmp 2] n0 K))))
 {s : S} {f : RG} (hi : Gets n0 I s f h) : Sem J 72 n0 30 (subC [1,1,1,1,0,1,0] (codeOf f30)) f h (contQ prog J 72 n0 30 [1,1,1,1,0,1,0] (codeOf f30) [] (RetQ prog [.tmp 2] n0 K)) :=
 loop_rule hJ mixed (b := subC [1,1,1,1,0,1,0,0] (codeOf f30)) (by kernel_rfl) μ I hI hi
theorem s30_2 {f : RG} {nx0 : RG → List AObj → Prop} : W prog J 72 n0 30 (subC [1,1,1,1,1,1,1,0,1,0,0] (codeOf f30)) f h (thenK nx0 (contQ prog J 72 n0 30 [1,1,1,1,1,1,1,0,1,0] (codeOf f30) [] (RetQ prog [.tmp 2] n0 K))) =
(aBin prog .lss 3 (f.r 60) (f.r 59) fun v1 =>
cnd v1
(aIdx 4 (f.r 58) (f.r 60) fun v2 =>
aLoad true 4 v2 h fun v3 =>
aAlloc [(vint 0),(vint 0),(vint 0),(vint 0)] h fun v4 h5 =>
aStore 4 v4 v3 h5 fun h6 =>
aLoad true 4 v4 h6 fun v7 =>
aOff (f.r 1) 0 fun v8 =>
aLoad false 1 v8 h6 fun v9 =>
Good prog J 47 [v7,v9] h6 fun v10 h11 =>
aBin prog .neq 44 v10 (vint 0) fun v12 =>
cnd v12
(retL n0 K f.ds [v10] h11)
(aBin prog .add 3 (f.r 60) (vint 1) fun v13 =>
nx0 (RG.p (RG.p (RG.p (RG.p (RG.p (RG.p (RG.p (RG.p (RG.p (RG.p (RG.p (RG.p (RG.p f 61 v1) 62 v2) 63 v3) 9 v4) 64 v7) 65 v8) 66 v9) 67 v10) 10 v10) 68 v10) 69 v12) 71 v13) 60 v13) h11))
(retL n0 K f.ds [(vint 0)] h)) := by kernel_rfl
theorem l30_2 (hJ : Closed prog main J) {S : Type} (μ : S → Nat) (I : S → RG → List AObj → Prop) (hI : ∀ s f h,I s f h → heapOk h → n0 ≤ h.length → W prog J 72 n0 30 (subC [1,1,1,1,1,1,1,0,1,0,0] (codeOf f30)) f h (thenK (Nx n0 μ I s) (contQ prog J 72 n0 30 [1,1,1,1,1,1,1,0,1,0] (codeOf f30) [] (RetQ prog [.tmp 2] n0 K))))
 {s : S} {f : RG} (hi : Gets n0 I s f h) : Sem J 72 n0 30 (subC [1,1,1,1,1,1,1,0,1,0] (codeOf f30)) f h (contQ prog J 72 n0 30 [1,1,1,1,1,1,1,0,1,0] (codeOf f30) [] (RetQ prog [.tmp 2] n0 K)) :=
 loop_rule hJ mixed (b := subC [1,1,1,1,1,1,1,0,1,0,0] (codeOf f30)) (by kernel_rfl) μ I hI hi
theorem at46 : prog.funcs[46]? = some f46 := by kernel_rfl
theorem body46 : f46.body = some (codeOf f46) := by kernel_rfl
theorem e46 {a0 a1 a2 : Value} : W prog J 26 h.length 46 (codeOf f46) (RG.mk (regs [a0,a1,a2]) []) h (RetQ prog [.tmp 6] h.length K) =
(aBox a0 h fun v1 h2 =>
aOff v1 0 fun v3 =>
aLoad false 1 v3 h2 fun v4 =>
Good prog J 27 [v4,a1,a2] h2 fun v5 h6 =>
aUn .not v5 fun v7 =>
cnd v7
(W prog J 26 h.length 46 (subC [1,0,0,1] (codeOf f46)) (RG.p (RG.p (RG.p (RG.p (RG.p (RG.p (RG.p (RG.p (RG.p (RG.mk (regs [a0,a1,a2]) []) 3 v1) 6 (vint 0)) 8 v3) 9 v4) 10 a1) 11 a2) 12 v5) 13 v7) 7 v7) h6 (contQ prog J 26 h.length 46 [1,0,0,1] (codeOf f46) [] (RetQ prog [.tmp 6] h.length K)))
(aOff v1 1 fun v8 =>
aLoad false 1 v8 h6 fun v9 =>
Good prog J 27 [v9,a1,a2] h6 fun v10 h11 =>
aUn .not v10 fun v12 =>
W prog J 26 h.length 46 (subC [1,0,0,1] (codeOf f46)) (RG.p (RG.p (RG.p (RG.p (RG.p (RG.p (RG.p (RG.p (RG.p (RG.p (RG.p (RG.p (RG.p (RG.p (RG.p (RG.p (RG.mk (regs [a0,a1,a2]) []) 3 v1) 6 (vint 0)) 8 v3) 9 v4) 10 a1) 11 a2) 12 v5) 13 v7) 7 v7) 14 v8) 15 v9) 16 a1) 17 a2) 18 v10) 19 v12) 7 v12) h11 (contQ prog J 26 h.length 46 [1,0,0,1] (codeOf f46) [] (RetQ prog [.tmp 6] h.length K)))) := by kernel_rfl
theorem g46 (hJ : Closed prog main J) {a0 a1 a2 : Value} (hs : heapOk h → W prog J 26 h.length 46 (codeOf f46) (RG.mk (regs [a0,a1,a2]) []) h (RetQ prog [.tmp 6] h.length K)) : Good prog J 46 [a0,a1,a2] h K :=
 good_of_W hJ mixed at46 body46 (by kernel_rfl) (Nat.le_of_ble_eq_true rfl) hs
theorem s46_1 {f : RG} : W prog J 26 n0 46 (subC [1,0,0,1] (codeOf f46)) f h (contQ prog J 26 n0 46 [1,0,0,1] (codeOf f46) [] (RetQ prog [.tmp 6] n0 K)) =
(cnd (f.r 7)
(retL n0 K f.ds [(vint 1)] h)
(aOff (f.r 3) 0 fun v1 =>
aLoad false 1 v1 h fun v2 =>
aOff (f.r 3) 1 fun v3 =>
aLoad false 1 v3 h fun v4 =>
aBin prog .gtr 3 v2 v4 fun v5 =>
cnd v5
(retL n0 K f.ds [(vint 5)] h)
(retL n0 K f.ds [(vint 0)] h))) := by kernel_rfl
end
section
variable {main : Bool} {J : JT} {n0 : Nat} {h : List AObj} {K : Value → List AObj → Prop}
theorem at47 : prog.funcs[47]? = some f47 := by kernel_rfl
theorem body47 : f47.body = some (codeOf f47) := by kernel_rfl
theorem e47 {a0 a1 : Value} : W prog J 25 h.length 47 (codeOf f47) (RG.mk (regs [a0,a1]) []) h (RetQ prog [.tmp 4] h.length K) =
(aBox a0 h fun v1 h2 =>
aOff v1 0 fun v3 =>
aLoad false 1 v3 h2 fun v4 =>
aBin prog .sub 3 a1 (vint 1) fun v5 =>
Good prog J 27 [v4,(vint 0),v5] h2 fun v6 h7 =>
aUn .not v6 fun v8 =>
cnd v8
(retL h.length K [] [(vint 3)] h7)
(aOff v1 1 fun v9 =>
aLoad false 1 v9 h7 fun v10 =>
Good prog J 27 [v10,(vint 1),(vint 9)] h7 fun v11 h12 =>
aUn .not v11 fun v13 =>
cnd v13
(W prog J 25 h.length 47 (subC [1,0,0,1,1,1] (codeOf f47)) (RG.p (RG.p (RG.p (RG.p (RG.p (RG.p (RG.p (RG.p (RG.p (RG.p (RG.p (RG.p (RG.p (RG.p (RG.mk (regs [a0,a1]) []) 2 v1) 4 (vint 0)) 6 v3) 7 v4) 8 a1) 9 v5) 10 v6) 11 v8) 5 v8) 13 v9) 14 v10) 15 v11) 16 v13) 12 v13) h12 (contQ prog J 25 h.length 47 [1,0,0,1,1,1] (codeOf f47) [] (RetQ prog [.tmp 4] h.length K)))
(aOff v1 2 fun v14 =>
aLoad false 1 v14 h12 fun v15 =>
Good prog J 27 [v15,(vint 0),(vint 300)] h12 fun v16 h17 =>
aUn .not v16 fun v18 =>
cnd v18
(W prog J 25 h.length 47 (subC [1,0,0,1,1,1] (codeOf f47)) (RG.p (RG.p (RG.p (RG.p (RG.p (RG.p (RG.p (RG.p (RG.p (RG.p (RG.p (RG.p (RG.p (RG.p (RG.p (RG.p (RG.p (RG.p (RG.p (RG.mk (regs [a0,a1]) []) 2 v1) 4 (vint 0)) 6 v3) 7 v4) 8 a1) 9 v5) 10 v6) 11 v8) 5 v8) 13 v9) 14 v10) 15 v11) 16 v13) 12 v13) 17 v14) 18 v15) 19 v16) 20 v18) 12 v18) h17 (contQ prog J 25 h.length 47 [1,0,0,1,1,1] (codeOf f47) [] (RetQ prog [.tmp 4] h.length K)))
(aOff v1 3 fun v19 =>
aLoad false 1 v19 h17 fun v20 =>
Good prog J 27 [v20,(vint 0),(vint 20)] h17 fun v21 h22 =>
aUn .not v21 fun v23 =>
W prog J 25 h.length 47 (subC [1,0,0,1,1,1] (codeOf f47)) (RG.p (RG.p (RG.p (RG.p (RG.p (RG.p (RG.p (RG.p (RG.p (RG.p (RG.p (RG.p (RG.p (RG.p (RG.p (RG.p (RG.p (RG.p (RG.p (RG.p (RG.p (RG.p (RG.p (RG.p (RG.mk (regs [a0,a1]) []) 2 v1) 4 (vint 0)) 6 v3) 7 v4) 8 a1) 9 v5) 10 v6) 11 v8) 5 v8) 13 v9) 14 v10) 15 v11) 16 v13) 12 v13) 17 v14) 18 v15) 19 v16) 20 v18) 12 v18) 21 v19) 22 v20) 23 v21) 24 v23) 12 v23) h22 (contQ prog J 25 h.length 47 [1,0,0,1,1,1] (codeOf f47) [] (RetQ prog [.tmp 4] h.length K)))))) := by kernel_rfl
theorem g47 (hJ : Closed prog main J) {a0 a1 : Value} (hs : heapOk h → W prog J 25 h.length 47 (codeOf f47) (RG.mk (regs [a0,a1]) []) h (RetQ prog [.tmp 4] h.length K)) : Good prog J 47 [a0,a1] h K :=
 good_of_W hJ mixed at47 body47 (by kernel_rfl) (Nat.le_of_ble_eq_true rfl) hs
theorem s47_1 {f : RG} : W prog J 25 n0 47 (subC [1,0,0,1,1,1] (codeOf f47)) f h (contQ prog J 25 n0 47 [1,0,0,1,1,1] (codeOf f47) [] (RetQ prog [.tmp 4] n0 K)) =
(cnd (f.r 12)
(retL n0 K f.ds [(vint 1)] h)
(retL n0 K f.ds [(vint 0)] h)) := by kernel_rfl
theorem at50 : prog.funcs[50]? = some f50 := by kernel_rfl
theorem body50 : f50.body = some (codeOf f50) := by kernel_rfl
theorem e50 {a0 : Value} : W prog J 22 h.length 50 (codeOf f50) (RG.mk (regs [a0]) []) h (RetQ prog [.cell 2 80] h.length K) =
(aBox a0 h fun v1 h2 =>
aAlloc [(vint 0),(vint 0)] h2 fun v3 h4 =>
aOff v1 2 fun v5 =>
aLoad false 1 v5 h4 fun v6 =>
aBin prog .mul 3 (vint 100) v6 fun v7 =>
aBin prog .add 3 v7 (vint 99) fun v8 =>
aOff v1 3 fun v9 =>
aLoad false 1 v9 h4 fun v10 =>
aBin prog .add 3 v8 v10 fun v11 =>
aOff v1 3 fun v12 =>
aLoad false 1 v12 h4 fun v13 =>
aBin prog .add 3 (vint 100) v13 fun v14 =>
aBin prog .quo 3 v11 v14 fun v15 =>
aOff v1 2 fun v16 =>
aLoad false 1 v16 h4 fun v17 =>
aBin prog .mul 3 (vint 100) v17 fun v18 =>
aOff v1 3 fun v19 =>
aLoad false 1 v19 h4 fun v20 =>
aBin prog .sub 3 (vint 100) v20 fun v21 =>
aBin prog .quo 3 v18 v21 fun v22 =>
aFill [(vint 0),(vint 0)] [(0,1,v15),(1,1,v22)] fun c23 =>
aStore 2 v3 (Value.agg ⟨c23⟩) h4 fun h24 =>
RetQ prog [.cell 2 80] h.length K .ret (RG.p (RG.p (RG.p (RG.p (RG.p (RG.p (RG.p (RG.p (RG.p (RG.p (RG.p (RG.p (RG.p (RG.p (RG.p (RG.p (RG.p (RG.p (RG.p (RG.p (RG.p (RG.mk (regs [a0]) []) 1 v1) 2 v3) 3 v5) 4 v6) 5 v7) 6 v8) 7 v9) 8 v10) 9 v11) 10 v12) 11 v13) 12 v14) 13 v15) 14 v16) 15 v17) 16 v18) 17 v19) 18 v20) 19 v21) 20 v22) 21 (Value.agg ⟨c23⟩)) h24) := by kernel_rfl
theorem g50 (hJ : Closed prog main J) {a0 : Value} (hs : heapOk h → W prog J 22 h.length 50 (codeOf f50) (RG.mk (regs [a0]) []) h (RetQ prog [.cell 2 80] h.length K)) : Good prog J 50 [a0] h K :=
 good_of_W hJ mixed at50 body50 (by kernel_rfl) (Nat.le_of_ble_eq_true rfl) hs
end
end Go.Proofs.Ytfljbanjmplcfaa
namespace Go.Proofs.Ytfljbanjmplcfaa
open Go.Conc
section
variable {P : Program} {t : TypeId} {K : Value → Prop} {H : Value → List AObj → Prop} {HL : List AObj → Prop} {a b : Int} {h g : List AObj} {A B : Prop}
theorem off_okp {b o d : Nat} : aOff (ptr b o) d K = K (ptr b (o + d)) := rfl
theorem b_quo (h0 : 0 ≤ a) (h1 : 0 < b) (h2 : a < 9223372036854775808) (hk : K (vint (a / b))) : aBin P .quo t (vint a) (vint b) K := by
 have e : a.tdiv b = a / b := Int.tdiv_eq_ediv_of_nonneg h0
 have l1 : 0 ≤ a / b := Int.ediv_nonneg h0 (by omega)
 have l2 : a / b ≤ a := Int.ediv_le_self _ h0
 refine ⟨rfl,by omega,?_⟩
 rw [e,wrap64 (by omega) (by omega)]
 exact hk
theorem box_agg {cs : List Value} (h1 : cs.all one = true) (hk : H (ptr h.length 0) (h ++ [.cells cs true 0])) : aBox (.agg ⟨cs⟩) h H := ⟨h1,hk⟩
theorem box_one {v : Value} (hc : v.cells = #[v]) (h1 : one v = true) (hk : H (ptr h.length 0) (h ++ [.cells [v] true 0])) : aBox v h H := by
 unfold aBox
 rw [hc]
 exact ⟨by simpa using h1,hk⟩
theorem load_part {b o s : Nat} {cs c : List Value} {wr : Bool} {sz : Nat} (hb : h[b]? = some (.cells cs wr sz)) (hl : o + s ≤ cs.length) (hc : (cs.drop o).take s = c) (hn : kn c = true) (hk : K (.agg ⟨c⟩)) : aLoad true s (ptr b o) h K := by
 simp only [aLoad,hb,cond_true,hc]
 exact ⟨hl,hn,hk⟩
theorem store_agg {b : Nat} {cs c : List Value} {s : Nat} {sz : Nat} (hb : h[b]? = some (.cells cs true sz)) (hl : c.length = s) (hs : cs.length = s) (h1 : c.all one = true) (hk : HL (h.set b (.cells c true sz))) : aStore s (ptr b 0) (.agg ⟨c⟩) h HL := by
 have e : ∀ (c cs : List Value) (pre : List Value),cs.length = c.length → wrAt (pre ++ cs) pre.length c = pre ++ c := by
  intro c
  induction c with
  | nil =>
   intro cs pre h
   have : cs = [] := List.length_eq_zero_iff.1 (by simpa using h)
   subst this
   rfl
  | cons x c ih =>
   intro cs pre h
   cases cs with
   | nil => simp at h
   | cons y cs =>
    unfold wrAt
    have := ih cs (pre ++ [x]) (by simpa using h)
    simp only [List.length_append,List.length_cons,List.length_nil,List.append_assoc,List.cons_append,List.nil_append] at this
    simp only [List.set_append_right _ _ (Nat.le_refl _),Nat.sub_self,List.set_cons_zero]
    exact this
 simp only [aStore,hb,Value.cells]
 refine ⟨by simpa using hl,h1,by omega,?_⟩
 have := e c cs [] (by omega)
 simp only [List.nil_append,List.length_nil] at this
 rw [this]
 exact hk
theorem fill1 {c : List Value} {off : Nat} {v : Value} {ps : List (Nat × Nat × Value)} {K : List Value → Prop} (h1 : v.cells = #[v]) (h2 : one v = true) (ho : off < c.length) (hk : aFill (c.set off v) ps K) : aFill c ((off,1,v) :: ps) K := by
 refine ⟨by rw [h1]; rfl,by rw [h1]; simpa using h2,by omega,?_⟩
 rw [h1]
 exact hk
theorem fill0 {c : List Value} {K : List Value → Prop} : aFill c [] K = K c := rfl
theorem resW_cell {rs : List ResultVar} {r : Nat → Value} {x : Nat} {gg : Bool} {s : Nat} {KL : List Value → Prop} (ht : tk P t = some (gg,s)) (hk : aLoad gg s (r x) h fun v => resW P rs r h fun vs => KL (v :: vs)) : resW P (.cell x t :: rs) r h KL := by
 unfold resW
 rw [ht]
 exact hk
theorem resW_tmp {rs : List ResultVar} {r : Nat → Value} {x : Nat} {KL : List Value → Prop} (hn : r x ≠ unk) (hk : resW P rs r h fun vs => KL (r x :: vs)) : resW P (.tmp x :: rs) r h KL := ⟨hn,hk⟩
theorem resW_nil {r : Nat → Value} {KL : List Value → Prop} (hk : KL []) : resW P [] r h KL := hk
theorem resW_imp : ∀ (rs : List ResultVar) {r : Nat → Value} {h : List AObj} {K K' : List Value → Prop},resW P rs r h K → (∀ vs,K vs → K' vs) → resW P rs r h K'
 | [],r,h,K,K',hx,hk => hk _ hx
 | .tmp t :: rs,r,h,K,K',hx,hk => ⟨hx.1,resW_imp rs hx.2 fun vs => hk _⟩
 | .cell a t :: rs,r,h,K,K',hx,hk => by
  unfold resW at hx ⊢
  split at hx
  ·obtain ⟨v,k1,k2⟩ := pin_aLoad _ hx
   exact k2 (fun v => resW P rs r h fun vs => K' (v :: vs)) (resW_imp rs k1 fun vs => hk _)
  ·exact hx.elim
theorem retQ_drop {rs : List ResultVar} {n0 : Nat} {f : RG} (ds : f.ds = []) (ok : heapOk h) (hn : n0 ≤ h.length) (hr : resW P rs f.r (h ++ g) fun vs => VOk h.length (pack vs) ∧ H (pack vs) h) : RetQ P rs n0 H .ret f (h ++ g) := by
 unfold RetQ
 rw [ds]
 exact resW_imp rs hr fun vs hv => .inr ⟨id,h,pack vs,gc_drop ok hn,(sub_id hv.1).symm,hv.1,hv.2⟩
end
end Go.Proofs.Ytfljbanjmplcfaa
namespace Go.Proofs.Ytfljbanjmplcfaa
open Go.Conc Go.Proofs.Try
set_option maxRecDepth 100000
set_option maxHeartbeats 4000000
set_option linter.unusedVariables false
section
variable {main : Bool} {J : JT} {n0 : Nat} {h : List AObj} {K : Value → List AObj → Prop}
theorem at27 : prog.funcs[27]? = some f27 := by kernel_rfl
theorem body27 : f27.body = some (codeOf f27) := by kernel_rfl
theorem e27 {a0 a1 a2 : Value} : W prog J 15 h.length 27 (codeOf f27) (RG.mk (regs [a0,a1,a2]) []) h (RetQ prog [.tmp 6] h.length K) =
(aBin prog .leq 3 a1 a0 fun v1 =>
cnd v1
(aBin prog .leq 3 a0 a2 fun v2 =>
retL h.length K [] [v2] h)
(retL h.length K [] [(Value.bool false)] h)) := by kernel_rfl
theorem g27 (hJ : Closed prog main J) {a0 a1 a2 : Value} (hs : heapOk h → W prog J 15 h.length 27 (codeOf f27) (RG.mk (regs [a0,a1,a2]) []) h (RetQ prog [.tmp 6] h.length K)) : Good prog J 27 [a0,a1,a2] h K :=
 good_of_W hJ mixed at27 body27 (by kernel_rfl) (Nat.le_of_ble_eq_true rfl) hs
theorem at4 : prog.funcs[4]? = some f4 := by kernel_rfl
theorem body4 : f4.body = some (codeOf f4) := by kernel_rfl
theorem e4 {a0 : Value} : W prog J 6 h.length 4 (codeOf f4) (RG.mk (regs [a0]) []) h (RetQ prog [.tmp 2] h.length K) =
(aFill [(Value.slice none 0 0),(vint 0),(Value.int .u64 0)] [(0,1,a0),(2,1,(Value.int .u64 88172645463325252))] fun c1 =>
aBox (Value.agg ⟨c1⟩) h fun v2 h3 =>
retL h.length K [] [v2] h3) := by kernel_rfl
theorem g4 (hJ : Closed prog main J) {a0 : Value} (hs : heapOk h → W prog J 6 h.length 4 (codeOf f4) (RG.mk (regs [a0]) []) h (RetQ prog [.tmp 2] h.length K)) : Good prog J 4 [a0] h K :=
 good_of_W hJ mixed at4 body4 (by kernel_rfl) (Nat.le_of_ble_eq_true rfl) hs
theorem at9 : prog.funcs[9]? = some f9 := by kernel_rfl
theorem body9 : f9.body = some (codeOf f9) := by kernel_rfl
theorem e9 {a0 a1 a2 : Value} : W prog J 14 h.length 9 (codeOf f9) (RG.mk (regs [a0,a1,a2]) []) h (RetQ prog [.tmp 6] h.length K) =
(aBin prog .sub 3 a2 a1 fun v1 =>
Good prog J 8 [a0,v1] h fun v2 h3 =>
aBin prog .add 3 a1 v2 fun v4 =>
retL h.length K [] [v4] h3) := by kernel_rfl
theorem g9 (hJ : Closed prog main J) {a0 a1 a2 : Value} (hs : heapOk h → W prog J 14 h.length 9 (codeOf f9) (RG.mk (regs [a0,a1,a2]) []) h (RetQ prog [.tmp 6] h.length K)) : Good prog J 9 [a0,a1,a2] h K :=
 good_of_W hJ mixed at9 body9 (by kernel_rfl) (Nat.le_of_ble_eq_true rfl) hs
theorem at15 : prog.funcs[15]? = some f15 := by kernel_rfl
theorem body15 : f15.body = some (codeOf f15) := by kernel_rfl
theorem e15 {a0 a1 a2 : Value} : W prog J 20 h.length 15 (codeOf f15) (RG.mk (regs [a0,a1,a2]) []) h (RetQ prog [.tmp 6] h.length K) =
(aLenS a2 fun v1 =>
Good prog J 8 [a0,v1] h fun v2 h3 =>
aBin prog .gtr 3 v2 (vint 0) fun v4 =>
cnd v4
(aBin prog .sub 3 v2 (vint 1) fun v5 =>
aIdx 1 a2 v5 fun v6 =>
aLoad false 1 v6 h3 fun v7 =>
retL h.length K [] [v7] h3)
(retL h.length K [] [a1] h3)) := by kernel_rfl
theorem g15 (hJ : Closed prog main J) {a0 a1 a2 : Value} (hs : heapOk h → W prog J 20 h.length 15 (codeOf f15) (RG.mk (regs [a0,a1,a2]) []) h (RetQ prog [.tmp 6] h.length K)) : Good prog J 15 [a0,a1,a2] h K :=
 good_of_W hJ mixed at15 body15 (by kernel_rfl) (Nat.le_of_ble_eq_true rfl) hs
theorem at8 : prog.funcs[8]? = some f8 := by kernel_rfl
theorem body8 : f8.body = some (codeOf f8) := by kernel_rfl
theorem e8 {a0 a1 : Value} : W prog J 14 h.length 8 (codeOf f8) (RG.mk (regs [a0,a1]) []) h (RetQ prog [.tmp 4] h.length K) =
(aBin prog .leq 3 a1 (vint 0) fun v1 =>
cnd v1
(retL h.length K [] [(vint 0)] h)
(Good prog J 21 [a0] h fun v2 h3 =>
aBin prog .add 3 a1 (vint 1) fun v4 =>
aConvI .u64 v4 fun v5 =>
aBin prog .rem 57 v2 v5 fun v6 =>
aConvI .i64 v6 fun v7 =>
retL h.length K [] [v7] h3)) := by kernel_rfl
theorem g8 (hJ : Closed prog main J) {a0 a1 : Value} (hs : heapOk h → W prog J 14 h.length 8 (codeOf f8) (RG.mk (regs [a0,a1]) []) h (RetQ prog [.tmp 4] h.length K)) : Good prog J 8 [a0,a1] h K :=
 good_of_W hJ mixed at8 body8 (by kernel_rfl) (Nat.le_of_ble_eq_true rfl) hs
theorem at13 : prog.funcs[13]? = some f13 := by kernel_rfl
theorem body13 : f13.body = some (codeOf f13) := by kernel_rfl
theorem e13 {a0 a1 : Value} : W prog J 26 h.length 13 (codeOf f13) (RG.mk (regs [a0,a1]) []) h (RetQ prog [.tmp 4] h.length K) =
(aLenS a0 fun v1 =>
aLenS a1 fun v2 =>
aBin prog .neq 3 v1 v2 fun v3 =>
cnd v3
(retL h.length K [] [(Value.bool false)] h)
(Sem J 26 h.length 13 (subC [1,1,0,1,0] (codeOf f13)) (RG.p (RG.p (RG.p (RG.p (RG.p (RG.p (RG.p (RG.mk (regs [a0,a1]) []) 4 (Value.bool false)) 6 a0) 7 v1) 8 a1) 9 v2) 10 v3) 5 (vint 0)) h (contQ prog J 26 h.length 13 [1,1,0,1,0] (codeOf f13) [] (RetQ prog [.tmp 4] h.length K)))) := by kernel_rfl
theorem g13 (hJ : Closed prog main J) {a0 a1 : Value} (hs : heapOk h → W prog J 26 h.length 13 (codeOf f13) (RG.mk (regs [a0,a1]) []) h (RetQ prog [.tmp 4] h.length K)) : Good prog J 13 [a0,a1] h K :=
 good_of_W hJ mixed at13 body13 (by kernel_rfl) (Nat.le_of_ble_eq_true rfl) hs
theorem s13_1 {f : RG} {nx0 : RG → List AObj → Prop} : W prog J 26 n0 13 (subC [1,1,0,1,0,0] (codeOf f13)) f h (thenK nx0 (contQ prog J 26 n0 13 [1,1,0,1,0] (codeOf f13) [] (RetQ prog [.tmp 4] n0 K))) =
(aLenS (f.r 0) fun v1 =>
aBin prog .lss 3 (f.r 5) v1 fun v2 =>
cnd v2
(aIdx 1 (f.r 0) (f.r 5) fun v3 =>
aLoad false 1 v3 h fun v4 =>
aIdx 1 (f.r 1) (f.r 5) fun v5 =>
aLoad false 1 v5 h fun v6 =>
aBin prog .neq 3 v4 v6 fun v7 =>
cnd v7
(retL n0 K f.ds [(Value.bool false)] h)
(aBin prog .add 3 (f.r 5) (vint 1) fun v8 =>
nx0 (RG.p (RG.p (RG.p (RG.p (RG.p (RG.p (RG.p (RG.p (RG.p (RG.p (RG.p (RG.p (RG.p (RG.p (RG.p (RG.p f 11 (f.r 5)) 12 (f.r 0)) 13 v1) 14 v2) 17 (f.r 0)) 18 (f.r 5)) 19 v3) 20 v4) 21 (f.r 1)) 22 (f.r 5)) 23 v5) 24 v6) 25 v7) 15 (f.r 5)) 16 v8) 5 v8) h))
(retL n0 K f.ds [(Value.bool true)] h)) := by kernel_rfl
theorem l13_1 (hJ : Closed prog main J) {S : Type} (μ : S → Nat) (I : S → RG → List AObj → Prop) (hI : ∀ s f h,I s f h → heapOk h → n0 ≤ h.length → W prog J 26 n0 13 (subC [1,1,0,1,0,0] (codeOf f13)) f h (thenK (Nx n0 μ I s) (contQ prog J 26 n0 13 [1,1,0,1,0] (codeOf f13) [] (RetQ prog [.tmp 4] n0 K))))
 {s : S} {f : RG} (hi : Gets n0 I s f h) : Sem J 26 n0 13 (subC [1,1,0,1,0] (codeOf f13)) f h (contQ prog J 26 n0 13 [1,1,0,1,0] (codeOf f13) [] (RetQ prog [.tmp 4] n0 K)) :=
 loop_rule hJ mixed (b := subC [1,1,0,1,0,0] (codeOf f13)) (by kernel_rfl) μ I hI hi
theorem at21 : prog.funcs[21]? = some f21 := by kernel_rfl
theorem body21 : f21.body = some (codeOf f21) := by kernel_rfl
theorem e21 {a0 : Value} : W prog J 72 h.length 21 (codeOf f21) (RG.mk (regs [a0]) []) h (RetQ prog [.tmp 2] h.length K) =
(aNil a0 fun v1 =>
aOff v1 1 fun v2 =>
aLoad false 1 v2 h fun v3 =>
aConvI .u64 v3 fun v4 =>
aNil a0 fun v5 =>
aOff v5 1 fun v6 =>
aLoad false 1 v6 h fun v7 =>
aNil a0 fun v8 =>
aOff v8 0 fun v9 =>
aLoad false 1 v9 h fun v10 =>
aLenS v10 fun v11 =>
aBin prog .lss 3 v7 v11 fun v12 =>
cnd v12
(aNil a0 fun v13 =>
aOff v13 0 fun v14 =>
aLoad false 1 v14 h fun v15 =>
aNil a0 fun v16 =>
aOff v16 1 fun v17 =>
aLoad false 1 v17 h fun v18 =>
aIdx 1 v15 v18 fun v19 =>
aLoad false 1 v19 h fun v20 =>
aConvI .u64 v20 fun v21 =>
aNil a0 fun v22 =>
aOff v22 1 fun v23 =>
aLoad false 1 v23 h fun v24 =>
aBin prog .add 3 v24 (vint 1) fun v25 =>
aNil a0 fun v26 =>
aOff v26 1 fun v27 =>
aStore 1 v27 v25 h fun h28 =>
aNil a0 fun v29 =>
aOff v29 2 fun v30 =>
aLoad false 1 v30 h28 fun v31 =>
aBin prog .mul 57 v21 (Value.int .u64 11400714819323198485) fun v32 =>
aBin prog .xor 57 v31 v32 fun v33 =>
aBin prog .shl 57 v33 (Value.int .u64 13) fun v34 =>
aBin prog .xor 57 v33 v34 fun v35 =>
aBin prog .shr 57 v35 (Value.int .u64 7) fun v36 =>
aBin prog .xor 57 v35 v36 fun v37 =>
aBin prog .shl 57 v37 (Value.int .u64 17) fun v38 =>
aBin prog .xor 57 v37 v38 fun v39 =>
aBin prog .add 57 v39 (Value.int .u64 7146057691288625177) fun v40 =>
aNil a0 fun v41 =>
aOff v41 2 fun v42 =>
aStore 1 v42 v40 h28 fun h43 =>
aBin prog .shr 57 v39 (Value.int .u64 31) fun v44 =>
aBin prog .xor 57 v39 v44 fun v45 =>
aBin prog .mul 57 v45 (Value.int .u64 13787848793156543929) fun v46 =>
aBin prog .shr 57 v46 (Value.int .u64 29) fun v47 =>
aBin prog .xor 57 v46 v47 fun v48 =>
aBin prog .shr 57 v48 (Value.int .u64 11) fun v49 =>
retL h.length K [] [v49] h43)
(aNil a0 fun v50 =>
aOff v50 1 fun v51 =>
aLoad false 1 v51 h fun v52 =>
aBin prog .add 3 v52 (vint 1) fun v53 =>
aNil a0 fun v54 =>
aOff v54 1 fun v55 =>
aStore 1 v55 v53 h fun h56 =>
aNil a0 fun v57 =>
aOff v57 2 fun v58 =>
aLoad false 1 v58 h56 fun v59 =>
aBin prog .mul 57 v4 (Value.int .u64 11400714819323198485) fun v60 =>
aBin prog .xor 57 v59 v60 fun v61 =>
aBin prog .shl 57 v61 (Value.int .u64 13) fun v62 =>
aBin prog .xor 57 v61 v62 fun v63 =>
aBin prog .shr 57 v63 (Value.int .u64 7) fun v64 =>
aBin prog .xor 57 v63 v64 fun v65 =>
aBin prog .shl 57 v65 (Value.int .u64 17) fun v66 =>
aBin prog .xor 57 v65 v66 fun v67 =>
aBin prog .add 57 v67 (Value.int .u64 7146057691288625177) fun v68 =>
aNil a0 fun v69 =>
aOff v69 2 fun v70 =>
aStore 1 v70 v68 h56 fun h71 =>
aBin prog .shr 57 v67 (Value.int .u64 31) fun v72 =>
aBin prog .xor 57 v67 v72 fun v73 =>
aBin prog .mul 57 v73 (Value.int .u64 13787848793156543929) fun v74 =>
aBin prog .shr 57 v74 (Value.int .u64 29) fun v75 =>
aBin prog .xor 57 v74 v75 fun v76 =>
aBin prog .shr 57 v76 (Value.int .u64 11) fun v77 =>
retL h.length K [] [v77] h71)) := by kernel_rfl
theorem g21 (hJ : Closed prog main J) {a0 : Value} (hs : heapOk h → W prog J 72 h.length 21 (codeOf f21) (RG.mk (regs [a0]) []) h (RetQ prog [.tmp 2] h.length K)) : Good prog J 21 [a0] h K :=
 good_of_W hJ mixed at21 body21 (by kernel_rfl) (Nat.le_of_ble_eq_true rfl) hs
end
end Go.Proofs.Ytfljbanjmplcfaa
namespace Go.Proofs.Ytfljbanjmplcfaa
open Go.Conc Go.Proofs.Try
structure HandAt (h : List AObj) (b : Nat) (nv : Value) (nums : List Int) (k : Nat) (s : Int) : Prop where
 at_ : h[b]? = some (.cells [nv,vint k,.int .u64 s] true 0)
 list : Sli h nv 1 nums.length (nums.map vint)
 sane : nums.length < 4611686018427387904
 few : k < 4611686018427387904
 lo : 0 ≤ s
 hi : s < 18446744073709551616
section
variable {main : Bool} {J : JT} {h : List AObj} {K : Value → List AObj → Prop}
theorem nil_ok {b o : Nat} {K : Value → Prop} : aNil (ptr b o) K = K (ptr b o) := rfl
theorem off_ok {b o d : Nat} {K : Value → Prop} : aOff (ptr b o) d K = K (ptr b (o + d)) := rfl
theorem conv_u {n : Int} {K : Value → Prop} (hk : ∀ y,0 ≤ y → y < 18446744073709551616 → K (.int .u64 y)) : aConvI .u64 (vint n) K := hk _ (wrapU _).1 (wrapU _).2
theorem u_shr11 {t : TypeId} {y : Int} (h1 : 0 ≤ y) (h2 : y < 18446744073709551616) {K : Value → Prop} : aBin prog .shr t (.int .u64 y) (.int .u64 11) K = K (.int .u64 (y / 2048)) := by
 have e : min (Int.toNat 11) IntKind.u64.bits = 11 := by decide
 simp only [aBin,aShift,e]
 rw [Int.fdiv_eq_ediv_of_nonneg _ (by decide)]
 simp
theorem set_twice {b : Nat} {x y : AObj} (hb : h[b]? = some x) : (h.set b y)[b]? = some y := by
 have : b < h.length := (List.getElem?_eq_some_iff.1 hb).1
 simp [this]
theorem good21 (hJ : Closed prog main J) {b : Nat} {nv : Value} {nums : List Int} {k : Nat} {s : Int} (H : HandAt h b nv nums k s)
  (hK : ∀ x s',0 ≤ x → x < 9007199254740992 → 0 ≤ s' → s' < 18446744073709551616 → K (.int .u64 x) (h.set b (.cells [nv,vint (k + 1),.int .u64 s'] true 0))) : Good prog J 21 [ptr b 0] h K := by
 refine g21 hJ fun ok => ?_
 rw [e21]
 obtain ⟨hb,hl,hsane,hfew,hlo,hhi⟩ := H
 have hnv : kn1 nv = true := by
  obtain ⟨_,_,rfl,_⟩ := hl
  rfl
 have l0 : ∀ K,aLoad false 1 (ptr b 0) h K = K nv := fun K => load_cell hb rfl hnv
 have l1 : ∀ K,aLoad false 1 (ptr b 1) h K = K (vint k) := fun K => load_cell hb rfl rfl
 -- what stands behind the joining of the ways
 have rest : ∀ x : Int,aBin prog .add 3 (vint k) (vint 1) fun v25 =>
   aStore 1 (ptr b 1) v25 h fun h28 =>
   aLoad false 1 (ptr b 2) h28 fun v31 =>
   aBin prog .mul 57 (.int .u64 x) (Value.int .u64 11400714819323198485) fun v32 =>
   aBin prog .xor 57 v31 v32 fun v33 =>
   aBin prog .shl 57 v33 (Value.int .u64 13) fun v34 =>
   aBin prog .xor 57 v33 v34 fun v35 =>
   aBin prog .shr 57 v35 (Value.int .u64 7) fun v36 =>
   aBin prog .xor 57 v35 v36 fun v37 =>
   aBin prog .shl 57 v37 (Value.int .u64 17) fun v38 =>
   aBin prog .xor 57 v37 v38 fun v39 =>
   aBin prog .add 57 v39 (Value.int .u64 7146057691288625177) fun v40 =>
   aStore 1 (ptr b 2) v40 h28 fun h43 =>
   aBin prog .shr 57 v39 (Value.int .u64 31) fun v44 =>
   aBin prog .xor 57 v39 v44 fun v45 =>
   aBin prog .mul 57 v45 (Value.int .u64 13787848793156543929) fun v46 =>
   aBin prog .shr 57 v46 (Value.int .u64 29) fun v47 =>
   aBin prog .xor 57 v46 v47 fun v48 =>
   aBin prog .shr 57 v48 (Value.int .u64 11) fun v49 =>
   retL h.length K [] [v49] h43 := by
  intro x
  rw [b_add (by omega)]
  refine store_cell hb (by simp) rfl rfl ?_
  have hb2 : (h.set b (.cells ([nv,vint k,.int .u64 s].set 1 (vint (k + 1))) true 0))[b]? = some (.cells [nv,vint (k + 1),.int .u64 s] true 0) := set_twice hb
  rw [load_cell hb2 rfl rfl]
  refine u_mul fun y1 a1 b1 => u_xor fun y2 a2 b2 => u_shl (by omega) fun y3 a3 b3 => u_xor fun y4 a4 b4 => u_shr (by omega) a4 b4 fun y5 a5 b5 => u_xor fun y6 a6 b6 => u_shl (by omega) fun y7 a7 b7 => u_xor fun y8 a8 b8 => u_add fun y9 a9 b9 => ?_
  refine store_cell hb2 (by simp) rfl rfl ?_
  refine u_shr (by omega) a8 b8 fun z1 c1 d1 => u_xor fun z2 c2 d2 => u_mul fun z3 c3 d3 => u_shr (by omega) c3 d3 fun z4 c4 d4 => u_xor fun z5 c5 d5 => ?_
  rw [u_shr11 c5 d5]
  refine retL_same (by simp [unk]) ?_
  rw [List.set_set]
  exact hK _ _ (by omega) (by omega) a9 b9
 simp only [nil_ok,off_ok,Nat.zero_add,l0,l1]
 refine conv_u fun x0 _ _ => ?_
 simp only [sli_len hl,b_lss,cnd_dec]
 refine ⟨fun hlt => idx_load hl ⟨by omega,by omega⟩ (map_get (by simpa using hlt)) fun p => conv_u fun x1 _ _ => rest x1,fun _ => rest x0⟩
def Dealt (h : List AObj) (b : Nat) (nv : Value) (k n : Nat) (h' : List AObj) : Prop :=
 ∃ (k' : Nat) (s' : Int),k' ≤ k + n ∧ 0 ≤ s' ∧ s' < 18446744073709551616 ∧ h' = h.set b (.cells [nv,vint k',.int .u64 s'] true 0)
theorem good8 (hJ : Closed prog main J) {b : Nat} {nv : Value} {nums : List Int} {k : Nat} {s m : Int} (H : HandAt h b nv nums k s) (hm : m < 9223372036854775807)
  (hK : ∀ y h',0 ≤ y → (y ≤ m ∨ y = 0) → Dealt h b nv k 1 h' → K (vint y) h') : Good prog J 8 [ptr b 0,vint m] h K := by
 refine g8 hJ fun ok => ?_
 rw [e8]
 simp only [b_leq,cnd_dec]
 refine ⟨fun h0 => retL_same (by simp [unk]) (hK 0 h (by omega) (.inr rfl) ⟨k,s,by omega,H.lo,H.hi,?_⟩),fun h0 => ?_⟩
 ·have hb : b < h.length := (List.getElem?_eq_some_iff.1 H.at_).1
  apply List.ext_getElem?
  intro i
  rw [List.getElem?_set]
  split
  ·rename_i e
   subst e
   exact H.at_
  ·rfl
 ·refine good21 hJ H fun x s' hx hx2 hs hs2 => ?_
  rw [b_add (by omega)]
  have e1 : ∀ n : Int,0 ≤ n → n < 9223372036854775808 → IntKind.u64.wrap n = n := fun n a b => by
   simp only [IntKind.wrap,IntKind.bits,IntKind.signed]
   simp
   omega
  have hmod : Int.tmod x (m + 1) = x % (m + 1) := Int.tmod_eq_emod_of_nonneg hx
  have h1 := Int.emod_nonneg x (b := m + 1) (by omega)
  have h2 := Int.emod_lt_of_pos x (b := m + 1) (by omega)
  simp only [aConvI,e1 (m + 1) (by omega) (by omega),aBin,aInt,true_and]
  rw [hmod,wrap64 (by omega) (by omega)]
  exact ⟨by omega,retL_same (by simp [unk]) (hK _ _ h1 (.inl (by omega)) ⟨k + 1,s',by omega,hs,hs2,rfl⟩)⟩
theorem good9 (hJ : Closed prog main J) {b : Nat} {nv : Value} {nums : List Int} {k : Nat} {s lo hi : Int} (H : HandAt h b nv nums k s) (h1 : -1000000000000 ≤ lo ∧ lo ≤ 1000000000000) (h2 : -1000000000000 ≤ hi ∧ hi ≤ 1000000000000)
  (hK : ∀ y h',lo ≤ y → (y ≤ hi ∨ y = lo) → Dealt h b nv k 1 h' → K (vint y) h') : Good prog J 9 [ptr b 0,vint lo,vint hi] h K := by
 refine g9 hJ fun ok => ?_
 rw [e9,b_sub (by omega)]
 refine good8 hJ H (by omega) fun y h' hy hy2 hd => ?_
 rw [b_add (by omega)]
 exact retL_same (by simp [unk]) (hK _ _ (by omega) (by omega) hd)
theorem good4 (hJ : Closed prog main J) {base : Option Addr} {n c : Nat}
  (hK : K (ptr h.length 0) (h ++ [.cells [.slice base n c,vint 0,.int .u64 88172645463325252] true 0])) : Good prog J 4 [.slice base n c] h K := by
 refine g4 hJ fun ok => ?_
 rw [e4]
 simp [aFill,aBox,wrAt,Value.cells,one]
 exact retL_same (vs := [ptr h.length 0]) (by simp [unk]) hK
theorem good15 (hJ : Closed prog main J) {b : Nat} {nv ov : Value} {nums others : List Int} {k : Nat} {s a : Int} (H : HandAt h b nv nums k s) (ho : ∀ h',Dealt h b nv k 1 h' → Sli h' ov 1 others.length (others.map vint)) (hl : others.length < 1000000)
  (hK : ∀ y h',(y = a ∨ y ∈ others) → Dealt h b nv k 1 h' → K (vint y) h') : Good prog J 15 [ptr b 0,vint a,ov] h K := by
 refine g15 hJ fun ok => ?_
 rw [e15]
 have hd0 : Dealt h b nv k 1 h := by
  refine ⟨k,s,by omega,H.lo,H.hi,?_⟩
  apply List.ext_getElem?
  intro i
  rw [List.getElem?_set]
  split
  ·rename_i e
   subst e
   have hb : b < h.length := (List.getElem?_eq_some_iff.1 H.at_).1
   rw [if_pos hb]
   exact H.at_
  ·rfl
 rw [sli_len (ho h hd0)]
 refine good8 hJ H (by omega) fun y h' hy hy2 hd => ?_
 simp only [b_gtr,cnd_dec]
 refine ⟨fun hg => ?_,fun _ => retL_same (by simp [unk]) (hK _ _ (.inl rfl) hd)⟩
 rw [b_sub (by omega)]
 refine idx_load (ho h' hd) ⟨by omega,by omega⟩ (map_get (by omega)) fun p => ?_
 refine retL_same (by simp [unk]) (hK _ _ (.inr ?_) hd)
 have : (y - 1).toNat < others.length := by omega
 simp only [List.getD_eq_getElem?_getD,List.getElem?_eq_getElem this,Option.getD_some]
 exact List.getElem_mem this
end
section
variable {main : Bool} {J : JT} {h : List AObj} {K : Value → List AObj → Prop}
theorem good13 (hJ : Closed prog main J) {av bv : Value} {xs ys : List Int} (ha : Sli h av 1 xs.length (xs.map vint)) (hb : Sli h bv 1 ys.length (ys.map vint)) (hl : xs.length < 4611686018427387904)
  (hK : K (.bool (decide (xs = ys))) h) : Good prog J 13 [av,bv] h K := by
 refine g13 hJ fun ok => ?_
 rw [e13]
 simp only [sli_len ha,sli_len hb,b_neq,cnd_dec]
 refine ⟨fun hne => retL_same (by simp [unk]) ?_,fun heq => ?_⟩
 ·have : xs ≠ ys := fun e => hne (by rw [e])
  simpa [pack,this] using hK
 ·have hlen : xs.length = ys.length := by omega
  refine l13_1 hJ (fun i => xs.length - i) (fun i f h' => h' = h ∧ f.ds = [] ∧ f.r 0 = av ∧ f.r 1 = bv ∧ f.r 5 = vint (i : Nat) ∧ i ≤ xs.length ∧ xs.take i = ys.take i) ?_ (s := 0) (.inl ⟨rfl,rfl,rfl,rfl,rfl,by omega,by simp⟩)
  rintro i f h' ⟨rfl,hds,h0,h1,h5,hi,ht⟩ _ hn
  rw [s13_1]
  simp only [h0,h1,h5,hds,sli_len ha,b_lss,cnd_dec]
  refine ⟨fun hlt => ?_,fun hge => ?_⟩
  ·have e1 : i < xs.length := by omega
   refine idx_load ha ⟨by omega,by omega⟩ (map_get (by omega)) fun p1 => ?_
   refine idx_load hb ⟨by omega,by omega⟩ (map_get (by omega)) fun p2 => ?_
   simp only [b_neq,cnd_dec,Int.toNat_natCast]
   refine ⟨fun hne => retL_same (by simp [unk]) ?_,fun heq => ?_⟩
   ·have : xs ≠ ys := fun e => hne (by rw [e])
    simpa [pack,this] using hK
   ·rw [b_add (by omega)]
    refine ⟨i + 1,by dsimp only; omega,.inl ⟨rfl,hds,h0,h1,rfl,by omega,?_⟩⟩
    have heq : xs.getD i 0 = ys.getD i 0 := by simpa using heq
    simp only [List.getD_eq_getElem?_getD,List.getElem?_eq_getElem e1,List.getElem?_eq_getElem (show i < ys.length by omega),Option.getD_some] at heq
    rw [List.take_add_one,List.take_add_one,ht,List.getElem?_eq_getElem e1,List.getElem?_eq_getElem (show i < ys.length by omega),heq]
  ·have : i = xs.length := by omega
   subst this
   rw [List.take_length,hlen,List.take_length] at ht
   refine retL_same (by simp [unk]) ?_
   simpa [pack,ht] using hK
end
section
variable {main : Bool} {J : JT} {h : List AObj} {K : Value → List AObj → Prop}
theorem good27 (hJ : Closed prog main J) {n lo hi : Int} (hK : K (.bool (decide (lo ≤ n ∧ n ≤ hi))) h) : Good prog J 27 [vint n,vint lo,vint hi] h K := by
 refine g27 hJ fun ok => ?_
 rw [e27]
 simp only [vint,b_leq,cnd_dec]
 refine ⟨fun h1 => retL_same (by simp [unk]) ?_,fun h1 => retL_same (by simp [unk]) ?_⟩
 ·simpa [pack,h1] using hK
 ·simpa [pack,h1] using hK
end
end Go.Proofs.Ytfljbanjmplcfaa
namespace Go.Proofs.Ytfljbanjmplcfaa
open Go.Conc Go.Proofs.Try
set_option maxRecDepth 100000
structure Cnt where
 gate : Int
 man : Int
 num : Int
 err : Int
def Cnt.cells (c : Cnt) : List Value := [vint c.gate,vint c.man,vint c.num,vint c.err]
def Cnt.val (c : Cnt) : Value := .agg ⟨c.cells⟩
def cntErr (c : Cnt) (gates : Int) : Int :=
 if ¬ (0 ≤ c.gate ∧ c.gate ≤ gates - 1) then 3 else if ¬ (1 ≤ c.man ∧ c.man ≤ 9) ∨ ¬ (0 ≤ c.num ∧ c.num ≤ 300) ∨ ¬ (0 ≤ c.err ∧ c.err ≤ 20) then 1 else 0
def rdLo (c : Cnt) : Int := (100 * c.num + 99 + c.err) / (100 + c.err)
def rdHi (c : Cnt) : Int := (100 * c.num) / (100 - c.err)
section
variable {main : Bool} {J : JT} {h : List AObj} {K : Value → List AObj → Prop}
theorem good47 (hJ : Closed prog main J) {c : Cnt} {gates : Int} (hg : -1000000 ≤ gates ∧ gates ≤ 1000000) (hK : K (vint (cntErr c gates)) h) : Good prog J 47 [c.val,vint gates] h K := by
 refine g47 hJ fun ok => ?_
 rw [e47]
 unfold Cnt.val Cnt.cells
 refine box_agg rfl ?_
 have hb : ∀ g,(h ++ [AObj.cells [vint c.gate,vint c.man,vint c.num,vint c.err] true 0] ++ g)[h.length]? = some (.cells [vint c.gate,vint c.man,vint c.num,vint c.err] true 0) := by simp
 have hb := hb []
 rw [List.append_nil] at hb
 simp only [off_okp,Nat.zero_add]
 rw [load_cell hb (v := vint c.gate) rfl rfl,b_sub (by omega)]
 refine good27 hJ ?_
 simp only [u_not,cnd_ndec]
 have fin : ∀ e : Int,cntErr c gates = e → retL h.length K [] [vint e] (h ++ [.cells [vint c.gate,vint c.man,vint c.num,vint c.err] true 0]) := fun e he => by
  subst he
  exact retL_drop ok (Nat.le_refl _) (by simp [unk]) (by simp [pack,VOk]) hK
 refine ⟨fun h1 => fin 3 (by unfold cntErr; rw [if_pos h1]),fun h1 => ?_⟩
 rw [load_cell hb (v := vint c.man) rfl rfl]
 refine good27 hJ ?_
 simp only [u_not,cnd_ndec]
 refine ⟨fun h2 => ?_,fun h2 => ?_⟩
 ·rw [s47_1]
  show cnd (.bool (!decide _)) _ _
  rw [cnd_ndec]
  exact ⟨fun _ => fin 1 (by unfold cntErr; rw [if_neg (by simpa using h1),if_pos (.inl h2)]),fun x => absurd x h2⟩
 ·rw [load_cell hb (v := vint c.num) rfl rfl]
  refine good27 hJ ?_
  simp only [u_not,cnd_ndec]
  refine ⟨fun h3 => ?_,fun h3 => ?_⟩
  ·rw [s47_1]
   show cnd (.bool (!decide (0 ≤ c.num ∧ c.num ≤ 300))) _ _
   rw [cnd_ndec]
   exact ⟨fun _ => fin 1 (by unfold cntErr; rw [if_neg (by simpa using h1),if_pos (.inr (.inl h3))]),fun x => absurd x h3⟩
  ·rw [load_cell hb (v := vint c.err) rfl rfl]
   refine good27 hJ ?_
   simp only [u_not]
   rw [s47_1]
   show cnd (.bool (!decide (0 ≤ c.err ∧ c.err ≤ 20))) _ _
   rw [cnd_ndec]
   refine ⟨fun h4 => fin 1 (by unfold cntErr; rw [if_neg (by simpa using h1),if_pos (.inr (.inr h4))]),fun h4 => fin 0 ?_⟩
   unfold cntErr
   rw [if_neg (by simpa using h1),if_neg]
   rintro (x | x | x)
   ·exact x h2
   ·exact x h3
   ·exact x h4
theorem tkR : tk prog 80 = some (true,2) := by kernel_rfl
theorem good50 (hJ : Closed prog main J) {c : Cnt} (h1 : 0 ≤ c.num ∧ c.num ≤ 300) (h2 : 0 ≤ c.err ∧ c.err ≤ 20) (hK : K (.agg ⟨[vint (rdLo c),vint (rdHi c)]⟩) h) : Good prog J 50 [c.val] h K := by
 refine g50 hJ fun ok => ?_
 rw [e50]
 unfold Cnt.val Cnt.cells
 refine box_agg rfl ?_
 simp only [aAlloc,off_okp,Nat.zero_add]
 have hb : (h ++ [AObj.cells [vint c.gate,vint c.man,vint c.num,vint c.err] true 0] ++ [AObj.cells [vint 0,vint 0] true 0])[h.length]? = some (.cells [vint c.gate,vint c.man,vint c.num,vint c.err] true 0) := by simp
 rw [load_cell hb (v := vint c.num) rfl rfl,b_mul (by omega),b_add (by omega),load_cell hb (v := vint c.err) rfl rfl,b_add (by omega),load_cell hb (v := vint c.err) rfl rfl,b_add (by omega)]
 refine b_quo (by omega) (by omega) (by omega) ?_
 rw [load_cell hb (v := vint c.num) rfl rfl,b_mul (by omega),load_cell hb (v := vint c.err) rfl rfl,b_sub (by omega)]
 refine b_quo (by omega) (by omega) (by omega) ?_
 refine fill1 rfl rfl (by decide) (fill1 rfl rfl (by simp) ?_)
 simp only [fill0,List.set_cons_zero,List.set_cons_succ]
 refine store_agg (cs := [vint 0,vint 0]) (sz := 0) (by simp) rfl rfl rfl ?_
 rw [List.append_assoc,List.set_append_right _ _ (by simp)]
 have e : (h ++ [AObj.cells [vint c.gate,vint c.man,vint c.num,vint c.err] true 0]).length - h.length = 1 := by simp
 rw [e]
 refine retQ_drop rfl ok (Nat.le_refl _) ?_
 refine resW_cell tkR ?_
 show aLoad true 2 (ptr (h ++ [AObj.cells [vint c.gate,vint c.man,vint c.num,vint c.err] true 0]).length 0) _ _
 refine load_part (cs := [vint (rdLo c),vint (rdHi c)]) (wr := true) (sz := 0) ?_ (by simp) rfl rfl ?_
 ·simp [rdLo,rdHi]
 ·exact resW_nil ⟨by simp [pack,VOk,AOk,LOk],hK⟩
end
end Go.Proofs.Ytfljbanjmplcfaa
namespace Go.Proofs.Ytfljbanjmplcfaa
open Go.Conc Go.Proofs.Try
structure Rng where
 lo : Int
 hi : Int
def Rng.cells (r : Rng) : List Value := [vint r.lo,vint r.hi]
def Rng.val (r : Rng) : Value := .agg ⟨r.cells⟩
structure Tal where
 gates : Int
 first : Rng
 changes : List Rng
 most : Int
 counts : List Cnt
def SliE {α : Type} (h : List AObj) (v : Value) (s : Nat) (enc : α → List Value) (xs : List α) : Prop := Sli h v s xs.length (xs.flatMap enc)
def talCells (t : Tal) (cv nv : Value) : List Value := [vint t.gates,vint t.first.lo,vint t.first.hi,cv,vint t.most,nv]
structure TalAt (h : List AObj) (v : Value) (t : Tal) (cv nv : Value) : Prop where
 val : v = .agg ⟨talCells t cv nv⟩
 ch : SliE h cv 2 Rng.cells t.changes
 co : SliE h nv 4 Cnt.cells t.counts
theorem flat_take {α : Type} {enc : α → List Value} {s : Nat} (hen : ∀ x,(enc x).length = s) : ∀ (xs : List α) (i : Nat) (hi : i < xs.length),((xs.flatMap enc).drop (i * s)).take s = enc xs[i]
 | [],i,hi => by simp at hi
 | x :: xs,0,hi => by
  simp only [List.flatMap_cons,Nat.zero_mul,List.drop_zero,List.getElem_cons_zero]
  rw [List.take_append_of_le_length (by rw [hen]; exact Nat.le_refl _),List.take_of_length_le (by rw [hen]; exact Nat.le_refl _)]
 | x :: xs,i + 1,hi => by
  simp only [List.flatMap_cons,List.getElem_cons_succ]
  have : (i + 1) * s = (enc x).length + i * s := by rw [hen,Nat.succ_mul,Nat.add_comm]
  rw [this,← List.drop_drop,List.drop_left]
  exact flat_take hen xs i (by simpa using hi)
section
variable {h g : List AObj} {K : Value → Prop}
theorem sliE_app {α : Type} {v : Value} {s : Nat} {enc : α → List Value} {xs : List α} (hs : SliE h v s enc xs) : SliE (h ++ g) v s enc xs := sli_app hs
theorem sliE_len {α : Type} {v : Value} {s : Nat} {enc : α → List Value} {xs : List α} (hs : SliE h v s enc xs) : aLenS v K = K (vint xs.length) := sli_len hs
theorem sliE_elem {α : Type} {v : Value} {s : Nat} {enc : α → List Value} {xs : List α} (hen : ∀ x,(enc x).length = s) (hpos : 0 < s) (hs : SliE h v s enc xs) {i : Nat} (hi : i < xs.length) :
  ∃ b o cs wr sz,(∀ K : Value → Prop,K (ptr b o) → aIdx s v (vint i) K) ∧ h[b]? = some (.cells cs wr sz) ∧ o + s ≤ cs.length ∧ (cs.drop o).take s = enc xs[i] ∧ kn (enc xs[i]) = true := by
 obtain ⟨base,c,rfl,⟨hl,hkn⟩,hc⟩ := hs
 have hft := flat_take hen xs i hi
 have hmul : (i + 1) * s ≤ xs.length * s := Nat.mul_le_mul_right s (by omega)
 have hsucc : (i + 1) * s = i * s + s := Nat.succ_mul i s
 rcases hc with ⟨_,h0⟩ | ⟨b,o,rfl,h0 | ⟨cs,wr,sz,hb,hx⟩⟩
 ·omega
 ·omega
 ·rw [← hx] at hl hft
  simp only [List.length_take,List.length_drop] at hl
  refine ⟨b,o + i * s,cs,wr,sz,fun K hK => ?_,hb,by omega,?_,?_⟩
  ·rw [idx_ok]
   exact ⟨⟨by omega,by omega⟩,by simpa using hK⟩
  ·rw [← hft,List.drop_take,List.drop_drop,List.take_take]
   congr 1
   omega
  ·have : kn ((xs.flatMap enc).drop (i * s)) = true := by
    unfold kn at hkn ⊢
    rw [List.all_eq_true] at hkn ⊢
    exact fun y hy => hkn y (List.mem_of_mem_drop hy)
   rw [← flat_take hen xs i hi]
   unfold kn at this ⊢
   rw [List.all_eq_true] at this ⊢
   exact fun y hy => this y (List.mem_of_mem_take hy)
theorem part_get {cs e : List Value} {o s j : Nat} {x : Value} (ht : (cs.drop o).take s = e) (hx : e[j]? = some x) : cs[o + j]? = some x := by
 rw [← ht,List.getElem?_take] at hx
 split at hx
 ·rw [List.getElem?_drop] at hx
  exact hx
 ·cases hx
end
def rngErr (lo hi : Int) (r : Rng) : Int := if ¬ (lo ≤ r.lo ∧ r.lo ≤ hi) ∨ ¬ (lo ≤ r.hi ∧ r.hi ≤ hi) then 1 else if r.lo > r.hi then 5 else 0
def firstE : List Int → Int
 | [] => 0
 | e :: l => if e ≠ 0 then e else firstE l
def talErr (t : Tal) : Int :=
 if ¬ (1 ≤ t.gates ∧ t.gates ≤ 5) then 1 else if rngErr 0 300 t.first ≠ 0 then rngErr 0 300 t.first else
 if (t.changes.length : Int) < t.gates - 1 then 7 else if (t.changes.length : Int) > t.gates - 1 then 6 else
 if firstE (t.changes.map (rngErr (-60) 60)) ≠ 0 then firstE (t.changes.map (rngErr (-60) 60)) else
 if ¬ (0 ≤ t.most ∧ t.most ≤ 60) then 1 else if t.counts.length > 7 then 6 else firstE (t.counts.map fun c => cntErr c t.gates)
theorem firstE_cons (l l2 : List Int) (e : Int) (h : firstE l = 0) : firstE (l ++ e :: l2) = if e ≠ 0 then e else firstE l2 := by
 induction l with
 | nil => rfl
 | cons a l ih =>
  unfold firstE at h
  split at h
  ·omega
  ·rename_i ha
   simp only [List.cons_append]
   conv => lhs; unfold firstE
   rw [if_neg ha]
   exact ih h
theorem firstE_step {α : Type} {f : α → Int} {xs : List α} {i : Nat} (hi : i < xs.length) (h : firstE ((xs.take i).map f) = 0) :
  (f xs[i] ≠ 0 → firstE (xs.map f) = f xs[i]) ∧ (f xs[i] = 0 → firstE ((xs.take (i + 1)).map f) = 0) := by
 have e1 : xs = xs.take i ++ xs[i] :: xs.drop (i + 1) := by simp
 refine ⟨fun hne => ?_,fun h0 => ?_⟩
 ·have : xs.map f = (xs.take i).map f ++ f xs[i] :: (xs.drop (i + 1)).map f := by
   rw [← List.map_cons,← List.map_append,← e1]
  rw [this,firstE_cons _ _ _ h,if_pos hne]
 ·have : xs.take (i + 1) = xs.take i ++ [xs[i]] := by rw [List.take_add_one]; simp [hi]
  rw [this,List.map_append]
  show firstE (_ ++ f xs[i] :: []) = 0
  rw [firstE_cons _ _ _ h,if_neg (by simpa using h0)]
  rfl
end Go.Proofs.Ytfljbanjmplcfaa
namespace Go.Proofs.Ytfljbanjmplcfaa
open Go.Conc Go.Proofs.Try
set_option maxRecDepth 100000
section
variable {main : Bool} {J : JT} {h : List AObj} {K : Value → List AObj → Prop}
theorem good46 (hJ : Closed prog main J) {r : Rng} {lo hi : Int} (hK : K (vint (rngErr lo hi r)) h) : Good prog J 46 [r.val,vint lo,vint hi] h K := by
 refine g46 hJ fun ok => ?_
 rw [e46]
 unfold Rng.val Rng.cells
 refine box_agg rfl ?_
 have hb : (h ++ [AObj.cells [vint r.lo,vint r.hi] true 0])[h.length]? = some (.cells [vint r.lo,vint r.hi] true 0) := by simp
 have l0 : ∀ {K : Value → Prop},aLoad false 1 (ptr h.length 0) (h ++ [AObj.cells [vint r.lo,vint r.hi] true 0]) K = K (vint r.lo) := load_cell hb rfl rfl
 have l1 : ∀ {K : Value → Prop},aLoad false 1 (ptr h.length 1) (h ++ [AObj.cells [vint r.lo,vint r.hi] true 0]) K = K (vint r.hi) := load_cell hb rfl rfl
 have fin : ∀ e : Int,rngErr lo hi r = e → retL h.length K [] [vint e] (h ++ [.cells [vint r.lo,vint r.hi] true 0]) := fun e he => by
  subst he
  exact retL_drop ok (Nat.le_refl _) (by simp [unk]) (by simp [pack,VOk]) hK
 simp only [off_okp,Nat.zero_add,l0,l1]
 refine good27 hJ ?_
 simp only [u_not,cnd_ndec]
 refine ⟨fun h1 => ?_,fun h1 => ?_⟩
 ·rw [s46_1]
  show cnd (.bool (!decide (lo ≤ r.lo ∧ r.lo ≤ hi))) _ _
  rw [cnd_ndec]
  exact ⟨fun _ => fin 1 (by unfold rngErr; rw [if_pos (.inl h1)]),fun x => absurd x h1⟩
 ·rw [l1]
  refine good27 hJ ?_
  simp only [u_not]
  rw [s46_1]
  show cnd (.bool (!decide (lo ≤ r.hi ∧ r.hi ≤ hi))) _ _
  rw [cnd_ndec]
  refine ⟨fun h2 => fin 1 (by unfold rngErr; rw [if_pos (.inr h2)]),fun h2 => ?_⟩
  have hn : ¬ (¬ (lo ≤ r.lo ∧ r.lo ≤ hi) ∨ ¬ (lo ≤ r.hi ∧ r.hi ≤ hi)) := by
   rintro (x | x)
   ·exact x h1
   ·exact x h2
  show aOff (ptr h.length 0) 0 _
  simp only [off_okp,Nat.zero_add,l0]
  show aOff (ptr h.length 0) 1 _
  simp only [off_okp,Nat.zero_add,l1,b_gtr,cnd_dec]
  exact ⟨fun h3 => fin 5 (by unfold rngErr; rw [if_neg hn,if_pos h3]),fun h3 => fin 0 (by unfold rngErr; rw [if_neg hn,if_neg h3])⟩
theorem tal_loads {v cv nv : Value} {t : Tal} (ht : TalAt h v t cv nv) (g : List AObj) :
  (∀ {K : Value → Prop},aLoad false 1 (ptr h.length 0) (h ++ [AObj.cells (talCells t cv nv) true 0] ++ g) K = K (vint t.gates)) ∧
  (∀ {K : Value → Prop},K t.first.val → aLoad true 2 (ptr h.length 1) (h ++ [AObj.cells (talCells t cv nv) true 0] ++ g) K) ∧
  (∀ {K : Value → Prop},aLoad false 1 (ptr h.length 3) (h ++ [AObj.cells (talCells t cv nv) true 0] ++ g) K = K cv) ∧
  (∀ {K : Value → Prop},aLoad false 1 (ptr h.length 4) (h ++ [AObj.cells (talCells t cv nv) true 0] ++ g) K = K (vint t.most)) ∧
  (∀ {K : Value → Prop},aLoad false 1 (ptr h.length 5) (h ++ [AObj.cells (talCells t cv nv) true 0] ++ g) K = K nv) := by
 have hb : (h ++ [AObj.cells (talCells t cv nv) true 0] ++ g)[h.length]? = some (.cells (talCells t cv nv) true 0) := by simp
 have c1 : kn1 cv = true := by
  obtain ⟨_,_,rfl,_⟩ := ht.ch
  rfl
 have c2 : kn1 nv = true := by
  obtain ⟨_,_,rfl,_⟩ := ht.co
  rfl
 exact ⟨load_cell hb rfl rfl,fun hk => load_part hb (by simp [talCells]) rfl rfl hk,load_cell hb rfl c1,load_cell hb rfl rfl,load_cell hb rfl c2⟩
theorem tal_one {v cv nv : Value} {t : Tal} (ht : TalAt h v t cv nv) : (talCells t cv nv).all one = true := by
 obtain ⟨_,_,rfl,_⟩ := ht.ch
 obtain ⟨_,_,rfl,_⟩ := ht.co
 rfl
theorem rng_len (r : Rng) : r.cells.length = 2 := rfl
theorem cnt_len (c : Cnt) : c.cells.length = 4 := rfl
theorem good30 (hJ : Closed prog main J) {v cv nv : Value} {t : Tal} (ht : TalAt h v t cv nv) (hK : K (vint (talErr t)) h) : Good prog J 30 [v] h K := by
 refine g30 hJ fun ok => ?_
 rw [e30,ht.val]
 refine box_agg (tal_one ht) ?_
 have fin : ∀ (e : Int) (g : List AObj),talErr t = e → retL h.length K [] [vint e] (h ++ [.cells (talCells t cv nv) true 0] ++ g) := fun e g he => by
  subst he
  rw [List.append_assoc]
  exact retL_drop ok (Nat.le_refl _) (by simp [unk]) (by simp [pack,VOk]) hK
 have fin0 : ∀ (e : Int),talErr t = e → retL h.length K [] [vint e] (h ++ [.cells (talCells t cv nv) true 0]) := fun e he => by
  have := fin e [] he
  rwa [List.append_nil] at this
 obtain ⟨l0,l1,l3,l4,l5⟩ := tal_loads ht []
 rw [List.append_nil] at l0 l1 l3 l4 l5
 have S3 := sliE_app (g := [.cells (talCells t cv nv) true 0]) ht.ch
 simp only [off_okp,Nat.zero_add,l0]
 refine good27 hJ ?_
 simp only [u_not,cnd_ndec]
 refine ⟨fun h1 => fin0 1 (by unfold talErr; rw [if_pos h1]),fun h1 => l1 ?_⟩
 refine good46 hJ ?_
 simp only [b_neq,cnd_dec]
 refine ⟨fun h2 => fin0 _ (by unfold talErr; rw [if_neg (by simpa using h1),if_pos h2]),fun h2 => ?_⟩
 have h2' : rngErr 0 300 t.first = 0 := by omega
 simp only [l3,l0,sliE_len S3]
 rw [b_sub (by omega)]
 simp only [b_lss,cnd_dec]
 refine ⟨fun h3 => fin0 7 (by unfold talErr; rw [if_neg (by simpa using h1),if_neg (by omega),if_pos h3]),fun h3 => ?_⟩
 rw [b_sub (by omega)]
 simp only [b_gtr,cnd_dec]
 refine ⟨fun h4 => fin0 6 (by unfold talErr; rw [if_neg (by simpa using h1),if_neg (by omega),if_neg h3,if_pos h4]),fun h4 => ?_⟩
 refine l30_1 hJ (fun i : Nat => t.changes.length - i) (fun i f h' => (∃ g,h' = h ++ [.cells (talCells t cv nv) true 0] ++ g) ∧ f.ds = [] ∧ f.r 1 = ptr h.length 0 ∧ f.r 37 = cv ∧ f.r 38 = vint t.changes.length ∧ f.r 39 = vint (i : Nat) ∧ i ≤ t.changes.length ∧ firstE ((t.changes.take i).map (rngErr (-60) 60)) = 0) ?_ (s := 0)
  (.inl ⟨⟨[],by simp⟩,rfl,rfl,rfl,rfl,rfl,by omega,rfl⟩)
 rintro i f _ ⟨⟨g,rfl⟩,hds,r1,r37,r38,r39,hi,hz⟩ ok' hn
 obtain ⟨l0,l1,l3,l4,l5⟩ := tal_loads ht g
 rw [s30_1]
 simp only [r1,r37,r38,r39,hds,b_lss,cnd_dec]
 refine ⟨fun hlt => ?_,fun hge => ?_⟩
 ·have hil : i < t.changes.length := by omega
  have S3' := sliE_app (g := g) S3
  obtain ⟨b,o,cs,wr,sz,hidx,hb,hle,hpart,hkn⟩ := sliE_elem rng_len (by omega) S3' hil
  obtain ⟨s1,s2⟩ := firstE_step (f := rngErr (-60) 60) hil hz
  refine hidx _ (load_part hb hle hpart hkn ?_)
  simp only [aAlloc]
  refine store_agg (cs := [vint 0,vint 0]) (sz := 0) (by simp) rfl rfl rfl ?_
  rw [show ∀ (l : List AObj) (x y : AObj),(l ++ [x]).set l.length y = l ++ [y] from fun l x y => by simp]
  refine load_part (cs := t.changes[i].cells) (wr := true) (sz := 0) (by simp) (by simp [Rng.cells]) rfl rfl ?_
  refine good46 hJ (r := t.changes[i]) ?_
  simp only [b_neq,cnd_dec]
  rw [List.append_assoc (h ++ [AObj.cells (talCells t cv nv) true 0])]
  refine ⟨fun hne => fin _ _ ?_,fun h0 => ?_⟩
  ·unfold talErr
   rw [if_neg (by simpa using h1),if_neg (by omega),if_neg h3,if_neg h4,if_pos (by rw [s1 hne]; exact hne),s1 hne]
  ·rw [b_add (by omega)]
   exact ⟨i + 1,by dsimp only; omega,.inl ⟨⟨_,rfl⟩,hds,r1,r37,r38,rfl,by omega,s2 (by omega)⟩⟩
 ·have hil : i = t.changes.length := by omega
  subst hil
  rw [List.take_length] at hz
  simp only [off_okp,Nat.zero_add,l4,l5]
  refine good27 hJ ?_
  simp only [u_not,cnd_ndec]
  have pre : ∀ e : Int,(if ¬ (0 ≤ t.most ∧ t.most ≤ 60) then (1 : Int) else if t.counts.length > 7 then 6 else firstE (t.counts.map fun c => cntErr c t.gates)) = e → talErr t = e := fun e he => by
   unfold talErr
   rw [if_neg (by simpa using h1),if_neg (by omega),if_neg h3,if_neg h4,if_neg (by omega)]
   exact he
  refine ⟨fun h5 => fin 1 _ (pre _ (by rw [if_pos h5])),fun h5 => ?_⟩
  have S5 := sliE_app (g := g) (sliE_app (g := [.cells (talCells t cv nv) true 0]) ht.co)
  simp only [l5,sliE_len S5,b_gtr,cnd_dec]
  refine ⟨fun h6 => fin 6 _ (pre _ (by rw [if_neg (by simpa using h5),if_pos (by omega)])),fun h6 => ?_⟩
  refine l30_2 hJ (fun i : Nat => t.counts.length - i) (fun i f h' => (∃ g,h' = h ++ [.cells (talCells t cv nv) true 0] ++ g) ∧ f.ds = [] ∧ f.r 1 = ptr h.length 0 ∧ f.r 58 = nv ∧ f.r 59 = vint t.counts.length ∧ f.r 60 = vint (i : Nat) ∧ i ≤ t.counts.length ∧ firstE ((t.counts.take i).map fun c => cntErr c t.gates) = 0) ?_ (s := 0)
   (.inl ⟨⟨g,rfl⟩,hds,r1,rfl,rfl,rfl,by omega,rfl⟩)
  rintro i f _ ⟨⟨g,rfl⟩,hds,r1,r58,r59,r60,hi,hz2⟩ ok' hn
  rw [s30_2]
  simp only [r1,r58,r59,r60,hds,b_lss,cnd_dec]
  refine ⟨fun hlt => ?_,fun hge => ?_⟩
  ·have hil : i < t.counts.length := by omega
   have S5' := sliE_app (g := g) (sliE_app (g := [.cells (talCells t cv nv) true 0]) ht.co)
   obtain ⟨b,o,cs,wr,sz,hidx,hb,hle,hpart,hkn⟩ := sliE_elem cnt_len (by omega) S5' hil
   obtain ⟨s1,s2⟩ := firstE_step (f := fun c => cntErr c t.gates) hil hz2
   refine hidx _ (load_part hb hle hpart hkn ?_)
   simp only [aAlloc]
   refine store_agg (cs := [vint 0,vint 0,vint 0,vint 0]) (sz := 0) (by simp) rfl rfl rfl ?_
   rw [show ∀ (l : List AObj) (x y : AObj),(l ++ [x]).set l.length y = l ++ [y] from fun l x y => by simp]
   refine load_part (cs := t.counts[i].cells) (wr := true) (sz := 0) (by simp) (by simp [Cnt.cells]) rfl rfl ?_
   rw [List.append_assoc (h ++ [AObj.cells (talCells t cv nv) true 0])]
   obtain ⟨l0,_,_,_,_⟩ := tal_loads ht (g ++ [.cells t.counts[i].cells true 0])
   simp only [off_okp,Nat.zero_add,l0]
   refine good47 hJ (c := t.counts[i]) (by omega) ?_
   simp only [b_neq,cnd_dec]
   refine ⟨fun hne => fin _ _ (pre _ ?_),fun h0 => ?_⟩
   ·rw [if_neg (by simpa using h5),if_neg (by omega),s1 hne]
   ·rw [b_add (by omega)]
    exact ⟨i + 1,by dsimp only; omega,.inl ⟨⟨_,rfl⟩,hds,r1,r58,r59,rfl,by omega,s2 (by omega)⟩⟩
  ·have hil : i = t.counts.length := by omega
   subst hil
   rw [List.take_length] at hz2
   exact fin 0 _ (pre _ (by rw [if_neg (by simpa using h5),if_neg (by omega),hz2]))
end
end Go.Proofs.Ytfljbanjmplcfaa
namespace Go.Proofs.Ytfljbanjmplcfaa
open Go.Conc
def fN (n : Nat) (k : Nat → Bool) : Bool :=
 match n with
 | 0 => k 0
 | m + 1 => k (Nat.succ m)
inductive T (α : Type) where
 | nil
 | node (a : α) (l r : T α)
noncomputable def tget {α : Type} (d : α) (t : T α) (i : Nat) : α :=
 T.rec (motive := fun _ => Nat → α) (fun _ => d) (fun a _ _ il ir i => Nat.rec (motive := fun _ => α) a (fun j _ => cond (Nat.beq (Nat.mod j 2) 0) (il (Nat.div j 2)) (ir (Nat.div j 2))) i) t i
noncomputable def tset {α : Type} (d : α) (n : Nat) (t : T α) (i : Nat) (v : α) (k : T α → Bool) : Bool :=
 Nat.rec (motive := fun _ => T α → Nat → (T α → Bool) → Bool) (fun _ _ _ => false) (fun _ ih t i k =>
  T.rec (motive := fun _ => Bool)
   (Nat.rec (motive := fun _ => Bool) (k (.node v .nil .nil)) (fun j _ => cond (Nat.beq (Nat.mod j 2) 0) (ih .nil (Nat.div j 2) fun l => k (.node d l .nil)) (ih .nil (Nat.div j 2) fun r => k (.node d .nil r))) i)
   (fun a l r _ _ => Nat.rec (motive := fun _ => Bool) (k (.node v l r)) (fun j _ => cond (Nat.beq (Nat.mod j 2) 0) (ih l (Nat.div j 2) fun l => k (.node a l r)) (ih r (Nat.div j 2) fun r => k (.node a l r))) i) t) n t i k
structure XH where
 n : Nat
 t : T AObj
noncomputable def hg (x : XH) (b : Nat) (k : AObj → Bool) : Bool := Nat.blt b x.n && k (tget .dead x.t b)
noncomputable def hpush (x : XH) (o : AObj) (k : XH → Bool) : Bool := tset .dead 13 x.t x.n o fun t => fN (x.n + 1) fun n => k ⟨n,t⟩
noncomputable def gt (t : T Value) : Nat → Value := tget unk t
noncomputable def gc (l : List Value) (i : Nat) (k : Value → Bool) : Bool :=
 List.rec (motive := fun _ => Nat → Bool) (fun _ => false) (fun x _ ih i => Nat.rec (motive := fun _ => Bool) (k x) (fun i _ => ih i) i) l i
abbrev KB := Value → XH → Bool
abbrev CB := FuncId → List Value → XH → KB → Bool
def blkV : Value → Option Nat
 | .pointer (some a) => some a.block
 | .slice (some a) _ _ => some a.block
 | .map (some b) => some b
 | _ => none
def addP (n0 : Nat) (a b : Value) (acc : List (Nat × Nat)) (k : List (Nat × Nat) → Bool) : Bool :=
 match blkV a,blkV b with
 | some x,some y => bif Nat.ble n0 x && !(acc.any fun p => Nat.beq p.1 x) then fN x fun x => fN y fun y => k ((x,y) :: acc) else k acc
 | _,_ => k acc
noncomputable def prs (n0 : Nat) : T Value → T Value → List (Nat × Nat) → (List (Nat × Nat) → Bool) → Bool
 | .node a l r,.node b l' r',acc,k => addP n0 a b acc fun acc => prs n0 l l' acc fun acc => prs n0 r r' acc k
 | _,_,acc,k => k acc
section
variable {P : Program} {main : Bool} {J : JT} {C : CB} {N n0 : Nat} {ds : List Nat} {fn : FuncId} {ops : Array Oper}
theorem Sem.less {h : List AObj} {c : Code} {f f' : RG} {Q : QT} (hr : ∀ t,f'.r t = unk ∨ f'.r t = f.r t) (hd : f'.ds = f.ds) (hs : Sem J N n0 fn c f' h Q) : Sem J N n0 fn c f h Q := by
 intro b a k cs L ρ FC w ft h1 h2 h3 h4 h5 h6 hc
 refine hs b a k cs L ρ FC w ft h1 h2 h3 ⟨fun t => ?_,h4.size,by rw [hd]; exact h4.defers,by rw [hd]; exact h4.ok⟩ h5 h6 hc
 rcases hr t with e | e
 ·exact .inl e
 ·rw [e]
  exact h4.regs t
end
end Go.Proofs.Ytfljbanjmplcfaa
namespace Go.Proofs.Ytfljbanjmplcfaa
open Go.Conc Go.Proofs.Try
section
variable {main : Bool} {J : JT} {h : List AObj} {K : Value → List AObj → Prop}
def HF (h : List AObj) (nv : Value) (k : Nat) (s : Int) (rest : List AObj) : List AObj := h ++ (.cells [nv,vint k,.int .u64 s] true 0 :: rest)
theorem hf_len {h : List AObj} {nv : Value} {k : Nat} {s : Int} {rest : List AObj} : (HF h nv k s rest).length = h.length + 1 + rest.length := by
 simp [HF]; omega
theorem hf_app {h : List AObj} {nv : Value} {k : Nat} {s : Int} {rest g : List AObj} : HF h nv k s rest ++ g = HF h nv k s (rest ++ g) := by
 simp [HF]
theorem hf_hand {h : List AObj} {nv : Value} {ns : List Int} {k : Nat} {s : Int} {rest : List AObj} (sn : Sli h nv 1 ns.length (ns.map vint)) (hln : ns.length < 4611686018427387904) (hk : k < 1000000) (h0 : 0 ≤ s) (h1 : s < 18446744073709551616) :
  HandAt (HF h nv k s rest) h.length nv ns k s :=
 ⟨by simp [HF],sli_app sn,hln,by omega,h0,h1⟩
theorem hf_dealt {h h' : List AObj} {nv : Value} {k n : Nat} {s : Int} {rest : List AObj} (hd : Dealt (HF h nv k s rest) h.length nv k n h') : ∃ k' s',k' ≤ k + n ∧ 0 ≤ s' ∧ s' < 18446744073709551616 ∧ h' = HF h nv k' s' rest := by
 obtain ⟨k',s',a,b,c,rfl⟩ := hd
 refine ⟨k',s',a,b,c,?_⟩
 simp [HF]
theorem sli_one {h : List AObj} {v : Value} {s n : Nat} {cs : List Value} (hs : Sli h v s n cs) : v.cells = #[v] ∧ one v = true ∧ kn1 v = true := by
 obtain ⟨_,_,rfl,_⟩ := hs
 exact ⟨rfl,rfl,rfl⟩
end
end Go.Proofs.Ytfljbanjmplcfaa
namespace Go.Proofs.Ytfljbanjmplcfaa
open Go.Conc Go.Proofs.Try
set_option maxRecDepth 100000
section
variable {main : Bool} {J : JT} {h A g : List AObj} {K : Value → List AObj → Prop} {KV : Value → Prop} {HL : List AObj → Prop} {H : Value → List AObj → Prop}
theorem a_min {a b : Int} : aMin (vint a) [vint b] KV = KV (vint (min a b)) := by
 show KV (vint (if b < a then b else a)) = _
 congr 2
 split <;> omega
theorem a_max {a b : Int} : aMax (vint a) [vint b] KV = KV (vint (max a b)) := by
 show KV (vint (if b > a then b else a)) = _
 congr 2
 split <;> omega
theorem u_neg {a : Int} (h : -9223372036854775808 < a ∧ a < 9223372036854775808) : aUn .neg (vint a) KV = KV (vint (-a)) := by
 show KV (.int .i64 (IntKind.i64.wrap (-a))) = _
 rw [wrap64 (by omega) (by omega)]
theorem back_get {i : Nat} : (A ++ g)[A.length + i]? = g[i]? := by
 rw [List.getElem?_append_right (by omega)]
 congr 1
 omega
theorem back_set {i : Nat} {o : AObj} : (A ++ g).set (A.length + i) o = A ++ g.set i o := by
 rw [List.set_append_right _ _ (by omega)]
 congr 2
 omega
def OwnE (n : Nat) (g : List AObj) (s : Nat) (cs : List Value) (len : Nat) (v : Value) (o : Option Nat) : Prop :=
 cs.length = len * s ∧ kn cs = true ∧ ((len = 0 ∧ v = .slice none 0 0 ∧ o = none) ∨ ∃ i c sz,o = some i ∧ v = .slice (some ⟨n + i,0,none⟩) len c ∧ g[i]? = some (.cells cs true sz) ∧ ((c = fz ∧ sz = s) ∨ c = len))
theorem ownE_nil {n s : Nat} : OwnE n g s [] 0 (.slice none 0 0) none := ⟨by simp,rfl,.inl ⟨rfl,rfl,rfl⟩⟩
theorem ownE_keep {n s len : Nat} {cs : List Value} {v : Value} {o : Option Nat} {g' : List AObj} (ho : OwnE n g s cs len v o) (hk : ∀ i x,o = some i → g[i]? = some x → g'[i]? = some x) : OwnE n g' s cs len v o := by
 obtain ⟨h1,h2,h3 | ⟨i,c,sz,rfl,h4,h5,h6⟩⟩ := ho
 ·exact ⟨h1,h2,.inl h3⟩
 ·exact ⟨h1,h2,.inr ⟨i,c,sz,rfl,h4,hk i _ rfl h5,h6⟩⟩
theorem get_app {i : Nat} {x : AObj} {g' : List AObj} (hx : g[i]? = some x) : (g ++ g')[i]? = some x := by
 rw [List.getElem?_append_left (List.getElem?_eq_some_iff.1 hx).1]
 exact hx
theorem get_set {i j : Nat} {x y : AObj} (hx : g[i]? = some x) (hij : i ≠ j) : (g.set j y)[i]? = some x := by
 rw [List.getElem?_set,if_neg (fun e => hij e.symm)]
 exact hx
theorem ownE_app {n s len : Nat} {cs : List Value} {v : Value} {o : Option Nat} {g' : List AObj} (ho : OwnE n g s cs len v o) : OwnE n (g ++ g') s cs len v o :=
 ownE_keep ho fun _ _ _ hx => get_app hx
theorem ownE_set {n s len i : Nat} {cs : List Value} {v : Value} {o : Option Nat} {y : AObj} (ho : OwnE n g s cs len v o) (hi : o ≠ some i) : OwnE n (g.set i y) s cs len v o :=
 ownE_keep ho fun j _ hj hx => get_set hx fun e => hi (by rw [hj,e])
theorem ownE_at {n s len : Nat} {cs : List Value} {v : Value} {i : Nat} (ho : OwnE n g s cs len v (some i)) : ∃ sz,g[i]? = some (.cells cs true sz) := by
 obtain ⟨_,_,⟨_,_,h⟩ | ⟨j,c,sz,h,_,h5,_⟩⟩ := ho
 ·cases h
 ·cases h
  exact ⟨sz,h5⟩
theorem ownE_lt {n s len : Nat} {cs : List Value} {v : Value} {o : Option Nat} (ho : OwnE n g s cs len v o) {i : Nat} (hi : o = some i) : i < g.length := by
 subst hi
 obtain ⟨sz,h⟩ := ownE_at ho
 exact (List.getElem?_eq_some_iff.1 h).1
theorem ownE_sli {s len : Nat} {cs : List Value} {v : Value} {o : Option Nat} (ho : OwnE A.length g s cs len v o) : Sli (A ++ g) v s len cs := by
 obtain ⟨h1,h2,⟨rfl,rfl,_⟩ | ⟨i,c,sz,rfl,rfl,h5,_⟩⟩ := ho
 ·have : cs = [] := List.length_eq_zero_iff.1 (by omega)
  subst this
  exact sli_nil
 ·refine ⟨_,_,rfl,⟨h1,h2⟩,.inr ⟨_,_,rfl,.inr ⟨cs,true,sz,?_,by rw [List.drop_zero,List.take_of_length_le (by omega)]⟩⟩⟩
  rw [back_get]
  exact h5
theorem ownE_val {n s len : Nat} {cs : List Value} {v : Value} {o : Option Nat} (ho : OwnE n g s cs len v o) : v.cells = #[v] ∧ one v = true ∧ kn1 v = true := by
 obtain ⟨_,_,⟨_,rfl,_⟩ | ⟨_,_,_,_,rfl,_⟩⟩ := ho <;> exact ⟨rfl,rfl,rfl⟩
theorem ownE_more {s len : Nat} {cs e : List Value} {v y : Value} {o : Option Nat} (ho : OwnE A.length g s cs len v o) (hs : 0 < s) (hl : len < 1000) (hy : Sli (A ++ g) y s 1 e)
  (hk : ∀ v' g',OwnE A.length g' s (cs ++ e) (len + 1) v' (some g.length) → (∀ i x,o ≠ some i → g[i]? = some x → g'[i]? = some x) → H v' (A ++ g')) : aApp s v y (A ++ g) H := by
 have hr : room = 1073741824 := rfl
 have hel : e.length = s := by
  have := sli_vlen hy
  omega
 have hek : kn e = true := by
  obtain ⟨_,_,_,⟨_,h⟩,_⟩ := hy
  exact h
 have new : ∀ g1 : List AObj,g1.length = g.length → (∀ i x,o ≠ some i → g[i]? = some x → g1[i]? = some x) → cs.length = len * s → kn cs = true → H (.slice (some ⟨(A ++ g).length,0,none⟩) (len + 1) fz) (A ++ (g1 ++ [.cells (cs ++ e) true s])) := by
  intro g1 hg1 hkeep h1 h2
  refine hk _ _ ⟨?_,?_,.inr ⟨g.length,fz,s,rfl,by simp,by simp [← hg1],.inl ⟨rfl,rfl⟩⟩⟩ fun j x hj hx => get_app (hkeep j x hj hx)
  ·rw [List.length_append,hel,h1,Nat.succ_mul]
  ·unfold kn at *
   rw [List.all_append,h2,hek]
   rfl
 obtain ⟨h1,h2,⟨rfl,rfl,rfl⟩ | ⟨i,c,sz,rfl,rfl,h5,h6⟩⟩ := ho
 ·have hcs : cs = [] := List.length_eq_zero_iff.1 (by omega)
  subst hcs
  refine app_nil hs hy (by omega) (fun e => absurd e (by omega)) fun _ => ?_
  rw [List.append_assoc]
  exact new g rfl (fun _ _ _ hx => hx) h1 h2
 ·have hlt := (List.getElem?_eq_some_iff.1 h5).1
  have ht : cs.take (len * s) = cs := List.take_of_length_le (by omega)
  rcases h6 with ⟨rfl,rfl⟩ | rfl
  ·refine app_own (cs := cs) (by rw [back_get]; exact h5) (by omega) (by rw [ht]; exact h2) hs hy (by omega) ?_
   rw [back_set,List.append_assoc,ht]
   exact new _ (by simp) (fun j x hj hx => get_set hx fun e => hj (by rw [e])) h1 h2
  ·refine app_copy (cs := cs) (by rw [back_get]; exact h5) (by omega) (by rw [List.drop_zero,ht]; exact h2) (by omega) hs hy (by omega) ?_
   rw [List.append_assoc,List.drop_zero,ht]
   exact new g rfl (fun _ _ _ hx => hx) h1 h2
theorem hfa {nv : Value} {k : Nat} {s : Int} {rest : List AObj} (hs : 0 ≤ s ∧ s < 18446744073709551616) (hk : k < 1000000) {ns : List Int} (sn : Sli h nv 1 ns.length (ns.map vint)) (hln : ns.length < 4611686018427387904) : HandAt (HF h nv k s rest ++ g) h.length nv ns k s := by
 rw [hf_app]
 exact hf_hand sn hln hk hs.1 hs.2
theorem hfd {nv : Value} {k n : Nat} {s : Int} {rest h' : List AObj} (hd : Dealt (HF h nv k s rest ++ g) h.length nv k n h') : ∃ k' s',k' ≤ k + n ∧ (0 ≤ s' ∧ s' < 18446744073709551616) ∧ h' = HF h nv k' s' rest ++ g := by
 rw [hf_app] at hd
 obtain ⟨k',s',a,b,c,rfl⟩ := hf_dealt hd
 exact ⟨k',s',a,⟨b,c⟩,by rw [hf_app]⟩
structure Hnd (h : List AObj) (nv : Value) (ns : List Int) : Prop where
 list : Sli h nv 1 ns.length (ns.map vint)
 sane : ns.length < 4611686018427387904
variable {nv : Value} {ns : List Int} {rest : List AObj} {k : Nat} {s : Int}
theorem nl : (HF h nv k s rest ++ g).length = h.length + 1 + rest.length + g.length := by rw [List.length_append,hf_len]
theorem ng {i : Nat} : (HF h nv k s rest ++ g)[h.length + 1 + rest.length + i]? = g[i]? := by rw [← hf_len (h := h) (nv := nv) (k := k) (s := s),back_get]
theorem nset {i : Nat} {o : AObj} : (HF h nv k s rest ++ g).set (h.length + 1 + rest.length + i) o = HF h nv k s rest ++ g.set i o := by rw [← hf_len (h := h) (nv := nv) (k := k) (s := s),back_set]
theorem nmore {s' len : Nat} {cs e : List Value} {v y : Value} {o : Option Nat} (ho : OwnE (h.length + 1 + rest.length) g s' cs len v o) (hs : 0 < s') (hl : len < 1000) (hy : Sli (HF h nv k s rest ++ g) y s' 1 e)
  (hk : ∀ v' g',OwnE (h.length + 1 + rest.length) g' s' (cs ++ e) (len + 1) v' (some g.length) → (∀ i x,o ≠ some i → g[i]? = some x → g'[i]? = some x) → H v' (HF h nv k s rest ++ g')) : aApp s' v y (HF h nv k s rest ++ g) H := by
 rw [← hf_len (h := h) (nv := nv) (k := k) (s := s)] at ho hk
 exact ownE_more ho hs hl hy hk
theorem nlast {s' c len : Nat} {cs : List Value} (h1 : cs.length = len * s') (h2 : kn cs = true) : Sli (HF h nv k s rest ++ (g ++ [.cells cs true 0])) (.slice (some ⟨h.length + 1 + rest.length + g.length,0,none⟩) len c) s' len cs := by
 refine ⟨_,_,rfl,⟨h1,h2⟩,.inr ⟨_,_,rfl,.inr ⟨cs,true,0,?_,by rw [List.drop_zero,List.take_of_length_le (by omega)]⟩⟩⟩
 rw [ng]
 simp
section
variable {KV : Value → Prop} {a b : Int} {t : TypeId} {h : List AObj}
theorem offI {b o d : Nat} (hk : KV (ptr b (o + d))) : aOff (ptr b o) d KV := hk
theorem fillI {c : List Value} {KL : List Value → Prop} (hk : KL c) : aFill c [] KL := hk
theorem nilI {b o : Nat} (hk : KV (ptr b o)) : aNil (ptr b o) KV := hk
theorem addI (h : -9223372036854775808 ≤ a + b ∧ a + b < 9223372036854775808) (hk : KV (vint (a + b))) : aBin prog .add t (vint a) (vint b) KV := by rw [b_add h]; exact hk
theorem subI (h : -9223372036854775808 ≤ a - b ∧ a - b < 9223372036854775808) (hk : KV (vint (a - b))) : aBin prog .sub t (vint a) (vint b) KV := by rw [b_sub h]; exact hk
theorem mulI (h : -9223372036854775808 ≤ a * b ∧ a * b < 9223372036854775808) (hk : KV (vint (a * b))) : aBin prog .mul t (vint a) (vint b) KV := by rw [b_mul h]; exact hk
theorem negI (h : -9223372036854775808 < a ∧ a < 9223372036854775808) (hk : KV (vint (-a))) : aUn .neg (vint a) KV := by rw [u_neg h]; exact hk
theorem minI (hk : KV (vint (min a b))) : aMin (vint a) [vint b] KV := by rw [a_min]; exact hk
theorem maxI (hk : KV (vint (max a b))) : aMax (vint a) [vint b] KV := by rw [a_max]; exact hk
theorem lssI (hk : KV (.bool (decide (a < b)))) : aBin prog .lss t (vint a) (vint b) KV := by rw [b_lss]; exact hk
theorem gtrI (hk : KV (.bool (decide (a > b)))) : aBin prog .gtr t (vint a) (vint b) KV := by rw [b_gtr]; exact hk
theorem geqI (hk : KV (.bool (decide (a ≥ b)))) : aBin prog .geq t (vint a) (vint b) KV := by rw [b_geq]; exact hk
theorem leqI (hk : KV (.bool (decide (a ≤ b)))) : aBin prog .leq t (vint a) (vint b) KV := by rw [b_leq]; exact hk
theorem eqlI (hk : KV (.bool (decide (a = b)))) : aBin prog .eql t (vint a) (vint b) KV := by rw [b_eql]; exact hk
theorem neqI (hk : KV (.bool (decide (a ≠ b)))) : aBin prog .neq t (vint a) (vint b) KV := by rw [b_neq]; exact hk
theorem notI {x : Bool} (hk : KV (.bool (!x))) : aUn .not (.bool x) KV := hk
theorem cndI {p : Prop} [Decidable p] {A B : Prop} (h1 : p → A) (h2 : ¬ p → B) : cnd (.bool (decide p)) A B := cnd_dec.2 ⟨h1,h2⟩
theorem cndN {p : Prop} [Decidable p] {A B : Prop} (h1 : ¬ p → A) (h2 : p → B) : cnd (.bool (!decide p)) A B := cnd_ndec.2 ⟨h1,h2⟩
theorem lenI {v : Value} {s n : Nat} {cells : List Value} (hs : Sli h v s n cells) (hk : KV (vint n)) : aLenS v KV := by rw [sli_len hs]; exact hk
theorem ldI {b o s : Nat} {c : List Value} {wr : Bool} {sz : Nat} {v : Value} (hb : h[b]? = some (.cells c wr sz)) (hv : c[o]? = some v) (hn : kn1 v = true) (hk : KV v) : aLoad false s (ptr b o) h KV := by rw [load_cell hb hv hn]; exact hk
theorem idxI {s b o n c : Nat} {j : Int} (h1 : 0 ≤ j ∧ j < n) (hk : KV (ptr b (o + j.toNat * s))) : aIdx s (.slice (some ⟨b,o,none⟩) n c) (vint j) KV := by rw [idx_ok]; exact ⟨h1,hk⟩
theorem ext0 {a b : Value} (hk : KV a) : aExt (.tuple ⟨[a,b]⟩) 0 KV := hk
theorem ext1 {a b : Value} (hk : KV b) : aExt (.tuple ⟨[a,b]⟩) 1 KV := hk
theorem ext30 {a b c : Value} (hk : KV a) : aExt (.tuple ⟨[a,b,c]⟩) 0 KV := hk
theorem ext31 {a b c : Value} (hk : KV b) : aExt (.tuple ⟨[a,b,c]⟩) 1 KV := hk
theorem ext32 {a b c : Value} (hk : KV c) : aExt (.tuple ⟨[a,b,c]⟩) 2 KV := hk
end
theorem nAl {l : List Value} (hk : K (ptr (h.length + 1 + rest.length + g.length) 0) (HF h nv k s rest ++ (g ++ [.cells l true 0]))) : aAlloc l (HF h nv k s rest ++ g) K := by
 unfold aAlloc
 rw [nl,List.append_assoc]
 exact hk
theorem nNew {n : Nat} {l : List Value} (hk : K (.slice (some ⟨h.length + 1 + rest.length + g.length,0,none⟩) n n) (HF h nv k s rest ++ (g ++ [.cells l true 0]))) : aNewS n l (HF h nv k s rest ++ g) K := by
 unfold aNewS
 rw [nl,List.append_assoc]
 exact hk
theorem nLd {i o : Nat} {c : List Value} {wr : Bool} {sz : Nat} {v : Value} (hb : g[i]? = some (.cells c wr sz)) (hv : c[o]? = some v) (hn : kn1 v = true) (hk : KV v) : aLoad false 1 (ptr (h.length + 1 + rest.length + i) o) (HF h nv k s rest ++ g) KV :=
 ldI (by rw [ng]; exact hb) hv hn hk
theorem nLdA {i o n : Nat} {cs c : List Value} {wr : Bool} {sz : Nat} (hb : g[i]? = some (.cells cs wr sz)) (hl : o + n ≤ cs.length) (hc : (cs.drop o).take n = c) (hn : kn c = true) (hk : KV (.agg ⟨c⟩)) : aLoad true n (ptr (h.length + 1 + rest.length + i) o) (HF h nv k s rest ++ g) KV :=
 load_part (by rw [ng]; exact hb) hl hc hn hk
theorem nSt {i o : Nat} {c : List Value} {sz : Nat} {v : Value} (hb : g[i]? = some (.cells c true sz)) (ho : o < c.length) (h1 : v.cells = #[v]) (h2 : one v = true) (hk : HL (HF h nv k s rest ++ g.set i (.cells (c.set o v) true sz))) : aStore 1 (ptr (h.length + 1 + rest.length + i) o) v (HF h nv k s rest ++ g) HL := by
 refine store_cell (by rw [ng]; exact hb) ho h1 h2 ?_
 rw [nset]
 exact hk
theorem nStA {i n : Nat} {cs c : List Value} {sz : Nat} (hb : g[i]? = some (.cells cs true sz)) (hl : c.length = n) (hs : cs.length = n) (h1 : c.all one = true) (hk : HL (HF h nv k s rest ++ g.set i (.cells c true sz))) : aStore n (ptr (h.length + 1 + rest.length + i) 0) (.agg ⟨c⟩) (HF h nv k s rest ++ g) HL := by
 refine store_agg (by rw [ng]; exact hb) hl hs h1 ?_
 rw [nset]
 exact hk
theorem nSame {g' : List AObj} {k' : Nat} {s' : Int} {is : List Nat} (hi : ∀ i ∈ is,g'[i]? = g[i]?) : SameB (some (is.map fun i => h.length + 1 + rest.length + i)) (HF h nv k s rest ++ g) (HF h nv k' s' rest ++ g') := by
 intro b hb
 obtain ⟨i,hm,rfl⟩ := List.mem_map.1 hb
 rw [ng,ng,hi i hm]
theorem nRd {i o : Nat} {is : List Nat} (hi : i ∈ is) : RdOk (some (is.map fun i => h.length + 1 + rest.length + i)) (ptrBlk (ptr (h.length + 1 + rest.length + i) o)) := List.mem_map.2 ⟨i,hi,rfl⟩
theorem last_get {x : AObj} : (g ++ [x])[g.length]? = some x := by simp
theorem last_set {x y : AObj} : (g ++ [x]).set g.length y = g ++ [y] := by simp
theorem up (hJ : Closed prog main J) (hn : Hnd h nv ns) (hs : 0 ≤ s ∧ s < 18446744073709551616) (hk : k < 1000000) {m : Int} (hm : m < 1000000)
  (hK : ∀ y k' s',0 ≤ y → (y ≤ m ∨ y = 0) → k' ≤ k + 1 → (0 ≤ s' ∧ s' < 18446744073709551616) → K (vint y) (HF h nv k' s' rest ++ g)) : Good prog J 8 [ptr h.length 0,vint m] (HF h nv k s rest ++ g) K := by
 refine good8 hJ (hfa hs hk hn.list hn.sane) (by omega) fun y h1 a b hd => ?_
 obtain ⟨k',s',c,d,rfl⟩ := hfd hd
 exact hK y k' s' a b c d
theorem amo (hJ : Closed prog main J) (hn : Hnd h nv ns) (hs : 0 ≤ s ∧ s < 18446744073709551616) (hk : k < 1000000) {lo hi : Int} (h1 : -1000000 ≤ lo ∧ lo ≤ 1000000) (h2 : -1000000 ≤ hi ∧ hi ≤ 1000000)
  (hK : ∀ y k' s',lo ≤ y → (y ≤ hi ∨ y = lo) → k' ≤ k + 1 → (0 ≤ s' ∧ s' < 18446744073709551616) → K (vint y) (HF h nv k' s' rest ++ g)) : Good prog J 9 [ptr h.length 0,vint lo,vint hi] (HF h nv k s rest ++ g) K := by
 refine good9 hJ (hfa hs hk hn.list hn.sane) (by omega) (by omega) fun y h1 a b hd => ?_
 obtain ⟨k',s',c,d,rfl⟩ := hfd hd
 exact hK y k' s' a b c d
theorem ofl (hJ : Closed prog main J) (hn : Hnd h nv ns) (hs : 0 ≤ s ∧ s < 18446744073709551616) (hk : k < 1000000) {a : Int} {others : List Int} {n c : Nat} (hl : others.length = n) (hn2 : n < 1000)
  (hK : ∀ y k' s',(y = a ∨ y ∈ others) → k' ≤ k + 1 → (0 ≤ s' ∧ s' < 18446744073709551616) → K (vint y) (HF h nv k' s' rest ++ (g ++ [.cells (others.map vint) true 0]))) :
  Good prog J 15 [ptr h.length 0,vint a,(.slice (some ⟨h.length + 1 + rest.length + g.length,0,none⟩) n c)] (HF h nv k s rest ++ (g ++ [.cells (others.map vint) true 0])) K := by
 subst hl
 refine good15 hJ (hfa hs hk hn.list hn.sane) (others := others) (fun h' hd => ?_) (by omega) fun y h1 a hd => ?_
 ·obtain ⟨k',s',c,d,rfl⟩ := hfd hd
  refine sli_new (wr := true) (sz := 0) ?_ (by simp) (kn_ints _)
  rw [ng]
  simp
 ·obtain ⟨k',s',c,d,rfl⟩ := hfd hd
  exact hK y k' s' a c d
end
structure Chain (t : Tal) (nums losses : List Int) : Prop where
 numl : nums.length = t.changes.length + 1
 losl : losses.length = t.changes.length
 first : 30 ≤ t.first.lo ∧ t.first.lo ≤ 60 ∧ t.first.lo ≤ t.first.hi ∧ t.first.hi ≤ t.first.lo + 6
 most : 0 ≤ t.most ∧ t.most ≤ 4
 ch : ∀ r ∈ t.changes,-3 ≤ r.lo ∧ r.lo ≤ 2 ∧ r.lo ≤ r.hi ∧ r.hi ≤ r.lo + 2
 zero : t.first.lo ≤ nums.getD 0 0 ∧ nums.getD 0 0 ≤ t.first.hi
 step : ∀ i (hi : i < t.changes.length),0 ≤ losses.getD i 0 ∧ losses.getD i 0 ≤ t.most ∧ t.changes[i].lo ≤ nums.getD (i + 1) 0 - nums.getD i 0 + losses.getD i 0 ∧ nums.getD (i + 1) 0 - nums.getD i 0 + losses.getD i 0 ≤ t.changes[i].hi
theorem Chain.bd {t : Tal} {nums losses : List Int} (c : Chain t nums losses) : ∀ i : Nat,i ≤ t.changes.length → 30 - 7 * (i : Int) ≤ nums.getD i 0 ∧ nums.getD i 0 ≤ 66 + 4 * (i : Int)
 | 0,_ => by
  have := c.first
  have := c.zero
  omega
 | i + 1,hi => by
  have ih := c.bd i (by omega)
  have s := c.step i (by omega)
  have r := c.ch t.changes[i] (List.getElem_mem _)
  have := c.most
  omega
theorem getD_app1 {l : List Int} {x : Int} {i : Nat} (hi : i < l.length) : (l ++ [x]).getD i 0 = l.getD i 0 := by
 simp only [List.getD_eq_getElem?_getD]
 rw [List.getElem?_append_left hi]
theorem getD_app2 {l : List Int} {x : Int} : (l ++ [x]).getD l.length 0 = x := by
 simp [List.getD_eq_getElem?_getD]
theorem Chain.more {t : Tal} {nums losses : List Int} (c : Chain t nums losses) {r : Rng} {now' l : Int} (hr : -3 ≤ r.lo ∧ r.lo ≤ 2 ∧ r.lo ≤ r.hi ∧ r.hi ≤ r.lo + 2) (hl : 0 ≤ l ∧ l ≤ t.most)
  (hn : r.lo ≤ now' - nums.getD t.changes.length 0 + l ∧ now' - nums.getD t.changes.length 0 + l ≤ r.hi) : Chain { t with changes := t.changes ++ [r] } (nums ++ [now']) (losses ++ [l]) where
 numl := by simp [c.numl]
 losl := by simp [c.losl]
 first := c.first
 most := c.most
 ch := fun x hx => by
  rcases List.mem_append.1 hx with hx | hx
  ·exact c.ch x hx
  ·simp at hx
   rw [hx]
   exact hr
 zero := by
  have := c.numl
  have := c.zero
  rw [getD_app1 (by omega)]
  exact this
 step := fun i hi => by
  have n1 := c.numl
  have n2 := c.losl
  dsimp only at hi ⊢
  simp at hi
  rcases Nat.lt_or_ge i t.changes.length with x | x
  ·rw [getD_app1 (by omega),getD_app1 (by omega),getD_app1 (by omega),List.getElem_append_left x]
   exact c.step i x
  ·have : i = t.changes.length := by omega
   subst this
   have e1 : (nums ++ [now']).getD (t.changes.length + 1) 0 = now' := by rw [← n1,getD_app2]
   have e2 : (losses ++ [l]).getD t.changes.length 0 = l := by rw [← n2,getD_app2]
   have e3 : (t.changes ++ [r])[t.changes.length] = r := by simp
   rw [getD_app1 (i := t.changes.length) (l := nums) (by omega),e1,e2,e3]
   exact ⟨hl.1,hl.2,hn.1,hn.2⟩
structure CoOk (gates : Int) (nums : List Int) (c : Cnt) : Prop where
 gate : 0 ≤ c.gate ∧ c.gate < gates
 man : 1 ≤ c.man ∧ c.man ≤ 4
 err : 0 ≤ c.err ∧ c.err ≤ 20
 num : -(c.err * nums.getD c.gate.toNat 0 / 100) ≤ c.num - nums.getD c.gate.toNat 0 ∧ c.num - nums.getD c.gate.toNat 0 ≤ c.err * nums.getD c.gate.toNat 0 / 100
structure TruthOk (G C : Int) (t : Tal) (nums losses : List Int) : Prop where
 gates : 1 ≤ t.gates ∧ t.gates ≤ G
 chl : (t.changes.length : Int) = t.gates - 1
 chain : Chain t nums losses
 few : (t.counts.length : Int) ≤ C
 co : ∀ c ∈ t.counts,CoOk t.gates nums c
section
variable {main : Bool} {J : JT} {h : List AObj} {K : Value → List AObj → Prop} {n0 : Nat}
theorem fill_agg {c l : List Value} {off s : Nat} {ps : List (Nat × Nat × Value)} {K : List Value → Prop} (h1 : l.length = s) (h2 : l.all one = true) (ho : off + s ≤ c.length) (hk : aFill (wrAt c off l) ps K) : aFill c ((off,s,.agg ⟨l⟩) :: ps) K := by
 refine ⟨by simpa [Value.cells] using h1,by simpa [Value.cells] using h2,ho,?_⟩
 simpa [Value.cells] using hk
theorem retQ_same {rs : List ResultVar} {f : RG} (ds : f.ds = []) (hr : resW prog rs f.r h fun vs => K (pack vs) h) : RetQ prog rs n0 K .ret f h := by
 unfold RetQ
 rw [ds]
 exact resW_imp rs hr fun vs hk => .inl hk
theorem good17 (hJ : Closed prog main J) {nv : Value} {ns : List Int} {rest g : List AObj} {k : Nat} {s : Int} (hn : Hnd h nv ns) (hs : 0 ≤ s ∧ s < 18446744073709551616) (hk : k < 1000000) {a b : Int} (hb : 0 < b ∧ b < 1000)
  (hK : ∀ y k' s',k' ≤ k + 1 → (0 ≤ s' ∧ s' < 18446744073709551616) → K (.bool y) (HF h nv k' s' rest ++ g)) : Good prog J 17 [ptr h.length 0,vint a,vint b] (HF h nv k s rest ++ g) K := by
 refine g17 hJ fun ok => ?_
 rw [e17,b_sub (by omega)]
 refine up hJ hn hs hk (by omega) fun y k' s' _ _ h3 h4 => ?_
 rw [b_lss]
 exact retL_same (by simp [unk]) (hK _ _ _ h3 h4)
theorem cs_val {t : Tal} {cv nv : Value} : (talCells t cv nv).length = 6 := rfl
structure BT (n : Nat) (g : List AObj) (L : List Rng) (Cs : List Cnt) (nums losses : List Int) (cv cov nuv lov : Value) (o1 o2 o3 o4 : Option Nat) : Prop where
 ch : OwnE n g 2 (L.flatMap Rng.cells) L.length cv o1
 co : OwnE n g 4 (Cs.flatMap Cnt.cells) Cs.length cov o2
 nu : OwnE n g 1 (nums.map vint) nums.length nuv o3
 lo : OwnE n g 1 (losses.map vint) losses.length lov o4
 len : 2 < g.length
 b1 : ∀ i,o1 = some i → 2 < i
 b2 : ∀ i,o2 = some i → 2 < i
 b3 : ∀ i,o3 = some i → 2 < i
 b4 : ∀ i,o4 = some i → 2 < i
 d12 : ∀ i,o1 = some i → o2 ≠ some i
 d13 : ∀ i,o1 = some i → o3 ≠ some i
 d14 : ∀ i,o1 = some i → o4 ≠ some i
 d23 : ∀ i,o2 = some i → o3 ≠ some i
 d24 : ∀ i,o2 = some i → o4 ≠ some i
 d34 : ∀ i,o3 = some i → o4 ≠ some i
section
variable {n : Nat} {g : List AObj} {L : List Rng} {Cs : List Cnt} {nums losses : List Int} {cv cov nuv lov : Value} {o1 o2 o3 o4 : Option Nat} {nv : Value} {k : Nat} {s : Int} {rest : List AObj}
theorem BT.app {g' : List AObj} (B : BT n g L Cs nums losses cv cov nuv lov o1 o2 o3 o4) : BT n (g ++ g') L Cs nums losses cv cov nuv lov o1 o2 o3 o4 :=
 ⟨ownE_app B.ch,ownE_app B.co,ownE_app B.nu,ownE_app B.lo,by have := B.len; simp; omega,B.b1,B.b2,B.b3,B.b4,B.d12,B.d13,B.d14,B.d23,B.d24,B.d34⟩
theorem BT.set {i : Nat} {y : AObj} (B : BT n g L Cs nums losses cv cov nuv lov o1 o2 o3 o4) (h1 : o1 ≠ some i) (h2 : o2 ≠ some i) (h3 : o3 ≠ some i) (h4 : o4 ≠ some i) : BT n (g.set i y) L Cs nums losses cv cov nuv lov o1 o2 o3 o4 :=
 ⟨ownE_set B.ch h1,ownE_set B.co h2,ownE_set B.nu h3,ownE_set B.lo h4,by have := B.len; simpa using this,B.b1,B.b2,B.b3,B.b4,B.d12,B.d13,B.d14,B.d23,B.d24,B.d34⟩
theorem BT.set2 {i : Nat} {y : AObj} (B : BT n g L Cs nums losses cv cov nuv lov o1 o2 o3 o4) (hi : i ≤ 2) : BT n (g.set i y) L Cs nums losses cv cov nuv lov o1 o2 o3 o4 :=
 B.set (fun e => by have := B.b1 _ e; omega) (fun e => by have := B.b2 _ e; omega) (fun e => by have := B.b3 _ e; omega) (fun e => by have := B.b4 _ e; omega)
theorem BT.small {i : Nat} (B : BT n g L Cs nums losses cv cov nuv lov o1 o2 o3 o4) (hi : i ≤ 2) : o1 ≠ some i ∧ o2 ≠ some i ∧ o3 ≠ some i ∧ o4 ≠ some i :=
 ⟨fun e => by have := B.b1 _ e; omega,fun e => by have := B.b2 _ e; omega,fun e => by have := B.b3 _ e; omega,fun e => by have := B.b4 _ e; omega⟩
theorem BT.ch_more {x : Rng} {y : Value} {H : Value → List AObj → Prop} (B : BT (h.length + 1 + rest.length) g L Cs nums losses cv cov nuv lov o1 o2 o3 o4) (hl : L.length < 1000) (hy : Sli (HF h nv k s rest ++ g) y 2 1 x.cells)
  (hk : ∀ v' g',BT (h.length + 1 + rest.length) g' (L ++ [x]) Cs nums losses v' cov nuv lov (some g.length) o2 o3 o4 → (∀ i x,i ≤ 2 → g[i]? = some x → g'[i]? = some x) → H v' (HF h nv k s rest ++ g')) : aApp 2 cv y (HF h nv k s rest ++ g) H :=
 nmore B.ch (by omega) hl hy fun v' g' ho hkeep => hk v' g' ⟨by simpa using ho,ownE_keep B.co fun i x hi hx => hkeep i x (fun e => B.d12 i e hi) hx,ownE_keep B.nu fun i x hi hx => hkeep i x (fun e => B.d13 i e hi) hx,ownE_keep B.lo fun i x hi hx => hkeep i x (fun e => B.d14 i e hi) hx,by have := ownE_lt ho rfl; have := B.len; omega,fun i e => by cases e; exact B.len,B.b2,B.b3,B.b4,fun i e e2 => by cases e; have := ownE_lt B.co e2; omega,fun i e e2 => by cases e; have := ownE_lt B.nu e2; omega,fun i e e2 => by cases e; have := ownE_lt B.lo e2; omega,B.d23,B.d24,B.d34⟩ fun i x hi hx => hkeep i x (B.small hi).1 hx
theorem BT.co_more {x : Cnt} {y : Value} {H : Value → List AObj → Prop} (B : BT (h.length + 1 + rest.length) g L Cs nums losses cv cov nuv lov o1 o2 o3 o4) (hl : Cs.length < 1000) (hy : Sli (HF h nv k s rest ++ g) y 4 1 x.cells)
  (hk : ∀ v' g',BT (h.length + 1 + rest.length) g' L (Cs ++ [x]) nums losses cv v' nuv lov o1 (some g.length) o3 o4 → (∀ i x,i ≤ 2 → g[i]? = some x → g'[i]? = some x) → H v' (HF h nv k s rest ++ g')) : aApp 4 cov y (HF h nv k s rest ++ g) H :=
 nmore B.co (by omega) hl hy fun v' g' ho hkeep => hk v' g' ⟨ownE_keep B.ch fun i x hi hx => hkeep i x (B.d12 i hi) hx,by simpa using ho,ownE_keep B.nu fun i x hi hx => hkeep i x (fun e => B.d23 i e hi) hx,ownE_keep B.lo fun i x hi hx => hkeep i x (fun e => B.d24 i e hi) hx,by have := ownE_lt ho rfl; have := B.len; omega,B.b1,fun i e => by cases e; exact B.len,B.b3,B.b4,fun i e e2 => by cases e2; have := ownE_lt B.ch e; omega,B.d13,B.d14,fun i e e2 => by cases e; have := ownE_lt B.nu e2; omega,fun i e e2 => by cases e; have := ownE_lt B.lo e2; omega,B.d34⟩ fun i x hi hx => hkeep i x (B.small hi).2.1 hx
theorem BT.nu_more {x : Int} {y : Value} {H : Value → List AObj → Prop} (B : BT (h.length + 1 + rest.length) g L Cs nums losses cv cov nuv lov o1 o2 o3 o4) (hl : nums.length < 1000) (hy : Sli (HF h nv k s rest ++ g) y 1 1 [vint x])
  (hk : ∀ v' g',BT (h.length + 1 + rest.length) g' L Cs (nums ++ [x]) losses cv cov v' lov o1 o2 (some g.length) o4 → (∀ i x,i ≤ 2 → g[i]? = some x → g'[i]? = some x) → H v' (HF h nv k s rest ++ g')) : aApp 1 nuv y (HF h nv k s rest ++ g) H :=
 nmore B.nu (by omega) hl hy fun v' g' ho hkeep => hk v' g' ⟨ownE_keep B.ch fun i x hi hx => hkeep i x (B.d13 i hi) hx,ownE_keep B.co fun i x hi hx => hkeep i x (B.d23 i hi) hx,by simpa using ho,ownE_keep B.lo fun i x hi hx => hkeep i x (fun e => B.d34 i e hi) hx,by have := ownE_lt ho rfl; have := B.len; omega,B.b1,B.b2,fun i e => by cases e; exact B.len,B.b4,B.d12,fun i e e2 => by cases e2; have := ownE_lt B.ch e; omega,B.d14,fun i e e2 => by cases e2; have := ownE_lt B.co e; omega,B.d24,fun i e e2 => by cases e; have := ownE_lt B.lo e2; omega⟩ fun i x hi hx => hkeep i x (B.small hi).2.2.1 hx
theorem BT.lo_more {x : Int} {y : Value} {H : Value → List AObj → Prop} (B : BT (h.length + 1 + rest.length) g L Cs nums losses cv cov nuv lov o1 o2 o3 o4) (hl : losses.length < 1000) (hy : Sli (HF h nv k s rest ++ g) y 1 1 [vint x])
  (hk : ∀ v' g',BT (h.length + 1 + rest.length) g' L Cs nums (losses ++ [x]) cv cov nuv v' o1 o2 o3 (some g.length) → (∀ i x,i ≤ 2 → g[i]? = some x → g'[i]? = some x) → H v' (HF h nv k s rest ++ g')) : aApp 1 lov y (HF h nv k s rest ++ g) H :=
 nmore B.lo (by omega) hl hy fun v' g' ho hkeep => hk v' g' ⟨ownE_keep B.ch fun i x hi hx => hkeep i x (B.d14 i hi) hx,ownE_keep B.co fun i x hi hx => hkeep i x (B.d24 i hi) hx,ownE_keep B.nu fun i x hi hx => hkeep i x (B.d34 i hi) hx,by simpa using ho,by have := ownE_lt ho rfl; have := B.len; omega,B.b1,B.b2,B.b3,fun i e => by cases e; exact B.len,B.d12,B.d13,fun i e e2 => by cases e2; have := ownE_lt B.ch e; omega,B.d23,fun i e e2 => by cases e2; have := ownE_lt B.co e; omega,fun i e e2 => by cases e2; have := ownE_lt B.nu e; omega⟩ fun i x hi hx => hkeep i x (B.small hi).2.2.2 hx
end
structure S1 (h : List AObj) (rest g : List AObj) (C gt lo w mo : Int) (L : List Rng) (nums losses : List Int) (cv nuv lov : Value) (o1 o3 o4 : Option Nat) (j : Nat) (f : RG) : Prop where
 bt : BT (h.length + 1 + rest.length) g L [] nums losses cv (.slice none 0 0) nuv lov o1 none o3 o4
 z0 : g[0]? = some (.cells [vint 0,vint 0,vint 0,.slice none 0 0,vint 0,.slice none 0 0] true 0)
 t2 : g[2]? = some (.cells (talCells ⟨gt,⟨lo,lo + w⟩,L,mo,[]⟩ cv (.slice none 0 0)) true 0)
 chn : Chain ⟨gt,⟨lo,lo + w⟩,L,mo,[]⟩ nums losses
 lj : L.length = j
 jg : (j : Int) + 1 ≤ gt
 g5 : gt ≤ 5
 ds : f.ds = []
 r0 : f.r 0 = ptr h.length 0
 r2 : f.r 2 = vint C
 r6 : f.r 6 = ptr (h.length + 1 + rest.length + 0) 0
 r9 : f.r 9 = ptr (h.length + 1 + rest.length + 2) 0
 r10 : f.r 10 = vint (nums.getD j 0)
 r11 : f.r 11 = nuv
 r12 : f.r 12 = lov
 r13 : f.r 13 = vint ((j : Int) + 1)
theorem rnd1 (hJ : Closed prog main J) {nv : Value} {ns : List Int} {rest g : List AObj} {k : Nat} {s : Int} (hn : Hnd h nv ns) (hs : 0 ≤ s ∧ s < 18446744073709551616) (hk : k < 200000) {C gt lo w mo : Int} {L : List Rng} {nums losses : List Int} {cv nuv lov : Value} {o1 o3 o4 : Option Nat} {j : Nat} {f : RG}
  (S : S1 h rest g C gt lo w mo L nums losses cv nuv lov o1 o3 o4 j f) {nx0 : RG → List AObj → Prop}
  (hx : (j : Int) + 1 < gt → ∀ k5 t5 g3 L' nums' losses' v1 v2 v3 o1' o3' o4' f',k5 ≤ k + 4 → (0 ≤ t5 ∧ t5 < 18446744073709551616) → S1 h rest g3 C gt lo w mo L' nums' losses' v1 v2 v3 o1' o3' o4' (j + 1) f' → nx0 f' (HF h nv k5 t5 rest ++ g3))
  (he : (j : Int) + 1 = gt → ∀ k5 t5 m f',k5 ≤ k + 1 → (0 ≤ t5 ∧ t5 < 18446744073709551616) → 0 ≤ m → (m ≤ C ∨ m = 0) → m ≤ 7 → f'.ds = [] → (∀ i,i < 15 → f'.r i = f.r i) → f'.r 16 = vint m → Sem J 152 n0 5 (subC [1,1,1,1,1,1,1,1,0,1,0] (codeOf f5)) f' (HF h nv k5 t5 rest ++ g) (contQ prog J 152 n0 5 [1,1,1,1,1,1,1,1,0,1,0] (codeOf f5) [] (RetQ prog [.cell 6 30,.tmp 7,.tmp 8] n0 K))) (hC : 0 ≤ C ∧ C ≤ 7) :
  W prog J 152 n0 5 (subC [1,1,1,1,1,1,1,0,1,0,0] (codeOf f5)) f (HF h nv k s rest ++ g) (thenK nx0 (contQ prog J 152 n0 5 [1,1,1,1,1,1,1,0,1,0] (codeOf f5) [] (RetQ prog [.cell 6 30,.tmp 7,.tmp 8] n0 K))) := by
 obtain ⟨B,z0,t2,chn,hj,hjg,g5,hds,r0,r2,r6,r9,r10,r11,r12,r13⟩ := S
 have numl := chn.numl
 have losl := chn.losl
 have bdj := chn.bd j (by dsimp only; omega)
 have hmo := chn.most
 dsimp only at numl losl hmo
 rw [s5_1]
 simp only [r0,r2,r9,r10,r11,r12,r13]
 refine offI (nLd t2 rfl rfl (lssI (cndI (fun hlt => ?_) fun hge => ?_)))
 ·replace hlt : (j : Int) + 1 < gt := hlt
  refine amo hJ hn hs (by omega) (by omega) (by omega) fun rl k2 t2' p1 p2 hk2 ht2 => ?_
  refine fill1 rfl rfl (by decide) (fillI (nAl (nStA last_get rfl rfl rfl ?_)))
  rw [last_set]
  refine ⟨[g.length].map fun i => h.length + 1 + rest.length + i,?_⟩
  refine offI (nLd last_get rfl rfl ⟨nRd (by simp),?_⟩)
  refine up hJ hn ht2 (by omega) (by omega) fun d k3 t3 p3 p4 hk3 ht3 => ?_
  refine ⟨nSame (by simp),addI (by omega) (offI (nSt last_get (by simp) rfl rfl ?_))⟩
  rw [last_set]
  refine offI (nLd (v := vint mo) (get_app t2) rfl rfl ?_)
  refine up hJ hn ht3 (by omega) (by omega) fun l k4 t4 p5 p6 hk4 ht4 => ?_
  refine offI (nLd (v := vint rl) last_get rfl rfl (offI (nLd (v := vint (rl + d)) last_get rfl rfl ?_)))
  refine amo hJ hn ht4 (by omega) (by omega) (by omega) fun c k5 t5 p7 p8 hk5 ht5 => ?_
  refine addI (by omega) (subI (by omega) (offI (nLd (get_app t2) rfl (ownE_val B.ch).2.2 ?_)))
  refine nLdA (c := [vint rl,vint (rl + d)]) last_get (by simp) rfl rfl ?_
  refine ⟨by decide,fill_agg rfl rfl (by simp [zrep]) (fillI (nNew ?_))⟩
  refine ⟨by decide,BT.ch_more (x := ⟨rl,rl + d⟩) B.app.app (by omega) (nlast rfl rfl) fun v1 g1 B1 kp1 => ?_⟩
  refine ⟨by decide,fill1 rfl rfl (by decide) (fillI (nNew ?_))⟩
  refine ⟨by decide,BT.nu_more (x := nums.getD j 0 + c - l) B1.app (by omega) (nlast rfl rfl) fun v2 g2 B2 kp2 => ?_⟩
  refine ⟨by decide,fill1 rfl rfl (by decide) (fillI (nNew ?_))⟩
  refine ⟨by decide,BT.lo_more (x := l) B2.app (by omega) (nlast rfl rfl) fun v3 g3 B3 kp3 => ?_⟩
  have kp : ∀ i x,i ≤ 2 → g[i]? = some x → g3[i]? = some x := fun i x hi hx => kp3 i _ hi (get_app (kp2 i _ hi (get_app (kp1 i _ hi (get_app (get_app hx))))))
  have hgl : 2 < g3.length := B3.len
  refine offI (nSt (kp 2 _ (by omega) t2) (by simp [talCells]) (ownE_val B3.ch).1 (ownE_val B3.ch).2.1 (addI (by omega) ?_))
  refine hx hlt _ _ _ (L ++ [⟨rl,rl + d⟩]) (nums ++ [nums.getD j 0 + c - l]) (losses ++ [l]) v1 v2 v3 _ _ _ _ (by omega) ht5 ⟨B3.set2 (by omega),get_set (kp 0 _ (by omega) z0) (by omega),?_,?_,by simp [hj],by omega,g5,hds,r0,r2,r6,r9,?_,rfl,rfl,?_⟩
  ·rw [List.getElem?_set_self hgl]
   rfl
  ·subst hj
   exact chn.more (r := ⟨rl,rl + d⟩) (by dsimp only; omega) (by dsimp only; omega) (by dsimp only; omega)
  ·show vint _ = vint _
   congr 1
   rw [← hj,← numl,getD_app2]
  ·show vint _ = vint _
   congr 1
 ·refine minI ?_
  refine up hJ hn hs (by omega) (by omega) fun m k2 s2 p1 p2 hk2 hs2 => ?_
  refine he (by replace hge : ¬ ((j : Int) + 1 < gt) := hge; omega) _ _ m _ hk2 hs2 p1 (by omega) (by omega) hds (fun i hi => ?_) rfl
  match i,hi with
  | 0,_ | 1,_ | 2,_ | 3,_ | 4,_ | 5,_ | 6,_ | 7,_ | 8,_ | 9,_ | 10,_ | 11,_ | 12,_ | 13,_ | 14,_ => rfl
theorem tal_kn {t : Tal} {cv nv : Value} (h1 : kn1 cv = true) (h2 : kn1 nv = true) : kn (talCells t cv nv) = true := by
 unfold kn talCells
 simp only [List.all_cons,List.all_nil,h1,h2]
 rfl
theorem tal_ones {t : Tal} {cv nv : Value} (h1 : one cv = true) (h2 : one nv = true) : (talCells t cv nv).all one = true := by
 unfold talCells
 simp only [List.all_cons,List.all_nil,h1,h2]
 rfl
structure S2 (h : List AObj) (rest g : List AObj) (C gt lo w mo : Int) (L : List Rng) (Cs : List Cnt) (nums losses : List Int) (cv cov lov : Value) (i3 c3 : Nat) (o1 o2 o4 : Option Nat) (i : Nat) (f : RG) : Prop where
 bt : BT (h.length + 1 + rest.length) g L Cs nums losses cv cov (.slice (some ⟨h.length + 1 + rest.length + i3,0,none⟩) nums.length c3) lov o1 o2 (some i3) o4
 z0 : g[0]? = some (.cells [vint 0,vint 0,vint 0,.slice none 0 0,vint 0,.slice none 0 0] true 0)
 t2 : g[2]? = some (.cells (talCells ⟨gt,⟨lo,lo + w⟩,L,mo,Cs⟩ cv cov) true 0)
 co : ∀ c ∈ Cs,CoOk gt nums c
 few : (Cs.length : Int) + i ≤ C
 ds : f.ds = []
 r0 : f.r 0 = ptr h.length 0
 r6 : f.r 6 = ptr (h.length + 1 + rest.length + 0) 0
 r9 : f.r 9 = ptr (h.length + 1 + rest.length + 2) 0
 r11 : f.r 11 = .slice (some ⟨h.length + 1 + rest.length + i3,0,none⟩) nums.length c3
 r12 : f.r 12 = lov
 r16 : f.r 16 = vint (i : Int)
theorem rnd2 (hJ : Closed prog main J) {nv : Value} {ns : List Int} {rest g : List AObj} {k : Nat} {s : Int} (hn : Hnd h nv ns) (hs : 0 ≤ s ∧ s < 18446744073709551616) (hk : k < 200000) {C gt lo w mo : Int} {L : List Rng} {Cs : List Cnt} {nums losses : List Int} {cv cov lov : Value} {i3 c3 : Nat} {o1 o2 o4 : Option Nat} {i : Nat} {f : RG}
  (S : S2 h rest g C gt lo w mo L Cs nums losses cv cov lov i3 c3 o1 o2 o4 i f) (hg : 1 ≤ gt ∧ gt ≤ 5) (hC : C ≤ 7) (hnl : (nums.length : Int) = gt) (hnb : ∀ j : Nat,(j : Int) < gt → 0 ≤ nums.getD j 0 ∧ nums.getD j 0 ≤ 100) {nx0 : RG → List AObj → Prop}
  (hx : 0 < i → ∀ k5 t5 g3 Cs' v1 o2' f',k5 ≤ k + 6 → (0 ≤ t5 ∧ t5 < 18446744073709551616) → S2 h rest g3 C gt lo w mo L Cs' nums losses cv v1 lov i3 c3 o1 o2' o4 (i - 1) f' → nx0 f' (HF h nv k5 t5 rest ++ g3))
  (he : i = 0 → ∀ g',BT (h.length + 1 + rest.length) g' L Cs nums losses cv cov (.slice (some ⟨h.length + 1 + rest.length + i3,0,none⟩) nums.length c3) lov o1 o2 (some i3) o4 → K (.tuple ⟨[.agg ⟨talCells ⟨gt,⟨lo,lo + w⟩,L,mo,Cs⟩ cv cov⟩,.slice (some ⟨h.length + 1 + rest.length + i3,0,none⟩) nums.length c3,lov]⟩) (HF h nv k s rest ++ g')) :
  W prog J 152 n0 5 (subC [1,1,1,1,1,1,1,1,0,1,0,0] (codeOf f5)) f (HF h nv k s rest ++ g) (thenK nx0 (contQ prog J 152 n0 5 [1,1,1,1,1,1,1,1,0,1,0] (codeOf f5) [] (RetQ prog [.cell 6 30,.tmp 7,.tmp 8] n0 K))) := by
 obtain ⟨B,z0,t2,cok,few,hds,r0,r6,r9,r11,r12,r16⟩ := S
 rw [s5_2]
 simp only [r0,r6,r9,r11,r12,r16]
 refine gtrI (cndI (fun hlt => ?_) fun hge => ?_)
 ·refine offI (nLd (v := vint gt) t2 rfl rfl (subI (by omega) ?_))
  refine up hJ hn hs (by omega) (by omega) fun ga k1 s1 a1 b1 hk1 hs1 => ?_
  refine amo hJ hn hs1 (by omega) (by omega) (by omega) fun ma k2 s2 a2 b2 hk2 hs2 => ?_
  refine up hJ hn hs2 (by omega) (by omega) fun x k3 s3 a3 b3 hk3 hs3 => ?_
  refine up hJ hn hs3 (by omega) (by omega) fun y k4 s4 a4 b4 hk4 hs4 => ?_
  refine ⟨by decide,fill1 rfl rfl (by decide) (fill1 rfl rfl (by simp [zrep]) (fill1 rfl rfl (by simp [zrep]) (fill1 rfl rfl (by simp [zrep]) (fillI (nNew ?_)))))⟩
  refine ofl hJ hn hs4 (by omega) (others := [0,3,x,y]) (n := 4) rfl (by omega) fun e k5 s5 me hk5 hs5 => ?_
  have he20 : 0 ≤ e ∧ e ≤ 20 := by
   rcases me with rfl | me
   ·omega
   ·simp at me
    omega
  refine fill1 rfl rfl (by decide) (fill1 rfl rfl (by simp) (fill1 rfl rfl (by simp) (fillI (nAl ?_))))
  refine nStA (c := [vint ga,vint ma,vint 0,vint e]) last_get rfl rfl rfl ?_
  rw [last_set]
  obtain ⟨sz3,b3'⟩ := ownE_at B.nu
  have hga : 0 ≤ ga ∧ ga < gt := by omega
  have hnu : (nums.map vint)[0 + ga.toNat * 1]? = some (vint (nums.getD ga.toNat 0)) := by
   rw [Nat.mul_one,Nat.zero_add]
   exact map_get (by omega)
  have hnb' := hnb ga.toNat (by omega)
  have mb := mul_bd he20.1 he20.2 hnb'.1 hnb'.2
  have g3 : (g ++ [AObj.cells ([0,3,x,y].map vint) true 0] ++ [AObj.cells [vint ga,vint ma,vint 0,vint e] true 0])[i3]? = some (.cells (nums.map vint) true sz3) := get_app (get_app b3')
  refine offI (nLd (v := vint e) last_get rfl rfl (offI (nLd (v := vint ga) last_get rfl rfl (idxI ⟨by omega,by omega⟩ (nLd g3 hnu rfl ?_)))))
  generalize hE : nums.getD ga.toNat 0 = E at *
  have d0 : 0 ≤ e * E / 100 := Int.ediv_nonneg (by omega) (by omega)
  have d1 : e * E / 100 ≤ 20 := by
   have : e * E / 100 ≤ 2000 / 100 := Int.ediv_le_ediv (by omega) (by omega)
   omega
  refine mulI (by omega) (b_quo (by omega) (by omega) (by omega) ?_)
  refine ⟨[(g ++ [AObj.cells ([0,3,x,y].map vint) true 0]).length,i3].map fun i => h.length + 1 + rest.length + i,?_⟩
  refine offI (nLd (v := vint ga) last_get rfl rfl ⟨nRd (by simp),idxI ⟨by omega,by omega⟩ (nLd g3 hnu rfl ⟨nRd (by simp),negI (by omega) ?_⟩)⟩)
  refine amo hJ hn hs5 (by omega) (by omega) (by omega) fun z k6 s6 a6 b6 hk6 hs6 => ?_
  refine ⟨nSame (by simp),addI (by omega) (offI (nSt last_get (by simp) rfl rfl ?_))⟩
  rw [last_set]
  refine offI (nLd (get_app (get_app t2)) rfl (ownE_val B.co).2.2 ?_)
  refine nLdA (c := [vint ga,vint ma,vint (E + z),vint e]) last_get (by simp) rfl rfl ?_
  refine ⟨by decide,fill_agg rfl rfl (by simp [zrep]) (fillI (nNew ?_))⟩
  refine ⟨by decide,BT.co_more (x := ⟨ga,ma,E + z,e⟩) B.app.app.app (by omega) (nlast rfl rfl) fun v1 g1 B1 kp1 => ?_⟩
  have kp : ∀ i x,i ≤ 2 → g[i]? = some x → g1[i]? = some x := fun i x hi hx => kp1 i _ hi (get_app (get_app (get_app hx)))
  have hgl : 2 < g1.length := B1.len
  refine offI (nSt (kp 2 _ (by omega) t2) (by simp [talCells]) (ownE_val B1.co).1 (ownE_val B1.co).2.1 (subI (by omega) ?_))
  refine hx (by omega) _ _ _ (Cs ++ [⟨ga,ma,E + z,e⟩]) v1 _ _ (by omega) hs6 ⟨B1.set2 (by omega),get_set (kp 0 _ (by omega) z0) (by omega),?_,?_,by simp; omega,hds,r0,r6,r9,r11,r12,?_⟩
  ·rw [List.getElem?_set_self hgl]
   rfl
  ·intro c hc
   rcases List.mem_append.1 hc with hc | hc
   ·exact cok c hc
   ·simp at hc
    subst hc
    exact ⟨hga,by dsimp only; omega,he20,by dsimp only; rw [hE]; omega⟩
  ·show vint _ = vint _
   congr 1
   omega
 ·have hgl : 2 < g.length := B.len
  have hkn : kn (talCells ⟨gt,⟨lo,lo + w⟩,L,mo,Cs⟩ cv cov) = true := tal_kn (ownE_val B.ch).2.2 (ownE_val B.co).2.2
  refine nLdA (c := talCells ⟨gt,⟨lo,lo + w⟩,L,mo,Cs⟩ cv cov) t2 (by simp [talCells]) rfl hkn ?_
  refine nStA z0 rfl rfl (tal_ones (ownE_val B.ch).2.1 (ownE_val B.co).2.1) ?_
  refine retQ_same hds ?_
  refine resW_cell (gg := true) (s := 6) (by kernel_rfl) ?_
  show aLoad true 6 (f.r 6) _ _
  rw [r6]
  refine nLdA (c := talCells ⟨gt,⟨lo,lo + w⟩,L,mo,Cs⟩ cv cov) (List.getElem?_set_self (by omega)) (by simp [talCells]) rfl hkn ?_
  refine resW_tmp (by show Value.slice _ _ _ ≠ unk; simp [unk]) (resW_tmp ?_ (resW_nil ?_))
  ·show lov ≠ unk
   intro e
   have := (ownE_val B.lo).2.2
   rw [e] at this
   exact absurd this (by decide)
  ·exact he (by omega) _ (B.set2 (by omega))
theorem good5 (hJ : Closed prog main J) {nv : Value} {ns : List Int} {rest : List AObj} {k : Nat} {s : Int} (hn : Hnd h nv ns) (hs : 0 ≤ s ∧ s < 18446744073709551616) (hk : k < 100000) {G C : Int} (hG : 1 ≤ G ∧ G ≤ 5) (hC : 0 ≤ C ∧ C ≤ 7)
  (hK : ∀ (t : Tal) (nums losses : List Int) cv co nuv lov o1 o2 o3 o4 g k' s',TruthOk G C t nums losses → OwnE (h.length + 1 + rest.length) g 2 (t.changes.flatMap Rng.cells) t.changes.length cv o1 → OwnE (h.length + 1 + rest.length) g 4 (t.counts.flatMap Cnt.cells) t.counts.length co o2 →
   OwnE (h.length + 1 + rest.length) g 1 (nums.map vint) nums.length nuv o3 → OwnE (h.length + 1 + rest.length) g 1 (losses.map vint) losses.length lov o4 → (∀ i,o1 = some i → o2 ≠ some i) → k' ≤ k + 100 → (0 ≤ s' ∧ s' < 18446744073709551616) → K (.tuple ⟨[.agg ⟨talCells t cv co⟩,nuv,lov]⟩) (HF h nv k' s' rest ++ g)) :
  Good prog J 5 [ptr h.length 0,vint G,vint C] (HF h nv k s rest) K := by
 refine g5 hJ fun ok => ?_
 rw [e5]
 have h0 : HF h nv k s rest = HF h nv k s rest ++ [] := by simp
 rw [h0]
 refine nAl (minI ?_)
 rw [show min G 5 = G from by omega]
 refine amo hJ hn hs (by omega) (by omega) (by omega) fun gt k1 s1 g1 g2 hk1 hs1 => ?_
 refine up hJ hn hs1 (by omega) (by omega) fun x k2 s2 x1 x2 hk2 hs2 => ?_
 refine ⟨by decide,fill1 rfl rfl (by decide) (fill1 rfl rfl (by simp [zrep]) (fill1 rfl rfl (by simp [zrep]) (fillI (nNew ?_))))⟩
 refine ofl hJ hn hs2 (by omega) (others := [1,2,x]) (n := 3) rfl (by omega) fun mo k3 s3 m1 hk3 hs3 => ?_
 have mo4 : 0 ≤ mo ∧ mo ≤ 4 := by
  rcases m1 with rfl | m1
  ·omega
  ·simp at m1
   omega
 refine fill1 rfl rfl (by decide) (fill1 rfl rfl (by simp) (fillI (nAl ?_)))
 refine nStA last_get rfl rfl rfl ?_
 rw [last_set]
 refine amo hJ hn hs3 (by omega) (by omega) (by omega) fun lo k4 s4 l1 l2 hk4 hs4 => ?_
 refine offI (offI (nSt last_get (by simp) rfl rfl ?_))
 rw [last_set]
 refine ⟨[2].map fun i => h.length + 1 + rest.length + i,?_⟩
 refine offI (offI (nLd last_get rfl rfl ⟨nRd (by simp),?_⟩))
 refine up hJ hn hs4 (by omega) (by omega) fun a k5 s5 a1 a2 hk5 hs5 => ?_
 refine ⟨nSame (by simp),?_⟩
 refine up hJ hn hs5 (by omega) (by omega) fun b k6 s6 b1 b2 hk6 hs6 => ?_
 refine ⟨nSame (by simp),?_⟩
 refine ⟨by decide,fill1 rfl rfl (by decide) (fill1 rfl rfl (by simp [zrep]) (fillI (nNew ⟨nSame (by simp),?_⟩)))⟩
 refine ofl hJ hn hs6 (by omega) (others := [a,b]) (n := 2) rfl (by omega) fun w k7 s7 w1 hk7 hs7 => ?_
 have w6 : 0 ≤ w ∧ w ≤ 6 := by
  rcases w1 with rfl | w1
  ·omega
  ·simp at w1
   omega
 refine ⟨nSame (by simp),addI (by omega) (offI (offI (nSt (i := 2) rfl (by simp) rfl rfl ?_)))⟩
 refine offI (offI (nLd (i := 2) rfl rfl rfl (offI (offI (nLd (i := 2) rfl rfl rfl ?_)))))
 refine amo hJ hn hs7 (by omega) (by omega) (by omega) fun now k8 s8 n1 n2 hk8 hs8 => ?_
 refine ⟨by decide,fill1 rfl rfl (by decide) (fillI (nNew ?_))⟩
 -- the ranges
 have kk : k8 ≤ k + 8 := by omega
 clear hk1 hk2 hk3 hk4 hk5 hk6 hk7 hk8 hs1 hs2 hs3 hs4 hs5 hs6 hs7
 refine l5_1 hJ (fun j : Nat => 5 - j) (fun j f h' => ∃ k1 s1 g L nums losses cv nuv lov o1 o3 o4,h' = HF h nv k1 s1 rest ++ g ∧ (0 ≤ s1 ∧ s1 < 18446744073709551616) ∧ k1 ≤ k + 20 + 4 * j ∧ S1 h rest g C gt lo w mo L nums losses cv nuv lov o1 o3 o4 j f) ?_ (s := 0)
  (.inl ⟨k8,s8,_,[],[now],[],_,_,_,none,some 4,none,rfl,hs8,by omega,⟨ownE_nil,ownE_nil,⟨rfl,rfl,.inr ⟨4,1,0,rfl,rfl,rfl,.inr rfl⟩⟩,ownE_nil,by simp,by simp,by simp,by simp,by simp,by simp,by simp,by simp,by simp,by simp,by simp⟩,rfl,rfl,
   ⟨rfl,rfl,by dsimp only; omega,mo4,by simp,by simp only [List.getD_cons_zero]; omega,fun i hi => absurd hi (by simp)⟩,rfl,by omega,by omega,rfl,rfl,rfl,rfl,rfl,rfl,rfl,rfl,rfl⟩)
 rintro j f _ ⟨k1,t1,g,L,nums,losses,cv,nuv,lov,o1,o3,o4,rfl,ht1,hkj,S⟩ ok' hn'
 have hj4 : j ≤ 4 := by
  have := S.jg
  have := S.g5
  omega
 refine rnd1 hJ hn ht1 (by omega) S (fun hlt k5 t5 g3 L' nums' losses' v1 v2 v3 o1' o3' o4' f' q1 q2 q3 => ⟨j + 1,by dsimp only; omega,.inl ⟨_,_,_,_,_,_,_,_,_,_,_,_,rfl,q2,by omega,q3⟩⟩) ?_ hC
 intro hjg k2 t2 m f' hk2 ht2 m1 m2 m3 hds hr r16
 have hl := S.lj
 have chn := S.chn
 have numl := chn.numl
 dsimp only at numl
 obtain ⟨i3,c3,sz3,rfl,hnuv,b3,c3'⟩ : ∃ i3 c3 sz3,o3 = some i3 ∧ nuv = .slice (some ⟨h.length + 1 + rest.length + i3,0,none⟩) nums.length c3 ∧ g[i3]? = some (.cells (nums.map vint) true sz3) ∧ ((c3 = fz ∧ sz3 = 1) ∨ c3 = nums.length) := by
  rcases S.bt.nu.2.2 with ⟨x,_⟩ | x
  ·omega
  ·exact x
 subst hnuv
 refine l5_2 hJ (fun i : Nat => i) (fun i f h' => ∃ k1 s1 g Cs cov o2,h' = HF h nv k1 s1 rest ++ g ∧ (0 ≤ s1 ∧ s1 < 18446744073709551616) ∧ k1 + 7 * i ≤ k + 99 ∧ S2 h rest g C gt lo w mo L Cs nums losses cv cov lov i3 c3 o1 o2 o4 i f) ?_ (s := m.toNat)
  (.inl ⟨_,_,_,[],_,none,rfl,ht2,by omega,S.bt,S.z0,S.t2,by simp,by simp; omega,hds,by rw [hr 0 (by omega),S.r0],by rw [hr 6 (by omega),S.r6],by rw [hr 9 (by omega),S.r9],by rw [hr 11 (by omega),S.r11],by rw [hr 12 (by omega),S.r12],by rw [r16]; congr 1; omega⟩)
 clear b3 c3'
 rintro i f _ ⟨k3,t3,g,Cs,cov,o2,rfl,ht3,hk3,S'⟩ ok' hn'
 have hjg' := S.g5
 refine rnd2 hJ hn ht3 (by omega) S' (by omega) (by omega) (by omega) (fun q hq => ?_) (fun hlt k5 t5 g3 Cs' v1 o2' f' q1 q2 q3 => ⟨i - 1,by dsimp only; omega,.inl ⟨_,_,_,_,_,_,rfl,q2,by omega,q3⟩⟩) ?_
 ·have := chn.bd q (by dsimp only; omega)
  omega
 ·intro hi0 g' B'
  have few := S'.few
  refine hK ⟨gt,⟨lo,lo + w⟩,L,mo,Cs⟩ nums losses cv cov _ lov o1 o2 _ o4 g' _ _ ⟨by dsimp only; omega,by dsimp only; omega,?_,by dsimp only; omega,S'.co⟩ B'.ch B'.co B'.nu B'.lo B'.d12 (by omega) ht3
  exact ⟨chn.numl,chn.losl,chn.first,chn.most,chn.ch,chn.zero,chn.step⟩
end
structure TalOk (G C : Int) (t : Tal) : Prop where
 gates : 1 ≤ t.gates ∧ t.gates ≤ G
 chl : (t.changes.length : Int) = t.gates - 1
 first : 30 ≤ t.first.lo ∧ t.first.lo ≤ 60 ∧ t.first.lo ≤ t.first.hi ∧ t.first.hi ≤ t.first.lo + 6
 most : 0 ≤ t.most ∧ t.most ≤ 4
 ch : ∀ r ∈ t.changes,-3 ≤ r.lo ∧ r.lo ≤ 2 ∧ r.lo ≤ r.hi ∧ r.hi ≤ r.lo + 2
 few : (t.counts.length : Int) ≤ C
 co : ∀ c ∈ t.counts,(0 ≤ c.gate ∧ c.gate < t.gates) ∧ (1 ≤ c.man ∧ c.man ≤ 4) ∧ (0 ≤ c.err ∧ c.err ≤ 20) ∧ (0 ≤ c.num ∧ c.num ≤ 200)
theorem firstE_zero {l : List Int} (h : ∀ e ∈ l,e = 0) : firstE l = 0 := by
 induction l with
 | nil => rfl
 | cons a l ih =>
  unfold firstE
  rw [if_neg (by simpa using h a (by simp))]
  exact ih fun e he => h e (by simp [he])
theorem TalOk.err {G C : Int} {t : Tal} (h : TalOk G C t) (hG : G ≤ 5) (hC : C ≤ 7) : talErr t = 0 := by
 have h1 := h.gates
 have h2 := h.chl
 have h3 := h.first
 have h4 := h.most
 have h5 := h.few
 have hr : rngErr 0 300 t.first = 0 := by
  unfold rngErr
  rw [if_neg (by omega),if_neg (by omega)]
 have hc : firstE (t.changes.map (rngErr (-60) 60)) = 0 := firstE_zero fun e he => by
  obtain ⟨r,hr,rfl⟩ := List.mem_map.1 he
  have := h.ch r hr
  unfold rngErr
  rw [if_neg (by omega),if_neg (by omega)]
 unfold talErr
 rw [if_neg (by omega),if_neg (by omega),if_neg (by omega),if_neg (by omega),if_neg (by omega),if_neg (by omega),if_neg (by omega)]
 refine firstE_zero fun e he => ?_
 obtain ⟨c,hc,rfl⟩ := List.mem_map.1 he
 obtain ⟨a,b,c,d⟩ := h.co c hc
 unfold cntErr
 rw [if_neg (by omega),if_neg (by omega)]
theorem TruthOk.num {G C : Int} {t : Tal} {nums losses : List Int} (h : TruthOk G C t nums losses) (hG : G ≤ 5) (c : Cnt) (hc : c ∈ t.counts) : 0 ≤ c.num ∧ c.num ≤ 150 := by
 obtain ⟨a,b,d,e⟩ := h.co c hc
 have h1 := h.gates
 have h2 := h.chl
 have := h.chain.bd c.gate.toNat (by omega)
 have mb := mul_bd d.1 d.2 (b := nums.getD c.gate.toNat 0) (B := 100) (by omega) (by omega)
 generalize hE : nums.getD c.gate.toNat 0 = E at *
 have d0 : 0 ≤ c.err * E / 100 := Int.ediv_nonneg (by omega) (by omega)
 have d1 : c.err * E / 100 ≤ 20 := by
  have : c.err * E / 100 ≤ 2000 / 100 := Int.ediv_le_ediv (by omega) (by omega)
  omega
 have m2 := mul_bd (a := 20 - c.err) (A := 20) (by omega) (by omega) (b := E) (B := 100) (by omega) (by omega)
 have e2 : c.err * E / 100 ≤ E / 5 := by
  have h3 : c.err * E ≤ 20 * E := by
   have : (20 - c.err) * E = 20 * E - c.err * E := Int.sub_mul _ _ _
   omega
  have : c.err * E / 100 ≤ 20 * E / 100 := Int.ediv_le_ediv (by omega) h3
  omega
 omega
theorem TruthOk.tal {G C : Int} {t : Tal} {nums losses : List Int} (h : TruthOk G C t nums losses) (hG : G ≤ 5) : TalOk G C t where
 gates := h.gates
 chl := h.chl
 first := h.chain.first
 most := h.chain.most
 ch := h.chain.ch
 few := h.few
 co := fun c hc => by
  obtain ⟨a,b,d,e⟩ := h.co c hc
  have := h.num hG c hc
  exact ⟨a,b,d,by omega,by omega⟩
def Rng.meet (a b : Rng) : Rng := ⟨max a.lo b.lo,min a.hi b.hi⟩
def Rng.plus (a b : Rng) : Rng := ⟨a.lo + b.lo,a.hi + b.hi⟩
def Rng.turn (a : Rng) : Rng := ⟨-a.hi,-a.lo⟩
def rd (c : Cnt) : Rng := ⟨rdLo c,rdHi c⟩
def Rng.sm (a : Rng) (B : Int) : Prop := (-B ≤ a.lo ∧ a.lo ≤ B) ∧ (-B ≤ a.hi ∧ a.hi ≤ B)
def keepB (u : Int) (i : Nat) : Bool := decide (IntKind.u64.wrap (BitVec.ofInt 64 (u.fdiv (2 ^ min i 64)) &&& BitVec.ofInt 64 1).toNat = 0)
def limCells (L : Nat → Rng) : List Value := [vint (L 0).lo,vint (L 0).hi,vint (L 1).lo,vint (L 1).hi,vint (L 2).lo,vint (L 2).hi,vint (L 3).lo,vint (L 3).hi,vint (L 4).lo,vint (L 4).hi]
def updR (L : Nat → Rng) (i : Nat) (r : Rng) : Nat → Rng := fun g => if g = i then r else L g
def limN (u : Int) (cs : List Cnt) : Nat → Nat → Rng
 | 0 => fun _ => ⟨0,600⟩
 | i + 1 => match cs[i]? with
  | some c => bif keepB u i then updR (limN u cs i) c.gate.toNat ((limN u cs i c.gate.toNat).meet (rd c)) else limN u cs i
  | none => limN u cs i
theorem keep_zero (i : Nat) : keepB 0 i = true := by
 unfold keepB
 have : Int.fdiv 0 (2 ^ min i 64) = 0 := Int.zero_fdiv _
 rw [this]
 rfl
theorem lim_congr {L L' : Nat → Rng} (h : ∀ g,g < 5 → L g = L' g) : limCells L = limCells L' := by
 unfold limCells
 rw [h 0 (by omega),h 1 (by omega),h 2 (by omega),h 3 (by omega),h 4 (by omega)]
theorem lim_set (L : Nat → Rng) (r : Rng) : ∀ i : Nat,i < 5 → ((limCells L).set (0 + i * 2) (vint r.lo)).set (0 + i * 2 + 1) (vint r.hi) = limCells (updR L i r)
 | 0,_ => rfl
 | 1,_ => rfl
 | 2,_ => rfl
 | 3,_ => rfl
 | 4,_ => rfl
 | _ + 5,h => absurd h (by omega)
theorem lim_get (L : Nat → Rng) : ∀ i : Nat,i < 5 → ((limCells L).drop (0 + i * 2)).take 2 = (L i).cells
 | 0,_ => rfl
 | 1,_ => rfl
 | 2,_ => rfl
 | 3,_ => rfl
 | 4,_ => rfl
 | _ + 5,h => absurd h (by omega)
section
variable {main : Bool} {J : JT} {h A g : List AObj} {K : Value → List AObj → Prop} {KV : Value → Prop} {HL : List AObj → Prop} {n0 : Nat}
theorem bAl {l : List Value} (hk : K (ptr (A.length + g.length) 0) (A ++ (g ++ [.cells l true 0]))) : aAlloc l (A ++ g) K := by
 unfold aAlloc
 rw [List.length_append,List.append_assoc]
 exact hk
theorem bBox {l : List Value} (h1 : l.all one = true) (hk : K (ptr (A.length + g.length) 0) (A ++ (g ++ [.cells l true 0]))) : aBox (.agg ⟨l⟩) (A ++ g) K := by
 refine box_agg h1 ?_
 rw [List.length_append,List.append_assoc]
 exact hk
theorem bLd {i o : Nat} {c : List Value} {wr : Bool} {sz : Nat} {v : Value} (hb : g[i]? = some (.cells c wr sz)) (hv : c[o]? = some v) (hn : kn1 v = true) (hk : KV v) : aLoad false 1 (ptr (A.length + i) o) (A ++ g) KV :=
 ldI (by rw [back_get]; exact hb) hv hn hk
theorem bLdA {i o n : Nat} {cs c : List Value} {wr : Bool} {sz : Nat} (hb : g[i]? = some (.cells cs wr sz)) (hl : o + n ≤ cs.length) (hc : (cs.drop o).take n = c) (hn : kn c = true) (hk : KV (.agg ⟨c⟩)) : aLoad true n (ptr (A.length + i) o) (A ++ g) KV :=
 load_part (by rw [back_get]; exact hb) hl hc hn hk
theorem bStA {i n : Nat} {cs c : List Value} {sz : Nat} (hb : g[i]? = some (.cells cs true sz)) (hl : c.length = n) (hs : cs.length = n) (h1 : c.all one = true) (hk : HL (A ++ g.set i (.cells c true sz))) : aStore n (ptr (A.length + i) 0) (.agg ⟨c⟩) (A ++ g) HL := by
 refine store_agg (by rw [back_get]; exact hb) hl hs h1 ?_
 rw [back_set]
 exact hk
theorem bSt2 {i o : Nat} {c : List Value} {sz : Nat} {x y : Value} (hb : g[i]? = some (.cells c true sz)) (ho : o + 2 ≤ c.length) (h1 : one x = true) (h2 : one y = true) (hk : HL (A ++ g.set i (.cells ((c.set o x).set (o + 1) y) true sz))) : aStore 2 (ptr (A.length + i) o) (.agg ⟨[x,y]⟩) (A ++ g) HL := by
 unfold aStore ptr
 simp only
 rw [back_get,hb]
 simp only [Value.cells,List.toList_toArray]
 refine ⟨rfl,by simp [h1,h2],ho,?_⟩
 rw [back_set]
 exact hk
theorem bRd {i o : Nat} {is : List Nat} (hi : i ∈ is) : RdOk (some (is.map fun i => A.length + i)) (ptrBlk (ptr (A.length + i) o)) := List.mem_map.2 ⟨i,hi,rfl⟩
theorem app_nil' : h = h ++ [] := by simp
theorem ret_agg {rs : List ResultVar} {f : RG} {i n t : Nat} {c : List Value} {wr : Bool} {sz x : Nat} (ds : f.ds = []) (ok : heapOk h) (hn : n0 ≤ h.length) (hrs : rs = [.cell x t]) (ht : tk prog t = some (true,n)) (hr : f.r x = ptr (h.length + i) 0) (hb : g[i]? = some (.cells c wr sz)) (hl : c.length = n) (hkn : kn c = true)
  (hv : VOk h.length (.agg ⟨c⟩)) (hk : K (.agg ⟨c⟩) h) : RetQ prog rs n0 K .ret f (h ++ g) := by
 subst hrs
 refine retQ_drop ds ok hn (resW_cell (gg := true) (s := n) ht ?_)
 rw [hr]
 refine bLdA (c := c) hb (by omega) (by rw [List.drop_zero,List.take_of_length_le (by omega)]) hkn (resW_nil ⟨hv,hk⟩)
theorem good34 (hJ : Closed prog main J) {r : Rng} (hr : r.sm 1000000) (hK : K r.turn.val h) : Good prog J 34 [r.val] h K := by
 refine g34 hJ fun ok => ?_
 rw [e34]
 unfold Rng.val Rng.cells
 obtain ⟨h1,h2⟩ := hr
 rw [app_nil' (h := h)]
 refine bBox rfl (bAl (offI (bLd (i := 0) rfl rfl rfl (negI (by omega) (offI (bLd (i := 0) rfl rfl rfl (negI (by omega) ?_)))))))
 refine fill1 rfl rfl (by decide) (fill1 rfl rfl (by simp) (fillI (bStA (i := 1) rfl rfl rfl rfl ?_)))
 rw [List.append_nil]
 exact ret_agg (i := 1) rfl (by simpa using ok) (Nat.le_refl _) rfl (by kernel_rfl) rfl rfl rfl rfl (by simp [VOk,AOk,LOk]) hK
theorem good35 (hJ : Closed prog main J) {r q : Rng} (hK : K (r.meet q).val h) : Good prog J 35 [r.val,q.val] h K := by
 refine g35 hJ fun ok => ?_
 rw [e35]
 unfold Rng.val Rng.cells
 rw [app_nil' (h := h)]
 refine bBox rfl (bBox rfl (bAl (offI (bLd (i := 0) rfl rfl rfl (offI (bLd (i := 1) rfl rfl rfl (maxI ?_)))))))
 refine offI (bLd (i := 0) rfl rfl rfl (offI (bLd (i := 1) rfl rfl rfl (minI ?_))))
 refine fill1 rfl rfl (by decide) (fill1 rfl rfl (by simp) (fillI (bStA (i := 2) rfl rfl rfl rfl ?_)))
 rw [List.append_nil]
 exact ret_agg (i := 2) rfl (by simpa using ok) (Nat.le_refl _) rfl (by kernel_rfl) rfl rfl rfl rfl (by simp [VOk,AOk,LOk]) hK
theorem good36 (hJ : Closed prog main J) {r q : Rng} (hr : r.sm 1000000) (hq : q.sm 1000000) (hK : K (r.plus q).val h) : Good prog J 36 [r.val,q.val] h K := by
 refine g36 hJ fun ok => ?_
 rw [e36]
 unfold Rng.val Rng.cells
 obtain ⟨h1,h2⟩ := hr
 obtain ⟨h3,h4⟩ := hq
 rw [app_nil' (h := h)]
 refine bBox rfl (bBox rfl (bAl (offI (bLd (i := 0) rfl rfl rfl (offI (bLd (i := 1) rfl rfl rfl (addI (by omega) ?_)))))))
 refine offI (bLd (i := 0) rfl rfl rfl (offI (bLd (i := 1) rfl rfl rfl (addI (by omega) ?_))))
 refine fill1 rfl rfl (by decide) (fill1 rfl rfl (by simp) (fillI (bStA (i := 2) rfl rfl rfl rfl ?_)))
 rw [List.append_nil]
 exact ret_agg (i := 2) rfl (by simpa using ok) (Nat.le_refl _) rfl (by kernel_rfl) rfl rfl rfl rfl (by simp [VOk,AOk,LOk]) hK
theorem good48 (hJ : Closed prog main J) {r : Rng} (hK : K (.bool (decide (r.lo > r.hi))) h) : Good prog J 48 [r.val] h K := by
 refine g48 hJ fun ok => ?_
 rw [e48]
 unfold Rng.val Rng.cells
 refine box_agg rfl ?_
 have hb : (h ++ [AObj.cells [vint r.lo,vint r.hi] true 0])[h.length]? = some (.cells [vint r.lo,vint r.hi] true 0) := by simp
 refine offI (ldI hb rfl rfl (offI (ldI hb rfl rfl (gtrI ?_))))
 exact retL_drop ok (Nat.le_refl _) (by simp [unk]) (by simp [pack,VOk]) hK
structure WorkAt (h : List AObj) (b : Nat) (t : Tal) (cv nv : Value) (u : Int) (m : Value) : Prop where
 at_ : h[b]? = some (.cells (talCells t cv nv ++ [.int .u64 u,m]) true 0)
 ch : SliE h cv 2 Rng.cells t.changes
 co : SliE h nv 4 Cnt.cells t.counts
theorem WorkAt.app {b : Nat} {t : Tal} {cv nv : Value} {u : Int} {m : Value} (w : WorkAt h b t cv nv u m) : WorkAt (h ++ g) b t cv nv u m := ⟨get_app w.at_,sliE_app w.ch,sliE_app w.co⟩
theorem WorkAt.kc {b : Nat} {t : Tal} {cv nv : Value} {u : Int} {m : Value} (w : WorkAt h b t cv nv u m) : kn1 cv = true ∧ kn1 nv = true := ⟨(sli_one w.ch).2.2,(sli_one w.co).2.2⟩
def stretchR (t : Tal) (g : Nat) : Rng := ((t.changes[g]?).getD ⟨0,0⟩).plus ⟨-t.most,0⟩
theorem good37 (hJ : Closed prog main J) {b i : Nat} {t : Tal} {cv nv : Value} {u : Int} {m : Value} (w : WorkAt h b t cv nv u m) (hi : i < t.changes.length) (hr : t.changes[i].sm 1000) (hm : 0 ≤ t.most ∧ t.most ≤ 1000) (hK : K (stretchR t i).val h) : Good prog J 37 [ptr b 0,vint i] h K := by
 refine g37 hJ fun ok => ?_
 rw [e37]
 obtain ⟨b2,o,cs,wr,sz,hidx,hb,hle,hpart,hkn⟩ := sliE_elem rng_len (by omega) (w.app (g := [.cells [vint 0,vint 0] true 0])).ch hi
 have wa := (w.app (g := [.cells [vint 0,vint 0] true 0])).at_
 unfold aAlloc
 refine ⟨[b,b2],nilI (offI (offI (ldI wa rfl w.kc.1 ⟨by simp [RdOk,ptrBlk,ptr],?_⟩)))⟩
 refine hidx _ (load_part hb hle hpart hkn ⟨by simp [RdOk,ptrBlk,ptr],?_⟩)
 refine nilI (offI (offI (ldI (v := vint t.most) wa rfl rfl ⟨by simp [RdOk,ptrBlk,ptr],negI (by omega) ?_⟩)))
 refine fill1 rfl rfl (by decide) (fill1 rfl rfl (by simp) (fillI ?_))
 obtain ⟨q1,q2⟩ := hr
 refine good36 hJ (r := t.changes[i]) (q := ⟨-t.most,0⟩) ⟨by omega,by omega⟩ ⟨by dsimp only; omega,by dsimp only; omega⟩ ?_
 refine ⟨fun _ _ => rfl,?_⟩
 refine store_agg (cs := [vint 0,vint 0]) (sz := 0) (by simp) rfl rfl rfl ?_
 rw [show ∀ (l : List AObj) (x y : AObj),(l ++ [x]).set l.length y = l ++ [y] from fun l x y => by simp]
 have e : stretchR t i = t.changes[i].plus ⟨-t.most,0⟩ := by
  unfold stretchR
  rw [List.getElem?_eq_getElem hi]
  rfl
 rw [e] at hK
 exact ret_agg (i := 0) (g := [_]) rfl ok (Nat.le_refl _) rfl (by kernel_rfl) rfl rfl rfl rfl (by simp [VOk,AOk,LOk,Rng.plus,Rng.cells]) hK
theorem u_shrI {u : Int} {i : Nat} {t : TypeId} (hk : KV (.int .u64 (u.fdiv (2 ^ min i 64)))) : aBin prog .shr t (.int .u64 u) (.int .u64 i) KV := ⟨by omega,hk⟩
theorem u_andI {a b : Int} {t : TypeId} (hk : KV (.int .u64 (IntKind.u64.wrap (BitVec.ofInt 64 a &&& BitVec.ofInt 64 b).toNat))) : aBin prog .and t (.int .u64 a) (.int .u64 b) KV := ⟨rfl,hk⟩
theorem wrapU_id {n : Int} (h1 : 0 ≤ n) (h2 : n < 18446744073709551616) : IntKind.u64.wrap n = n := by
 simp only [IntKind.wrap,IntKind.bits,IntKind.signed]
 simp
 omega
theorem idxAI {s len b o : Nat} {j : Int} (h1 : 0 ≤ j ∧ j < len) (hk : KV (ptr b (o + j.toNat * s))) : aIdxA len s (ptr b o) (vint j) KV := ⟨h1,hk⟩
theorem convI {n : Int} (h1 : 0 ≤ n) (h2 : n < 18446744073709551616) (hk : KV (.int .u64 n)) : aConvI .u64 (vint n) KV := by
 show KV (.int .u64 (IntKind.u64.wrap n))
 rw [wrapU_id h1 h2]
 exact hk
theorem eqlU {a b : Int} {t : TypeId} (hk : KV (.bool (decide (a = b)))) : aBin prog .eql t (.int .u64 a) (.int .u64 b) KV := by rw [b_eql]; exact hk
theorem lim_len (L : Nat → Rng) : (limCells L).length = 10 := rfl
theorem lim_kn (L : Nat → Rng) : kn (limCells L) = true := rfl
theorem lim_ok (L : Nat → Rng) (n : Nat) : VOk n (.agg ⟨limCells L⟩) := by simp [VOk,AOk,LOk,limCells]
def CoSm (cs : List Cnt) : Prop := cs.length ≤ 100 ∧ ∀ c ∈ cs,(0 ≤ c.gate ∧ c.gate < 5) ∧ (0 ≤ c.num ∧ c.num ≤ 300) ∧ (0 ≤ c.err ∧ c.err ≤ 20)
theorem limN_step {u : Int} {cs : List Cnt} {i : Nat} (hi : i < cs.length) : limN u cs (i + 1) = bif keepB u i then updR (limN u cs i) cs[i].gate.toNat ((limN u cs i cs[i].gate.toNat).meet (rd cs[i])) else limN u cs i := by
 show (match cs[i]? with
  | some c => bif keepB u i then updR (limN u cs i) c.gate.toNat ((limN u cs i c.gate.toNat).meet (rd c)) else limN u cs i
  | none => limN u cs i) = _
 rw [List.getElem?_eq_getElem hi]
theorem good33 (hJ : Closed prog main J) {b : Nat} {t : Tal} {cv nv : Value} {u : Int} {m : Value} (w : WorkAt h b t cv nv u m) (hc : CoSm t.counts) (hK : K (.agg ⟨limCells (limN u t.counts t.counts.length)⟩) h) : Good prog J 33 [ptr b 0] h K := by
 refine g33 hJ fun ok => ?_
 rw [e33]
 have e0 : W prog J 46 h.length 33 (codeOf f33) = W prog J 46 h.length 33 (codeOf f33) := rfl
 unfold aAlloc
 refine l33_1 hJ (fun i : Nat => 5 - i) (fun i f h' => ∃ L,h' = h ++ [.cells [vint 0,vint 0,vint 0,vint 0,vint 0,vint 0,vint 0,vint 0,vint 0,vint 0] true 0,.cells (limCells L) true 0] ∧ i ≤ 5 ∧ (∀ g,g < i → L g = ⟨0,600⟩) ∧
   f.ds = [] ∧ f.r 0 = ptr b 0 ∧ f.r 2 = ptr (h.length + 0) 0 ∧ f.r 3 = ptr (h.length + 1) 0 ∧ f.r 7 = vint (i : Nat)) ?_ (s := 0)
  (.inl ⟨fun _ => ⟨0,0⟩,by simp [limCells],by omega,by simp,rfl,rfl,rfl,by show ptr (h ++ [_]).length 0 = _; simp,rfl⟩)
 rintro i f _ ⟨L,rfl,hi,hL,hds,r0,r2,r3,r7⟩ ok' hn'
 rw [s33_1]
 simp only [r0,r2,r3,r7]
 refine lssI (cndI (fun hlt => ?_) fun hge => ?_)
 ·refine fill1 rfl rfl (by decide) (fill1 rfl rfl (by simp) (fillI (idxAI ⟨by omega,by omega⟩ ?_)))
  refine bSt2 (i := 1) rfl (by rw [lim_len]; omega) rfl rfl (addI (by omega) ?_)
  refine ⟨i + 1,by dsimp only; omega,.inl ⟨updR L i ⟨0,600⟩,?_,by omega,fun g hg => ?_,hds,r0,r2,r3,rfl⟩⟩
  ·rw [Int.toNat_natCast,lim_set L ⟨0,600⟩ i (by omega)]
   rfl
  ·unfold updR
   split
   ·rfl
   ·exact hL g (by omega)
 ·have hL0 : limCells L = limCells (limN u t.counts 0) := lim_congr fun g hg => hL g (by omega)
  rw [hL0]
  clear hL0 hL
  have wa := w.app (g := [.cells [vint 0,vint 0,vint 0,vint 0,vint 0,vint 0,vint 0,vint 0,vint 0,vint 0] true 0,.cells (limCells (limN u t.counts 0)) true 0])
  refine nilI (offI (offI (ldI wa.at_ rfl w.kc.2 (lenI wa.co ?_))))
  refine l33_2 hJ (fun i : Nat => 100 - i) (fun i f h' => ∃ g,h' = h ++ g ∧ i ≤ t.counts.length ∧ g[0]? = some (.cells [vint 0,vint 0,vint 0,vint 0,vint 0,vint 0,vint 0,vint 0,vint 0,vint 0] true 0) ∧ g[1]? = some (.cells (limCells (limN u t.counts i)) true 0) ∧
   f.ds = [] ∧ f.r 0 = ptr b 0 ∧ f.r 2 = ptr (h.length + 0) 0 ∧ f.r 3 = ptr (h.length + 1) 0 ∧ f.r 18 = nv ∧ f.r 19 = vint t.counts.length ∧ f.r 20 = vint (i : Nat)) ?_ (s := 0)
   (.inl ⟨_,rfl,by omega,rfl,rfl,hds,r0,r2,r3,rfl,rfl,rfl⟩)
  clear wa ok'
  rintro i f _ ⟨g,rfl,hi,z0,z1,hds,r0,r2,r3,r18,r19,r20⟩ ok' hn'
  have hl1 : 1 < g.length := (List.getElem?_eq_some_iff.1 z1).1
  have hc100 := hc.1
  rw [s33_2]
  simp only [r0,r2,r3,r18,r19,r20]
  refine lssI (cndI (fun hlt => ?_) fun hge => ?_)
  ·have hil : i < t.counts.length := by omega
   obtain ⟨c1,c2,c3⟩ := hc.2 t.counts[i] (List.getElem_mem _)
   have hstep := limN_step (u := u) hil
   obtain ⟨b2,o,cs,wr,sz,hidx,hb,hle,hpart,hkn⟩ := sliE_elem cnt_len (by omega) (sliE_app (g := g) w.co) hil
   generalize t.counts[i] = c at *
   refine hidx _ (load_part hb hle hpart hkn (bAl (bStA last_get rfl rfl rfl ?_)))
   rw [last_set]
   refine nilI (offI (ldI (v := .int .u64 u) (w.app (g := g ++ [.cells c.cells true 0])).at_ rfl rfl ?_))
   refine convI (by omega) (by omega) (u_shrI (u_andI (eqlU (cnd_bool.2 ⟨fun hkp => ?_,fun hkp => ?_⟩))))
   ·have hkp' : keepB u i = true := hkp
    have hga : c.gate.toNat < 5 := by omega
    refine ⟨[g.length,1].map fun i => h.length + i,?_⟩
    refine offI (bLd (v := vint c.gate) last_get rfl rfl ⟨bRd (by simp),offI (bLd (v := vint c.gate) last_get rfl rfl ⟨bRd (by simp),idxAI (by omega) ?_⟩)⟩)
    refine bLdA (c := (limN u t.counts i c.gate.toNat).cells) (get_app z1) (by rw [lim_len]; omega) (lim_get _ _ hga) rfl ⟨bRd (by simp),?_⟩
    refine bLdA (c := c.cells) last_get (by rw [cnt_len]; omega) rfl rfl ⟨bRd (by simp),?_⟩
    refine good50 hJ (c := c) c2 c3 ⟨fun _ _ => rfl,?_⟩
    refine good35 hJ (r := limN u t.counts i c.gate.toNat) (q := rd c) ⟨fun _ _ => rfl,idxAI (by omega) ?_⟩
    refine bSt2 (get_app z1) (by rw [lim_len]; omega) rfl rfl (addI (by omega) ?_)
    refine ⟨i + 1,by dsimp only; omega,.inl ⟨_,rfl,by omega,get_set (get_app z0) (by omega),?_,hds,r0,r2,r3,r18,r19,rfl⟩⟩
    rw [List.getElem?_set_self (by simp; omega),hstep,hkp']
    have := lim_set (limN u t.counts i) ((limN u t.counts i c.gate.toNat).meet (rd c)) _ hga
    rw [← cond_true (updR _ _ _)] at this
    exact congrArg (fun l => some (AObj.cells l true 0)) this
   ·have hkp' : keepB u i = false := hkp
    refine addI (by omega) ⟨i + 1,by dsimp only; omega,.inl ⟨_,rfl,by omega,get_app z0,?_,hds,r0,r2,r3,r18,r19,rfl⟩⟩
    rw [hstep,hkp']
    exact get_app z1
  ·refine bLdA (c := limCells (limN u t.counts i)) z1 (by rw [lim_len]; omega) rfl (lim_kn _) ?_
   have : i = t.counts.length := by omega
   subst this
   refine bStA z0 rfl rfl rfl ?_
   exact ret_agg (i := 0) hds ok (Nat.le_refl _) rfl (by kernel_rfl) r2 (List.getElem?_set_self (by omega)) rfl rfl (lim_ok _ _) hK
end
theorem lo_le {c : Cnt} (h2 : 0 ≤ c.err ∧ c.err ≤ 20) {n : Int} : rdLo c ≤ n ↔ 100 * c.num ≤ 100 * n + c.err * n := by
 unfold rdLo
 have e : (n + 1) * (100 + c.err) = 100 * n + c.err * n + 100 + c.err := by
  rw [Int.add_mul,Int.mul_add,Int.mul_comm n 100,Int.mul_comm n c.err]
  omega
 have := Int.ediv_lt_iff_lt_mul (a := 100 * c.num + 99 + c.err) (b := n + 1) (c := 100 + c.err) (by omega)
 rw [e] at this
 omega
theorem le_hi {c : Cnt} (h2 : 0 ≤ c.err ∧ c.err ≤ 20) {n : Int} : n ≤ rdHi c ↔ 100 * n - c.err * n ≤ 100 * c.num := by
 unfold rdHi
 have e : n * (100 - c.err) = 100 * n - c.err * n := by
  rw [Int.mul_sub,Int.mul_comm n 100,Int.mul_comm n c.err]
 rw [Int.le_ediv_iff_mul_le (by omega),e]
theorem rd_facts {c : Cnt} (h1 : 0 ≤ c.num ∧ c.num ≤ 300) (h2 : 0 ≤ c.err ∧ c.err ≤ 20) : rdLo c ≤ c.num ∧ c.num ≤ rdHi c ∧ 0 ≤ rdLo c ∧ rdHi c < 400 := by
 have m := mul_bd h2.1 h2.2 h1.1 h1.2
 refine ⟨(lo_le h2).2 (by omega),(le_hi h2).2 (by omega),Int.ediv_nonneg (by omega) (by omega),?_⟩
 refine Int.ediv_lt_of_lt_mul (by omega) ?_
 omega
def SameX (X : List Nat) (h H : List AObj) : Prop := h.length ≤ H.length ∧ ∀ i,i < h.length → i ∉ X → H[i]? = h[i]?
theorem SameX.refl {X : List Nat} {h : List AObj} : SameX X h h := ⟨Nat.le_refl _,fun _ _ _ => rfl⟩
theorem SameX.trans {X : List Nat} {h H H' : List AObj} (a : SameX X h H) (b : SameX X H H') : SameX X h H' :=
 ⟨Nat.le_trans a.1 b.1,fun i hi hx => by rw [b.2 i (Nat.lt_of_lt_of_le hi a.1) hx,a.2 i hi hx]⟩
theorem SameX.app {X : List Nat} {h H g : List AObj} (a : SameX X h H) : SameX X h (H ++ g) :=
 ⟨by have := a.1; simp; omega,fun i hi hx => by rw [List.getElem?_append_left (Nat.lt_of_lt_of_le hi a.1),a.2 i hi hx]⟩
theorem SameX.set {X : List Nat} {h H : List AObj} {i : Nat} {o : AObj} (a : SameX X h H) (hi : i ∈ X ∨ h.length ≤ i) : SameX X h (H.set i o) :=
 ⟨by have := a.1; simp; omega,fun j hj hx => by
  rw [List.getElem?_set,if_neg,a.2 j hj hx]
  rintro rfl
  rcases hi with hi | hi
  ·exact hx hi
  ·omega⟩
theorem SameX.get {X : List Nat} {h H : List AObj} {i : Nat} {o : AObj} (a : SameX X h H) (hx : h[i]? = some o) (hi : i ∉ X) : H[i]? = some o := by
 rw [a.2 i (List.getElem?_eq_some_iff.1 hx).1 hi,hx]
theorem SameX.pre {X : List Nat} {h0 g H : List AObj} (a : SameX X (h0 ++ g) H) (hX : ∀ x ∈ X,h0.length ≤ x) : ∃ g',H = h0 ++ g' := by
 refine ⟨H.drop h0.length,?_⟩
 have : H.take h0.length = h0 := by
  apply List.ext_getElem?
  intro i
  rw [List.getElem?_take]
  split
  ·rename_i hi
   rw [a.2 i (by simp; omega) (fun hx => by have := hX i hx; omega),List.getElem?_append_left hi]
  ·rename_i hi
   rw [List.getElem?_eq_none (by omega)]
 conv => lhs; rw [← List.take_append_drop h0.length H,this]
structure WorkIn (h0 H : List AObj) (b : Nat) (t : Tal) (cv nv : Value) (u : Int) (m : Value) : Prop where
 at_ : H[b]? = some (.cells (talCells t cv nv ++ [.int .u64 u,m]) true 0)
 pre : ∃ g,H = h0 ++ g
 ch : SliE h0 cv 2 Rng.cells t.changes
 co : SliE h0 nv 4 Cnt.cells t.counts
theorem WorkIn.work {h0 H : List AObj} {b : Nat} {t : Tal} {cv nv : Value} {u : Int} {m : Value} (w : WorkIn h0 H b t cv nv u m) : WorkAt H b t cv nv u m := by
 obtain ⟨a,⟨g,rfl⟩,c,d⟩ := w
 exact ⟨a,sliE_app c,sliE_app d⟩
theorem WorkIn.same {h0 h H : List AObj} {b : Nat} {t : Tal} {cv nv : Value} {u : Int} {m : Value} {X : List Nat} (w : WorkIn h0 h b t cv nv u m) (s : SameX X h H) (hX : ∀ x ∈ X,h0.length ≤ x) (hb : b ∉ X) : WorkIn h0 H b t cv nv u m := by
 obtain ⟨a,⟨g,rfl⟩,c,d⟩ := w
 exact ⟨s.get a hb,s.pre hX,c,d⟩
structure TalFine (t : Tal) : Prop where
 gates : 1 ≤ t.gates ∧ t.gates ≤ 5
 chl : (t.changes.length : Int) = t.gates - 1
 first : 0 ≤ t.first.lo ∧ t.first.lo ≤ t.first.hi ∧ t.first.hi ≤ 300
 ch : ∀ r ∈ t.changes,-60 ≤ r.lo ∧ r.lo ≤ r.hi ∧ r.hi ≤ 60
 most : 0 ≤ t.most ∧ t.most ≤ 60
 few : t.counts.length ≤ 7
 co : ∀ c ∈ t.counts,(0 ≤ c.gate ∧ c.gate < t.gates) ∧ (1 ≤ c.man ∧ c.man ≤ 9) ∧ (0 ≤ c.num ∧ c.num ≤ 300) ∧ (0 ≤ c.err ∧ c.err ≤ 20)
theorem firstE_all {l : List Int} (h : firstE l = 0) : ∀ e ∈ l,e = 0 := by
 induction l with
 | nil => simp
 | cons a l ih =>
  unfold firstE at h
  split at h
  ·omega
  ·rename_i ha
   intro e he
   rcases List.mem_cons.1 he with rfl | he
   ·omega
   ·exact ih h e he
theorem rngErr_zero {lo hi : Int} {r : Rng} (h : rngErr lo hi r = 0) : lo ≤ r.lo ∧ r.lo ≤ r.hi ∧ r.hi ≤ hi := by
 unfold rngErr at h
 split at h
 ·omega
 ·split at h
  ·omega
  ·omega
theorem cntErr_zero {c : Cnt} {g : Int} (h : cntErr c g = 0) : (0 ≤ c.gate ∧ c.gate < g) ∧ (1 ≤ c.man ∧ c.man ≤ 9) ∧ (0 ≤ c.num ∧ c.num ≤ 300) ∧ (0 ≤ c.err ∧ c.err ≤ 20) := by
 unfold cntErr at h
 split at h
 ·omega
 ·split at h
  ·omega
  ·omega
theorem talErr_fine {t : Tal} (h : talErr t = 0) : TalFine t := by
 unfold talErr at h
 split at h
 ·omega
 split at h
 ·contradiction
 split at h
 ·omega
 split at h
 ·omega
 split at h
 ·contradiction
 split at h
 ·omega
 split at h
 ·omega
 rename_i h1 h2 h3 h4 h5 h6 h7
 have h2' := rngErr_zero (by omega : rngErr 0 300 t.first = 0)
 refine ⟨by omega,by omega,h2',fun r hr => rngErr_zero (firstE_all (by omega : firstE (t.changes.map (rngErr (-60) 60)) = 0) _ (List.mem_map.2 ⟨r,hr,rfl⟩)),by omega,by omega,fun c hc => ?_⟩
 exact cntErr_zero (firstE_all h _ (List.mem_map.2 ⟨c,hc,rfl⟩))
theorem TalFine.cosm {t : Tal} (h : TalFine t) : CoSm t.counts := ⟨by have := h.few; omega,fun c hc => by
 obtain ⟨a,b,d,e⟩ := h.co c hc
 have := h.gates
 exact ⟨by omega,d,e⟩⟩
def fwd (t : Tal) (L : Nat → Rng) : Nat → Rng
 | 0 => t.first.meet (L 0)
 | g + 1 => ((fwd t L g).plus (stretchR t g)).meet (L (g + 1))
theorem Rng.sm_meet {a b : Rng} {B : Int} (h1 : a.sm B) (h2 : b.sm B) : (a.meet b).sm B := by
 obtain ⟨⟨_,_⟩,_,_⟩ := h1
 obtain ⟨⟨_,_⟩,_,_⟩ := h2
 unfold Rng.meet Rng.sm
 dsimp only
 omega
theorem Rng.sm_plus {a b : Rng} {B C : Int} (h1 : a.sm B) (h2 : b.sm C) : (a.plus b).sm (B + C) := by
 obtain ⟨⟨_,_⟩,_,_⟩ := h1
 obtain ⟨⟨_,_⟩,_,_⟩ := h2
 unfold Rng.plus Rng.sm
 dsimp only
 omega
theorem Rng.sm_le {a : Rng} {B C : Int} (h1 : a.sm B) (h : B ≤ C) : a.sm C := by
 obtain ⟨⟨_,_⟩,_,_⟩ := h1
 unfold Rng.sm
 omega
theorem Rng.sm_turn {a : Rng} {B : Int} (h1 : a.sm B) : a.turn.sm B := by
 obtain ⟨⟨_,_⟩,_,_⟩ := h1
 unfold Rng.turn Rng.sm
 dsimp only
 omega
theorem stretch_sm {t : Tal} (h : TalFine t) (g : Nat) : (stretchR t g).sm 1000 := by
 have h1 := h.most
 unfold stretchR
 cases e : t.changes[g]? with
 | none =>
  unfold Rng.plus Rng.sm
  dsimp only [Option.getD]
  omega
 | some r =>
  have := h.ch r (List.mem_of_getElem? e)
  unfold Rng.plus Rng.sm
  dsimp only [Option.getD]
  omega
theorem fwd_sm {t : Tal} (h : TalFine t) {L : Nat → Rng} (hL : ∀ g,(L g).sm 1000) : ∀ g : Nat,(fwd t L g).sm (1000 + 1000 * g)
 | 0 => by
  have := h.first
  exact Rng.sm_le (B := 1000) (Rng.sm_meet ⟨by omega,by omega⟩ (hL 0)) (by omega)
 | g + 1 => by
  refine Rng.sm_meet ?_ (Rng.sm_le (hL (g + 1)) (by omega))
  exact Rng.sm_le (Rng.sm_plus (fwd_sm h hL g) (stretch_sm h g)) (by omega)
theorem rd_sm {c : Cnt} (h1 : 0 ≤ c.num ∧ c.num ≤ 300) (h2 : 0 ≤ c.err ∧ c.err ≤ 20) : (rd c).sm 1000 := by
 obtain ⟨a,b,d,e⟩ := rd_facts h1 h2
 unfold rd Rng.sm
 dsimp only
 omega
theorem limN_sm {u : Int} {cs : List Cnt} (hc : ∀ c ∈ cs,(0 ≤ c.num ∧ c.num ≤ 300) ∧ (0 ≤ c.err ∧ c.err ≤ 20)) : ∀ i g : Nat,(limN u cs i g).sm 1000
 | 0,g => by
  show Rng.sm ⟨0,600⟩ 1000
  unfold Rng.sm
  dsimp only
  omega
 | i + 1,g => by
  have ih := limN_sm (u := u) hc i
  show Rng.sm ((match cs[i]? with
   | some c => bif keepB u i then updR (limN u cs i) c.gate.toNat ((limN u cs i c.gate.toNat).meet (rd c)) else limN u cs i
   | none => limN u cs i) g) 1000
  cases e : cs[i]? with
  | none => exact ih g
  | some c =>
   have := hc c (List.mem_of_getElem? e)
   cases keepB u i with
   | false => exact ih g
   | true =>
    show Rng.sm (updR _ _ _ g) 1000
    unfold updR
    split
    ·exact Rng.sm_meet (ih _) (rd_sm this.1 this.2)
    ·exact ih g
section
variable {main : Bool} {J : JT} {h h0 : List AObj} {K : Value → List AObj → Prop}
theorem tail111 (hJ : Closed prog main J) {p b2 i : Nat} {H : List AObj} {nw : Rng} {L : Nat → Rng} {Y : Value} {sz : Nat} {wr : Bool} (hp : H[p]? = some (.cells nw.cells true 0)) (hb2 : H[b2]? = some (.cells (limCells L) wr sz)) (hi : i < 5)
  {Kc : Value → Value → Value → Value → Value → Value → List AObj → Prop}
  (hk : callV prog (Good prog J) Y [vint i,(nw.meet (L i)).val] (H.set p (.cells (nw.meet (L i)).cells true 0)) (Kc nw.val (ptr b2 (0 + i * 2)) (L i).val (nw.meet (L i)).val (nw.meet (L i)).val)) :
  aLoad true 2 (ptr p 0) H fun v11 => aIdxA 5 2 (ptr b2 0) (vint i) fun v12 => aLoad true 2 v12 H fun v13 => Good prog J 35 [v11,v13] H fun v14 h15 => aStore 2 (ptr p 0) v14 h15 fun h16 => aLoad true 2 (ptr p 0) h16 fun v17 => callV prog (Good prog J) Y [vint i,v17] h16 (Kc v11 v12 v13 v14 v17) := by
 refine load_part hp (by simp [Rng.cells]) rfl rfl (idxAI ⟨by omega,by omega⟩ ?_)
 rw [Int.toNat_natCast]
 refine load_part hb2 (by rw [lim_len]; omega) (lim_get L i hi) rfl ?_
 refine good35 hJ (r := nw) (q := L i) ?_
 refine store_agg hp rfl rfl rfl ?_
 exact load_part (c := (nw.meet (L i)).cells) (List.getElem?_set_self (List.getElem?_eq_some_iff.1 hp).1) (by simp [Rng.cells]) rfl rfl hk
theorem good49 (hJ : Closed prog main J) {Y : Value} {b1 b2 bw : Nat} {X : List Nat} {I Stop : Nat → List AObj → Prop} {t : Tal} {L : Nat → Rng} {cv nv : Value} {u : Int} {m : Value} {wr1 wr2 : Bool} {s1 s2 : Nat}
  (w : WorkIn h0 h bw t cv nv u m) (fine : TalFine t) (hL : ∀ g,(L g).sm 1000) (hX : ∀ x ∈ X,h0.length ≤ x ∧ x < h.length) (hb1 : h[b1]? = some (.cells [ptr bw 0] wr1 s1)) (hb2 : h[b2]? = some (.cells (limCells L) wr2 s2)) (n1 : b1 ∉ X) (n2 : b2 ∉ X) (n3 : bw ∉ X)
  (stable : ∀ g H H',(∀ x ∈ X,H'[x]? = H[x]?) → I g H → I g H') (hI : I 0 h)
  (call : ∀ (g : Nat) H (Q : Value → List AObj → Prop),(g : Int) < t.gates → SameX X h H → I g H → (∀ H',SameX X H H' → I (g + 1) H' → Q (.bool true) H') → (∀ H',SameX X H H' → Stop g H' → Q (.bool false) H') → callV prog (Good prog J) Y [vint g,(fwd t L g).val] H Q)
  (fin : ∀ H,SameX X h H → I t.gates.toNat H → K (pack []) H) (stop : ∀ (g : Nat) H,(g : Int) < t.gates → SameX X h H → Stop g H → K (pack []) H) : Good prog J 49 [Y,ptr b1 0,ptr b2 0] h K := by
 refine g49 hJ fun ok => ?_
 rw [e49]
 have hX0 : ∀ x ∈ X,h0.length ≤ x := fun x hx => (hX x hx).1
 have hp : h.length ∉ X := fun hx => by have := (hX _ hx).2; omega
 have hg := fine.gates
 refine ldI hb1 rfl rfl (nilI (offI (offI (load_part (c := t.first.cells) w.at_ (by simp [talCells]) rfl rfl ?_))))
 unfold aAlloc
 refine store_agg (cs := [vint 0,vint 0]) (sz := 0) (by simp) rfl rfl rfl ?_
 rw [show ∀ (l : List AObj) (x y : AObj),(l ++ [x]).set l.length y = l ++ [y] from fun l x y => by simp]
 refine ldI (get_app hb1) rfl rfl (nilI (offI (offI (ldI (v := vint t.gates) (get_app w.at_) rfl rfl ?_))))
 refine l49_1 hJ (fun i : Nat => 5 - i) (fun i f H => ∃ nw,SameX X h H ∧ H[h.length]? = some (.cells (Rng.cells nw) true 0) ∧ (i = 0 → nw = t.first) ∧ (∀ j,i = j + 1 → nw = fwd t L j) ∧ I i H ∧ (i : Int) ≤ t.gates ∧
   f.ds = [] ∧ f.r 0 = Y ∧ f.r 1 = ptr b1 0 ∧ f.r 2 = ptr b2 0 ∧ f.r 4 = ptr h.length 0 ∧ f.r 15 = vint t.gates ∧ f.r 16 = vint (i : Nat)) ?_ (s := 0)
  (.inl ⟨t.first,SameX.refl.app,by simp,fun _ => rfl,fun j hj => (by omega),stable 0 h _ (fun x hx => List.getElem?_append_left (hX x hx).2) hI,by omega,rfl,rfl,rfl,rfl,rfl,rfl,rfl⟩)
 rintro i f H ⟨nw,S,hnow,z,sc,hIi,hi,hds,r0,r1,r2,r4,r15,r16⟩ ok' hn'
 rw [s49_1]
 simp only [r0,r1,r2,r4,r15,r16,hds]
 -- the end of a round
 have post : ∀ (nw' : Rng) (H1 : List AObj) (Q : Value → List AObj → Prop),(i : Int) < t.gates → SameX X h H1 → H1[h.length]? = some (.cells nw'.cells true 0) → I i H1 → nw'.meet (L i) = fwd t L i →
   (∀ H',SameX X h H' → H'[h.length]? = some (.cells (fwd t L i).cells true 0) → I (i + 1) H' → Q (.bool true) H') → (∀ H',SameX X h H' → Stop i H' → Q (.bool false) H') →
   callV prog (Good prog J) Y [vint i,(nw'.meet (L i)).val] (H1.set h.length (.cells (nw'.meet (L i)).cells true 0)) Q := by
  intro nw' H1 Q hlt S1 hn1 hI1 hm hq1 hq2
  have S2 : SameX X h (H1.set h.length (.cells (nw'.meet (L i)).cells true 0)) := S1.set (.inr (Nat.le_refl _))
  have hlen : h.length < H1.length := (List.getElem?_eq_some_iff.1 hn1).1
  rw [hm] at S2 ⊢
  refine call i _ Q hlt S2 (stable i H1 _ (fun x hx => ?_) hI1) (fun H' S' hI' => hq1 H' (S2.trans S') ?_ hI') (fun H' S' hs => hq2 H' (S2.trans S') hs)
  ·rw [List.getElem?_set,if_neg]
   have := (hX x hx).2
   omega
  ·rw [S'.2 h.length (by simpa using hlen) hp]
   exact List.getElem?_set_self hlen
 refine lssI (cndI (fun hlt => gtrI (cndI (fun hpos => ?_) fun h0' => ?_)) fun hge => ?_)
 ·obtain ⟨j,rfl⟩ : ∃ j,i = j + 1 := ⟨i - 1,by omega⟩
  have enw := sc j rfl
  subst enw
  have wH := w.same S hX0 n3
  have hch := fine.chl
  have hj : j < t.changes.length := by omega
  refine ⟨[h.length,b1],load_part (c := (fwd t L j).cells) hnow (by simp [Rng.cells]) rfl rfl ⟨by simp [RdOk,ptrBlk,ptr],ldI (S.get hb1 n1) rfl rfl ⟨by simp [RdOk,ptrBlk,ptr],subI (by omega) ?_⟩⟩⟩
  rw [show ((j + 1 : Nat) : Int) - 1 = (j : Nat) from by omega]
  refine good37 hJ wH.work hj ?_ (by have := fine.most; omega) ⟨fun _ _ => rfl,?_⟩
  ·have := fine.ch _ (List.getElem_mem hj)
   unfold Rng.sm
   omega
  refine good36 hJ (r := fwd t L j) (q := stretchR t j) (Rng.sm_le (fwd_sm fine hL j) (by omega)) (Rng.sm_le (stretch_sm fine j) (by omega)) ⟨fun _ _ => rfl,?_⟩
  refine store_agg hnow rfl rfl rfl ?_
  have hlen : h.length < H.length := (List.getElem?_eq_some_iff.1 hnow).1
  have S1 : SameX X h (H.set h.length (.cells ((fwd t L j).plus (stretchR t j)).cells true 0)) := S.set (.inr (Nat.le_refl _))
  have hn1 : (H.set h.length (.cells ((fwd t L j).plus (stretchR t j)).cells true 0))[h.length]? = some (.cells ((fwd t L j).plus (stretchR t j)).cells true 0) := List.getElem?_set_self hlen
  refine tail111 hJ (nw := (fwd t L j).plus (stretchR t j)) hn1 (S1.get hb2 n2) (by omega) ?_
  refine post _ _ _ hlt S1 hn1 (stable _ H _ (fun x hx => ?_) hIi) rfl (fun H' S' hn' hI' => notI (cnd_false.2 (addI (by omega) ?_))) (fun H' S' hs => notI (cnd_true.2 (retL_same (by simp) (stop _ H' hlt S' hs))))
  ·rw [List.getElem?_set,if_neg]
   have := (hX x hx).2
   omega
  ·exact ⟨j + 1 + 1,by dsimp only; omega,.inl ⟨_,S',hn',fun e => (by omega),fun q hq => (by cases hq; rfl),hI',by omega,hds,r0,r1,r2,r4,r15,rfl⟩⟩
 ·have hi0 : i = 0 := by omega
  subst hi0
  have enw := z rfl
  subst enw
  refine tail111 hJ (nw := t.first) hnow (S.get hb2 n2) (by omega) ?_
  refine post _ _ _ hlt S hnow hIi rfl (fun H' S' hn' hI' => notI (cnd_false.2 (addI (by omega) ?_))) (fun H' S' hs => notI (cnd_true.2 (retL_same (by simp) (stop _ H' hlt S' hs))))
  exact ⟨0 + 1,by dsimp only; omega,.inl ⟨_,S',hn',fun e => (by omega),fun q hq => (by cases hq; rfl),hI',by omega,hds,r0,r1,r2,r4,r15,rfl⟩⟩
 ·have : i = t.gates.toNat := by omega
  subst this
  exact retL_same (by simp) (fin H S hIi)
end
def TruthIs (t : Tal) (L : Nat → Rng) : Prop := ∀ g : Nat,(g : Int) < t.gates → (fwd t L g).lo ≤ (fwd t L g).hi
noncomputable instance (t : Tal) (L : Nat → Rng) : Decidable (TruthIs t L) := Classical.propDecidable _
section
variable {main : Bool} {J : JT} {h h0 : List AObj} {K : Value → List AObj → Prop} {KV : Value → Prop} {HL : List AObj → Prop}
theorem lim_key (L : Nat → Rng) : kOk prog 10000 104 (.agg ⟨limCells L⟩) = true := by kernel_rfl
theorem look_none {b : Nat} {es : List (Value × Value)} {wr : Bool} {L : Nat → Rng} (hb : h[b]? = some (.map es wr)) (hf : mfind prog 104 (.agg ⟨limCells L⟩) es = some none) (hk : KV (.tuple ⟨[.bool false,.bool false]⟩)) : aLook prog 97 true (.map (some b)) (.agg ⟨limCells L⟩) h KV := by
 have e1 : prog.underlying 97 = some (.map 104 4) := by kernel_rfl
 have e2 : zv1 prog 4 = some (.bool false) := by kernel_rfl
 unfold aLook
 rw [e1]
 simp only
 rw [hb,e2]
 simp only
 rw [hf]
 exact ⟨lim_key L,hk⟩
theorem look_some {b : Nat} {es : List (Value × Value)} {wr : Bool} {L : Nat → Rng} {v : Value} (hb : h[b]? = some (.map es wr)) (hf : mfind prog 104 (.agg ⟨limCells L⟩) es = some (some v)) (hk : KV (.tuple ⟨[v,.bool true]⟩)) : aLook prog 97 true (.map (some b)) (.agg ⟨limCells L⟩) h KV := by
 have e1 : prog.underlying 97 = some (.map 104 4) := by kernel_rfl
 have e2 : zv1 prog 4 = some (.bool false) := by kernel_rfl
 unfold aLook
 rw [e1]
 simp only
 rw [hb,e2]
 simp only
 rw [hf]
 exact ⟨lim_key L,hk⟩
theorem upd_none {b : Nat} {es : List (Value × Value)} {L : Nat → Rng} {v : Value} (hb : h[b]? = some (.map es true)) (hf : mfind prog 104 (.agg ⟨limCells L⟩) es = some none) (hk : HL (h.set b (.map (es ++ [(.agg ⟨limCells L⟩,v)]) true))) : aUpd prog 97 (.map (some b)) (.agg ⟨limCells L⟩) v h HL := by
 have e1 : prog.underlying 97 = some (.map 104 4) := by kernel_rfl
 unfold aUpd
 rw [e1]
 simp only
 rw [hb]
 exact ⟨lim_key L,lim_ok L 0,hf,hk⟩
theorem retL_def {n0 n : Nat} {vs : List Value} (hd : h[n]? = some .deferred) (hv : ∀ v ∈ vs,v ≠ unk) (hk : K (pack vs) (h.set n .dead)) : retL n0 K [n] vs h := by
 have := retL_same (n0 := n0) (H := K) hv hk
 unfold retL at *
 exact ⟨hd,this⟩
theorem good32 (hJ : Closed prog main J) {b : Nat} {L : Nat → Rng} (hK : K (.func (.func 49) ⟨[]⟩ ⟨[ptr h.length 0,ptr (h.length + 1) 0]⟩) (h ++ [.cells [ptr b 0] true 0,.cells (limCells L) true 0])) : Good prog J 32 [ptr b 0,.agg ⟨limCells L⟩] h K := by
 refine g32 hJ fun ok => ?_
 rw [e32]
 refine box_one rfl rfl (box_agg rfl ?_)
 refine ⟨rfl,retL_same (by simp [unk]) ?_⟩
 simpa [pack] using hK
theorem WorkIn.setU {b : Nat} {t : Tal} {cv nv : Value} {u u' : Int} {m : Value} (w : WorkIn h0 h b t cv nv u m) (hb : h0.length ≤ b) : WorkIn h0 (h.set b (.cells (talCells t cv nv ++ [.int .u64 u',m]) true 0)) b t cv nv u' m := by
 obtain ⟨a,⟨g,rfl⟩,c,d⟩ := w
 refine ⟨List.getElem?_set_self (List.getElem?_eq_some_iff.1 a).1,?_,c,d⟩
 rw [List.set_append_right _ _ hb]
 exact ⟨_,rfl⟩
noncomputable abbrev lp31 (st : LoopState) (pend : Option Code) (r : Nat → Value) (d : Nat) : AObj := .loop st pend 31 r 43 #[31,32] (subC [1,0,1,1,1,1,1,0,1,0,0] (codeOf f31)) (subC [1,0,1,1,1,1,1,0,1,0,1] (codeOf f31)) d
theorem endQ_normal {n : Nat} {f : RG} {Q : QT} {v : Value} {st : LoopState} {fn : FuncId} {r : Nat → Value} {size : Nat} {params : Array Tmp} {assign body : Code} {dfr : Nat} (hl : h[n + 1]? = some (.loop st none fn r size params assign body dfr)) (hs : st ≠ .busy) (hq : Q .normal ⟨f.r,n :: f.ds⟩ (h.set (n + 1) .dead)) : endQ n f Q v h :=
 ⟨st,none,_,_,_,_,_,_,_,hl,hs,hq⟩
theorem endQ_exit {n id : Nat} {f : RG} {Q : QT} {v : Value} {st : LoopState} {fn : FuncId} {r : Nat → Value} {size : Nat} {params : Array Tmp} {assign body : Code} {dfr : Nat} (hl : h[n + 1]? = some (.loop st (some (.exit id)) fn r size params assign body dfr)) (hs : st ≠ .busy) (hq : Q (.exit id) ⟨f.r,n :: f.ds⟩ (h.set (n + 1) .dead)) : endQ n f Q v h :=
 ⟨st,some (.exit id),_,_,_,_,_,_,_,hl,hs,hq⟩
theorem app2_get1 {a b : AObj} : (h ++ [a,b])[h.length + 1]? = some b := by simp
theorem round74 (hJ : Closed prog main J) {H : List AObj} {l p2 d g : Nat} {r : Nat → Value} {s : Rng} {Q : Value → List AObj → Prop} (hl : H[l]? = some (lp31 .ready none r d))
  (r8 : r 8 = ptr p2 0) (hp : H[p2]? = some (.cells [.bool true] true 0)) (hne : p2 ≠ l)
  (h1 : ∀ H',SameX [l,p2] H H' → s.lo ≤ s.hi → H'[l]? = some (lp31 .ready none r d) → H'[p2]? = some (.cells [.bool true] true 0) → Q (.bool true) H')
  (h2 : ∀ H',SameX [l,p2] H H' → ¬ s.lo ≤ s.hi → H'[l]? = some (lp31 .done (some (.exit 0)) r d) → H'[p2]? = some (.cells [.bool false] true 0) → Q (.bool false) H') :
  callV prog (Good prog J) (.func (.yield l) ⟨[]⟩ ⟨[]⟩) [vint g,s.val] H Q := by
 show Good prog J (yid prog l) [vint g,s.val] H Q
 have hll : l < H.length := (List.getElem?_eq_some_iff.1 hl).1
 have hpl : p2 < H.length := (List.getElem?_eq_some_iff.1 hp).1
 refine good_round hJ hl rfl (by decide) fun ok => W_sound hJ mixed _ ?_
 rw [a31_1]
 unfold aAlloc
 refine store_agg (c := s.cells) (cs := [vint 0,vint 0]) (sz := 0) (by simp) rfl rfl rfl ?_
 rw [show ∀ (l : List AObj) (x y : AObj),(l ++ [x]).set l.length y = l ++ [y] from fun l x y => by simp]
 refine ⟨rfl,none,_,_,_,_,_,_,_,get_app hl,W_sound hJ mixed _ ?_⟩
 have hll' : l < (H ++ [AObj.cells s.cells true 0]).length := by simp; omega
 rw [b31_1]
 refine load_part (c := s.cells) (cs := s.cells) (wr := true) (sz := 0) (b := H.length) (get_set (by simp) (by omega)) (by simp [Rng.cells]) rfl rfl ?_
 refine good48 hJ (cndI (fun hgt => ?_) fun hle => ?_)
 ·have hp' : ((H ++ [AObj.cells s.cells true 0]).set l (lp31 .busy none r d))[p2]? = some (.cells [.bool true] true 0) := get_set (get_app hp) hne
  show aStore 1 (r 8) _ _ _
  rw [r8]
  refine store_cell hp' (by simp) rfl rfl ?_
  refine ⟨.busy,none,_,_,_,_,_,_,_,get_set (List.getElem?_set_self hll') (Ne.symm hne),.inl (h2 _ ?_ (by omega) (List.getElem?_set_self (by simpa using hll')) ?_)⟩
  ·exact ((SameX.refl.app.set (.inl (by simp))).set (.inl (by simp))).set (.inl (by simp))
  ·exact get_set (List.getElem?_set_self (by simp; omega)) hne
 ·refine ⟨.busy,none,_,_,_,_,_,_,_,List.getElem?_set_self hll',.inl (h1 _ ?_ (by omega) (List.getElem?_set_self (by simpa using hll')) ?_)⟩
  ·exact (SameX.refl.app.set (.inl (by simp))).set (.inl (by simp))
  ·exact get_set (get_set (get_app hp) hne) hne
theorem range74 (hJ : Closed prog main J) {n0 p1 p2 b1 b2 bw bm : Nat} {t : Tal} {L : Nat → Rng} {cv nv : Value} {u : Int} {es : List (Value × Value)} {f : RG} (w : WorkIn h0 h bw t cv nv u (.map (some bm))) (fine : TalFine t) (hL : ∀ g,(L g).sm 1000)
  (hm : h[bm]? = some (.map es true)) (hf : mfind prog 104 (.agg ⟨limCells L⟩) es = some none) (q1 : h[p1]? = some (.cells (limCells L) true 0)) (q2 : h[p2]? = some (.cells [.bool true] true 0)) (q3 : h[b1]? = some (.cells [ptr bw 0] true 0)) (q4 : h[b2]? = some (.cells (limCells L) true 0))
  (d1 : p1 ≠ p2) (d2 : p2 ≠ b1) (d3 : p2 ≠ b2) (d4 : p2 ≠ bw) (d5 : p2 ≠ bm) (hp2 : h0.length ≤ p2) (hbm : h0.length ≤ bm)
  (ds : f.ds = []) (r0 : f.r 0 = ptr bw 0) (r5 : f.r 5 = ptr p1 0) (r8 : f.r 8 = ptr p2 0) (r30 : f.r 30 = .func (.func 49) ⟨[]⟩ ⟨[ptr b1 0,ptr b2 0]⟩)
  (hK : ∀ H,SameX [p2,bm] h H → H[bm]? = some (.map (es ++ [(.agg ⟨limCells L⟩,.bool (decide (TruthIs t L)))]) true) → K (.bool (decide (TruthIs t L))) H) :
  Sem J 43 n0 31 (subC [1,0,1,1,1,1,1,0,1,0] (codeOf f31)) f h (contQ prog J 43 n0 31 [1,0,1,1,1,1,1,0,1,0] (codeOf f31) [] (RetQ prog [.tmp 4] n0 K)) := by
 have hlen : ∀ {i o},h[i]? = some o → i < h.length := fun hx => (List.getElem?_eq_some_iff.1 hx).1
 have l1 := hlen q1
 have l2 := hlen q2
 have l3 := hlen q3
 have l4 := hlen q4
 have lw := hlen w.at_
 have lm := hlen hm
 refine l31_1 hJ (first := []) (cap := [ptr b1 0,ptr b2 0]) r30 (by decide) ?_
 have hpre : h0.length ≤ h.length := by
  obtain ⟨g,rfl⟩ := w.pre
  simp
 have S0 : SameX [h.length + 1,p2] h (h ++ [AObj.deferred] ++ [lp31 .ready none f.r h.length]) := SameX.refl.app.app
 -- what is asked behind the loop
 have post : ∀ (H : List AObj) (b : Bool),b = decide (TruthIs t L) → SameX [h.length + 1,p2] (h ++ [AObj.deferred] ++ [lp31 .ready none f.r h.length]) H → H[p2]? = some (.cells [.bool b] true 0) →
   (aNil (f.r 0) fun v1 => aOff v1 7 fun v2 => aLoad false 1 v2 (H.set (h.length + 1) .dead) fun v3 => aLoad true 10 (f.r 5) (H.set (h.length + 1) .dead) fun v4 => aLoad false 1 (f.r 8) (H.set (h.length + 1) .dead) fun v5 =>
    ((VOk (H.set (h.length + 1) .dead).length v5 ∧ one v5 = true) ∧ aUpd prog 97 v3 v4 v5 (H.set (h.length + 1) .dead) fun h6 => aLoad false 1 (f.r 8) h6 fun v7 => retL n0 K [h.length] [v7] h6)) := by
  intro H b hb S hH
  have S1 := S0.trans S
  have hd : H[h.length]? = some .deferred := S.get (by simp) (by simp; omega)
  have S2 : SameX [h.length + 1,p2] h (H.set (h.length + 1) .dead) := S1.set (.inl (by simp))
  rw [r0,r5,r8]
  refine nilI (offI (ldI (v := .map (some bm)) (S2.get w.at_ (by simp; omega)) rfl rfl ?_))
  refine load_part (c := limCells L) (S2.get q1 (by simp; omega)) (by rw [lim_len]; omega) rfl rfl ?_
  have hH2 : (H.set (h.length + 1) AObj.dead)[p2]? = some (.cells [.bool b] true 0) := get_set hH (by omega)
  refine ldI hH2 rfl rfl ⟨⟨by simp [VOk],rfl⟩,upd_none (S2.get hm (by simp; omega)) hf ?_⟩
  refine ldI (v := .bool b) (get_set hH2 d5) rfl rfl (retL_def ?_ (by simp [unk]) ?_)
  ·exact get_set (get_set hd (by omega)) (by omega)
  have hml : bm < (H.set (h.length + 1) AObj.dead).length := by have := S2.1; omega
  rw [hb]
  refine hK _ ?_ ?_
  ·have : SameX [p2,bm] h (H.set (h.length + 1) .dead) := ⟨S2.1,fun i hi hx => S2.2 i hi (by simp at hx ⊢; omega)⟩
   exact (this.set (.inl (by simp))).set (.inr (Nat.le_refl _))
  ·exact get_set (List.getElem?_set_self hml) (by omega)
 have hIl : (h ++ [AObj.deferred] ++ [lp31 .ready none f.r h.length])[h.length + 1]? = some (lp31 .ready none f.r h.length) := by
  rw [List.append_assoc]
  exact app2_get1
 have hsl : (h ++ [AObj.deferred] ++ [lp31 .ready none f.r h.length]).length = h.length + 2 := by simp
 have fin : ∀ (H : List AObj) (b : Bool),b = decide (TruthIs t L) → SameX [h.length + 1,p2] (h ++ [AObj.deferred] ++ [lp31 .ready none f.r h.length]) H → H[p2]? = some (.cells [.bool b] true 0) → (H[h.length + 1]? = some (lp31 .ready none f.r h.length) ∨ H[h.length + 1]? = some (lp31 .done (some (.exit 0)) f.r h.length)) →
   endQ h.length f (contQ prog J 43 n0 31 [1,0,1,1,1,1,1,0,1,0] (codeOf f31) [] (RetQ prog [.tmp 4] n0 K)) (pack []) H := by
  intro H b hb S hH hl
  have := post H b hb S hH
  rcases hl with hl | hl
  ·refine endQ_normal hl (by simp) ?_
   rw [c31_1,ds]
   exact this
  ·refine endQ_exit hl (by simp) ?_
   rw [c31_1x0,ds]
   exact this
 have hX : ∀ x ∈ [h.length + 1,p2],h0.length ≤ x ∧ x < (h ++ [AObj.deferred] ++ [lp31 .ready none f.r h.length]).length := by
  rw [hsl]
  simp
  omega
 refine good49 hJ (h0 := h0) (X := [h.length + 1,p2]) (L := L) (t := t) (I := fun g H => H[h.length + 1]? = some (lp31 .ready none f.r h.length) ∧ H[p2]? = some (.cells [.bool true] true 0) ∧ ∀ j,j < g → (fwd t L j).lo ≤ (fwd t L j).hi)
  (Stop := fun g H => H[h.length + 1]? = some (lp31 .done (some (.exit 0)) f.r h.length) ∧ H[p2]? = some (.cells [.bool false] true 0) ∧ ¬ (fwd t L g).lo ≤ (fwd t L g).hi)
  (w.same S0 (fun x hx => (hX x hx).1) (by simp; omega)) fine hL hX (S0.get q3 (by simp; omega)) (S0.get q4 (by simp; omega)) (by simp; omega) (by simp; omega) (by simp; omega) (fun g H H' hx hI => ?_) ⟨hIl,get_app (get_app q2),by simp⟩ (fun g H Q hg S hI k1 k2 => ?_) (fun H S hI => ?_) (fun g H hg S hI => ?_)
 ·rw [hx _ (by simp),hx _ (by simp)]
  exact hI
 ·refine round74 hJ hI.1 r8 hI.2.1 (by omega) (fun H' S' hs a b => k1 H' S' ⟨a,b,fun j hj => ?_⟩) (fun H' S' hs a b => k2 H' S' ⟨a,b,hs⟩)
  rcases Nat.lt_or_ge j g with x | x
  ·exact hI.2.2 j x
  ·have : j = g := by omega
   subst this
   exact hs
 ·refine fin H true ?_ S hI.2.1 (.inl hI.1)
  rw [eq_comm,decide_eq_true_eq]
  intro g hg
  exact hI.2.2 g (by omega)
 ·refine fin H false ?_ S hI.2.1 (.inr hI.1)
  rw [eq_comm,decide_eq_false_iff_not]
  intro hT
  exact hI.2.2 (hT g hg)
theorem teq_span (a b c d : Int) : teq prog 9999 80 (.agg ⟨[vint a,vint b]⟩) (.agg ⟨[vint c,vint d]⟩) =
 (match some (a == c) with
 | some true => (match some (b == d) with
  | some true => some true
  | some false => some false
  | none => none)
 | some false => some false
 | none => none) := by kernel_rfl
theorem teq_lim (L L' : Nat → Rng) : teq prog 10000 104 (.agg ⟨limCells L⟩) (.agg ⟨limCells L'⟩) =
 (match teq prog 9999 80 (.agg ⟨(L 0).cells⟩) (.agg ⟨(L' 0).cells⟩) with
 | some true => (match teq prog 9999 80 (.agg ⟨(L 1).cells⟩) (.agg ⟨(L' 1).cells⟩) with
  | some true => (match teq prog 9999 80 (.agg ⟨(L 2).cells⟩) (.agg ⟨(L' 2).cells⟩) with
   | some true => (match teq prog 9999 80 (.agg ⟨(L 3).cells⟩) (.agg ⟨(L' 3).cells⟩) with
    | some true => (match teq prog 9999 80 (.agg ⟨(L 4).cells⟩) (.agg ⟨(L' 4).cells⟩) with
     | some true => some true
     | some false => some false
     | none => none)
    | some false => some false
    | none => none)
   | some false => some false
   | none => none)
  | some false => some false
  | none => none)
 | some false => some false
 | none => none) := by kernel_rfl
theorem teq_span2 (x y : Rng) : (teq prog 9999 80 (.agg ⟨x.cells⟩) (.agg ⟨y.cells⟩) = some true ∧ x = y) ∨ teq prog 9999 80 (.agg ⟨x.cells⟩) (.agg ⟨y.cells⟩) = some false := by
 obtain ⟨a,b⟩ := x
 obtain ⟨c,d⟩ := y
 unfold Rng.cells
 rw [teq_span]
 by_cases e1 : a = c
 ·by_cases e2 : b = d
  ·left
   simp [e1,e2]
  ·right
   rw [beq_eq_false_iff_ne.2 e2,beq_iff_eq.2 e1]
 ·right
  rw [beq_eq_false_iff_ne.2 e1]
theorem teq_lim2 (L L' : Nat → Rng) : (teq prog 10000 104 (.agg ⟨limCells L⟩) (.agg ⟨limCells L'⟩) = some true ∧ ∀ g,g < 5 → L g = L' g) ∨ teq prog 10000 104 (.agg ⟨limCells L⟩) (.agg ⟨limCells L'⟩) = some false := by
 rw [teq_lim]
 rcases teq_span2 (L 0) (L' 0) with ⟨h0,e0⟩ | h0
 ·rw [h0]
  rcases teq_span2 (L 1) (L' 1) with ⟨h1,e1⟩ | h1
  ·rw [h1]
   rcases teq_span2 (L 2) (L' 2) with ⟨h2,e2⟩ | h2
   ·rw [h2]
    rcases teq_span2 (L 3) (L' 3) with ⟨h3,e3⟩ | h3
    ·rw [h3]
     rcases teq_span2 (L 4) (L' 4) with ⟨h4,e4⟩ | h4
     ·rw [h4]
      left
      refine ⟨rfl,fun g hg => ?_⟩
      match g,hg with
      | 0,_ => exact e0
      | 1,_ => exact e1
      | 2,_ => exact e2
      | 3,_ => exact e3
      | 4,_ => exact e4
     ·rw [h4]; exact .inr rfl
    ·rw [h3]; exact .inr rfl
   ·rw [h2]; exact .inr rfl
  ·rw [h1]; exact .inr rfl
 ·rw [h0]; exact .inr rfl
theorem fwd_congr {t : Tal} {L L' : Nat → Rng} (h : ∀ g,g < 5 → L g = L' g) : ∀ g : Nat,g < 5 → fwd t L g = fwd t L' g
 | 0,_ => by
  unfold fwd
  rw [h 0 (by omega)]
 | g + 1,hg => by
  unfold fwd
  rw [fwd_congr h g (by omega),h (g + 1) hg]
theorem truthIs_congr {t : Tal} {L L' : Nat → Rng} (hg : t.gates ≤ 5) (h : ∀ g,g < 5 → L g = L' g) : TruthIs t L ↔ TruthIs t L' :=
 ⟨fun x g hl => by rw [← fwd_congr h g (by omega)]; exact x g hl,fun x g hl => by rw [fwd_congr h g (by omega)]; exact x g hl⟩
def MetOk (t : Tal) (es : List (Value × Value)) : Prop := ∀ L : Nat → Rng,mfind prog 104 (.agg ⟨limCells L⟩) es = some none ∨ mfind prog 104 (.agg ⟨limCells L⟩) es = some (some (.bool (decide (TruthIs t L))))
theorem metOk_nil {t : Tal} : MetOk t [] := fun _ => .inl rfl
theorem metOk_more {t : Tal} {es : List (Value × Value)} {L' : Nat → Rng} (hg : t.gates ≤ 5) (h : MetOk t es) : MetOk t (es ++ [(.agg ⟨limCells L'⟩,.bool (decide (TruthIs t L')))]) := by
 intro L
 have key : ∀ es : List (Value × Value),(mfind prog 104 (.agg ⟨limCells L⟩) es = some none ∨ mfind prog 104 (.agg ⟨limCells L⟩) es = some (some (.bool (decide (TruthIs t L))))) →
   mfind prog 104 (.agg ⟨limCells L⟩) (es ++ [(.agg ⟨limCells L'⟩,.bool (decide (TruthIs t L')))]) = some none ∨ mfind prog 104 (.agg ⟨limCells L⟩) (es ++ [(.agg ⟨limCells L'⟩,.bool (decide (TruthIs t L')))]) = some (some (.bool (decide (TruthIs t L)))) := by
  intro es
  induction es with
  | nil =>
   intro _
   simp only [List.nil_append,mfind]
   rcases teq_lim2 L L' with ⟨e,hl⟩ | e
   ·rw [e]
    right
    have := truthIs_congr (t := t) hg hl
    simp [this]
   ·rw [e]
    exact .inl rfl
  | cons x es ih =>
   obtain ⟨a,v⟩ := x
   simp only [List.cons_append,mfind]
   cases teq prog 10000 104 (.agg ⟨limCells L⟩) a with
   | none => intro h; rcases h with h | h <;> cases h
   | some b => cases b with
    | true => exact fun h => h
    | false => exact ih
 exact key es (h L)
theorem good31 (hJ : Closed prog main J) {bw bm : Nat} {t : Tal} {cv nv : Value} {u u' : Int} (w : WorkIn h0 h bw t cv nv u (.map (some bm))) (hbw : h0.length ≤ bw) (hbm : h0.length ≤ bm) (hne : bw ≠ bm) (fine : TalFine t) {es : List (Value × Value)} (hm : h[bm]? = some (.map es true)) (met : MetOk t es)
  (hK : ∀ H es',SameX [bw,bm] h H → WorkIn h0 H bw t cv nv u' (.map (some bm)) → H[bm]? = some (.map es' true) → MetOk t es' → K (.bool (decide (TruthIs t (limN u' t.counts t.counts.length)))) H) :
  Good prog J 31 [ptr bw 0,.int .u64 u'] h K := by
 refine g31 hJ fun ok => ?_
 rw [e31]
 have hlw : bw < h.length := (List.getElem?_eq_some_iff.1 w.at_).1
 have hlm : bm < h.length := (List.getElem?_eq_some_iff.1 hm).1
 refine nilI (offI (store_cell (c := talCells t cv nv ++ [.int .u64 u,.map (some bm)]) w.at_ (by simp [talCells]) rfl rfl ?_))
 have w1 := w.setU (u' := u') hbw
 have hm1 : (h.set bw (.cells (talCells t cv nv ++ [.int .u64 u',.map (some bm)]) true 0))[bm]? = some (.map es true) := get_set hm (Ne.symm hne)
 have S1 : SameX [bw,bm] h (h.set bw (.cells (talCells t cv nv ++ [.int .u64 u',.map (some bm)]) true 0)) := SameX.refl.set (.inl (by simp))
 change Good prog J 33 [ptr bw 0] (h.set bw (.cells (talCells t cv nv ++ [.int .u64 u',.map (some bm)]) true 0)) _
 have hlen1 : (h.set bw (.cells (talCells t cv nv ++ [.int .u64 u',.map (some bm)]) true 0)).length = h.length := by simp
 generalize h.set bw (.cells (talCells t cv nv ++ [.int .u64 u',.map (some bm)]) true 0) = h1 at *
 refine good33 hJ w1.work fine.cosm ?_
 have hL : ∀ g,(limN u' t.counts t.counts.length g).sm 1000 := limN_sm (fun c hc => (fine.cosm.2 c hc).2) _
 generalize limN u' t.counts t.counts.length = L at *
 unfold aAlloc
 refine store_agg (cs := [vint 0,vint 0,vint 0,vint 0,vint 0,vint 0,vint 0,vint 0,vint 0,vint 0]) (sz := 0) (by simp) rfl rfl rfl ?_
 rw [show ∀ (l : List AObj) (x y : AObj),(l ++ [x]).set l.length y = l ++ [y] from fun l x y => by simp]
 refine nilI (offI (ldI (v := .map (some bm)) (get_app w1.at_) rfl rfl ?_))
 refine load_part (c := limCells L) (cs := limCells L) (wr := true) (sz := 0) (by simp) (by rw [lim_len]; omega) rfl rfl ?_
 rcases met L with hf | hf
 rotate_left
 ·refine look_some (get_app hm1) hf (ext0 (ext1 (cnd_true.2 (retL_same (by simp [unk]) ?_))))
  refine hK _ es S1.app (w1.same (X := []) SameX.refl.app (by simp) (by simp)) (get_app hm1) met
 refine look_none (get_app hm1) hf (ext0 (ext1 (cnd_false.2 ?_)))
 refine store_cell (c := [.bool false]) (sz := 0) (by simp) (by simp) rfl rfl ?_
 rw [show [Value.bool false].set 0 (Value.bool true) = [Value.bool true] from rfl]
 rw [show ∀ (l : List AObj) (x y : AObj),(l ++ [x]).set l.length y = l ++ [y] from fun l x y => by simp]
 refine load_part (c := limCells L) (cs := limCells L) (wr := true) (sz := 0) (by simp) (by rw [lim_len]; omega) rfl rfl ?_
 refine good32 hJ ?_
 have hl0 : h0.length ≤ h1.length := by
  obtain ⟨g,rfl⟩ := w1.pre
  simp
 have E : h1 ++ [AObj.cells (limCells L) true 0] ++ [AObj.cells [Value.bool true] true 0] ++ [AObj.cells [ptr bw 0] true 0,AObj.cells (limCells L) true 0] = h1 ++ [.cells (limCells L) true 0,.cells [.bool true] true 0,.cells [ptr bw 0] true 0,.cells (limCells L) true 0] := by simp
 have w2 := w1.same (X := []) (SameX.refl.app (g := [.cells (limCells L) true 0,.cells [.bool true] true 0,.cells [ptr bw 0] true 0,.cells (limCells L) true 0])) (by simp) (by simp)
 have S2 : SameX [bw,bm] h (h1 ++ [.cells (limCells L) true 0,.cells [.bool true] true 0,.cells [ptr bw 0] true 0,.cells (limCells L) true 0]) := S1.app
 rw [E]
 have e1 : (h1 ++ [AObj.cells (limCells L) true 0]).length = h1.length + 1 := by simp
 have e2 : (h1 ++ [AObj.cells (limCells L) true 0] ++ [AObj.cells [Value.bool true] true 0]).length = h1.length + 2 := by simp
 rw [e1,e2]
 refine range74 hJ (p1 := h1.length + 0) (p2 := h1.length + 1) (b1 := h1.length + 2) (b2 := h1.length + 3) w2 fine hL (get_app hm1) hf (by rw [back_get]; rfl) (by rw [back_get]; rfl) (by rw [back_get]; rfl) (by rw [back_get]; rfl) (by omega) (by omega) (by omega) (by omega) (by omega) (by omega) hbm rfl rfl rfl rfl rfl ?_
 intro H S hH
 have S3 : SameX [bw,bm] h H := by
  refine ⟨by have := S2.1; have := S.1; omega,fun i hi hx => ?_⟩
  simp at hx
  rw [S.2 i (by simp; omega) (by simp; omega),S2.2 i hi (by simp; omega)]
 exact hK H _ S3 (w2.same S (by simp; omega) (by simp; omega)) hH (metOk_more fine.gates.2 met)
end
def OwnX (H : List AObj) (s : Nat) (cs : List Value) (len : Nat) (v : Value) (o : Option Nat) : Prop :=
 cs.length = len * s ∧ kn cs = true ∧ ((len = 0 ∧ v = .slice none 0 0 ∧ o = none) ∨ ∃ i c sz,o = some i ∧ v = .slice (some ⟨i,0,none⟩) len c ∧ H[i]? = some (.cells cs true sz) ∧ ((c = fz ∧ sz = s) ∨ c = len))
section
variable {h H : List AObj} {K : Value → List AObj → Prop} {KV : Value → Prop} {HL : List AObj → Prop} {n0 : Nat}
theorem SameX.weak {X Y : List Nat} {h H : List AObj} (a : SameX X h H) (hxy : ∀ x ∈ X,x ∈ Y) : SameX Y h H := ⟨a.1,fun i hi hx => a.2 i hi fun hm => hx (hxy i hm)⟩
theorem SameX.weak0 {Y : List Nat} {h H : List AObj} (a : SameX [] h H) : SameX Y h H := a.weak (by simp)
theorem SameX.thru {X Y : List Nat} {h H H' : List AObj} (a : SameX X h H) (b : SameX Y H H') (hy : ∀ y ∈ Y,y ∈ X ∨ h.length ≤ y) : SameX X h H' :=
 ⟨Nat.le_trans a.1 b.1,fun i hi hx => by
  rw [b.2 i (Nat.lt_of_lt_of_le hi a.1) fun hm => ?_,a.2 i hi hx]
  rcases hy i hm with h1 | h1
  ·exact hx h1
  ·omega⟩
theorem SameX.app0 {X : List Nat} {h H : List AObj} (a : SameX X h H) (hX : ∀ x ∈ X,h.length ≤ x) : ∃ g,H = h ++ g := by
 have := SameX.pre (h0 := h) (g := []) (X := X) (H := H) (by simpa using a) hX
 exact this
theorem lt_of_get {i : Nat} {o : AObj} (hx : H[i]? = some o) : i < H.length := (List.getElem?_eq_some_iff.1 hx).1
theorem SameX.sli {X : List Nat} {v : Value} {s n : Nat} {cs : List Value} (a : SameX X h H) (hs : Sli h v s n cs) (hX : ∀ x ∈ X,h.length ≤ x) : Sli H v s n cs := by
 obtain ⟨g,rfl⟩ := a.app0 hX
 exact sli_app hs
theorem qAl {l : List Value} (hk : ∀ H' p,p = H.length → SameX [] H H' → H'[p]? = some (.cells l true 0) → H'.length = p + 1 → K (ptr p 0) H') : aAlloc l H K :=
 hk _ _ rfl SameX.refl.app (by simp) (by simp)
theorem qBox {l : List Value} (h1 : l.all one = true) (hk : ∀ H' p,p = H.length → SameX [] H H' → H'[p]? = some (.cells l true 0) → H'.length = p + 1 → K (ptr p 0) H') : aBox (.agg ⟨l⟩) H K :=
 box_agg h1 (hk _ _ rfl SameX.refl.app (by simp) (by simp))
theorem qBox1 {v : Value} (hc : v.cells = #[v]) (h1 : one v = true) (hk : ∀ H' p,p = H.length → SameX [] H H' → H'[p]? = some (.cells [v] true 0) → H'.length = p + 1 → K (ptr p 0) H') : aBox v H K :=
 box_one hc h1 (hk _ _ rfl SameX.refl.app (by simp) (by simp))
theorem qNew {n : Nat} {l : List Value} (hk : ∀ H' p,p = H.length → SameX [] H H' → H'[p]? = some (.cells l true 0) → H'.length = p + 1 → K (.slice (some ⟨p,0,none⟩) n n) H') : aNewS n l H K :=
 hk _ _ rfl SameX.refl.app (by simp) (by simp)
theorem qNewM (hk : ∀ H' p,p = H.length → SameX [] H H' → H'[p]? = some (.map [] true) → H'.length = p + 1 → K (.map (some p)) H') : aNewM H K :=
 hk _ _ rfl SameX.refl.app (by simp) (by simp)
theorem qMk {z : List Value} {n : Nat} (hn : n ≤ 100000) (hk : ∀ H' p,p = H.length → SameX [] H H' → H'[p]? = some (.cells (zrep z n) true 0) → H'.length = p + 1 → K (.slice (some ⟨p,0,none⟩) n n) H') : aMkS z (vint n) (vint n) H K := by
 have hr : room = 1073741824 := rfl
 simp only [aMkS,Int.toNat_natCast]
 exact ⟨by omega,by omega,by omega,hk _ _ rfl SameX.refl.app (by simp) (by simp)⟩
theorem qSt {b o : Nat} {c : List Value} {sz : Nat} {v : Value} (hb : H[b]? = some (.cells c true sz)) (ho : o < c.length) (h1 : v.cells = #[v]) (h2 : one v = true) (hk : ∀ H',SameX [b] H H' → H'[b]? = some (.cells (c.set o v) true sz) → H'.length = H.length → HL H') : aStore 1 (ptr b o) v H HL :=
 store_cell hb ho h1 h2 (hk _ (SameX.refl.set (.inl (by simp))) (List.getElem?_set_self (lt_of_get hb)) (by simp))
theorem qStA {b n : Nat} {cs c : List Value} {sz : Nat} (hb : H[b]? = some (.cells cs true sz)) (hl : c.length = n) (hs : cs.length = n) (h1 : c.all one = true) (hk : ∀ H',SameX [b] H H' → H'[b]? = some (.cells c true sz) → H'.length = H.length → HL H') : aStore n (ptr b 0) (.agg ⟨c⟩) H HL :=
 store_agg hb hl hs h1 (hk _ (SameX.refl.set (.inl (by simp))) (List.getElem?_set_self (lt_of_get hb)) (by simp))
theorem qSt2 {b o : Nat} {c : List Value} {sz : Nat} {x y : Value} (hb : H[b]? = some (.cells c true sz)) (ho : o + 2 ≤ c.length) (h1 : one x = true) (h2 : one y = true) (hk : ∀ H',SameX [b] H H' → H'[b]? = some (.cells ((c.set o x).set (o + 1) y) true sz) → H'.length = H.length → HL H') : aStore 2 (ptr b o) (.agg ⟨[x,y]⟩) H HL := by
 have := bSt2 (A := []) (g := H) (i := b) (o := o) (c := c) (sz := sz) (x := x) (y := y) (HL := HL) hb ho h1 h2 (hk _ (SameX.refl.set (.inl (by simp))) (List.getElem?_set_self (lt_of_get hb)) (by simp))
 simpa using this
theorem ownX_iff {s len : Nat} {cs : List Value} {v : Value} {o : Option Nat} : OwnX H s cs len v o ↔ OwnE 0 H s cs len v o := by
 simp [OwnX,OwnE]
theorem ownX_nil {s : Nat} : OwnX H s [] 0 (.slice none 0 0) none := ⟨by simp,rfl,.inl ⟨rfl,rfl,rfl⟩⟩
theorem ownX_keep {s len : Nat} {cs : List Value} {v : Value} {o : Option Nat} {H' : List AObj} {X : List Nat} (ho : OwnX H s cs len v o) (a : SameX X H H') (hX : ∀ i,o = some i → i ∉ X) : OwnX H' s cs len v o := by
 obtain ⟨h1,h2,h3 | ⟨i,c,sz,rfl,h4,h5,h6⟩⟩ := ho
 ·exact ⟨h1,h2,.inl h3⟩
 ·exact ⟨h1,h2,.inr ⟨i,c,sz,rfl,h4,a.get h5 (hX i rfl),h6⟩⟩
theorem ownX_sli {s len : Nat} {cs : List Value} {v : Value} {o : Option Nat} (ho : OwnX H s cs len v o) : Sli H v s len cs := by
 have := ownE_sli (A := []) (ownX_iff.1 ho)
 exact this
theorem ownX_val {s len : Nat} {cs : List Value} {v : Value} {o : Option Nat} (ho : OwnX H s cs len v o) : v.cells = #[v] ∧ one v = true ∧ kn1 v = true := ownE_val (ownX_iff.1 ho)
theorem ownX_lt {s len : Nat} {cs : List Value} {v : Value} {o : Option Nat} (ho : OwnX H s cs len v o) : ∀ i,o = some i → i < H.length := fun _ hi => ownE_lt (ownX_iff.1 ho) hi
theorem ownX_new {s n p : Nat} {l : List Value} (hp : H[p]? = some (.cells l true 0)) (hl : l.length = n * s) (hk : kn l = true) : OwnX H s l n (.slice (some ⟨p,0,none⟩) n n) (some p) :=
 ⟨hl,hk,.inr ⟨p,n,0,rfl,rfl,hp,.inr rfl⟩⟩
theorem ownX_more {s len : Nat} {cs e : List Value} {v y : Value} {o : Option Nat} (ho : OwnX H s cs len v o) (hs : 0 < s) (hl : len < 1000) (hy : Sli H y s 1 e)
  (hk : ∀ v' H' p,p = H.length → OwnX H' s (cs ++ e) (len + 1) v' (some p) → SameX o.toList H H' → K v' H') : aApp s v y H K := by
 have hlo := ownX_lt ho
 refine ownE_more (A := []) (g := H) (ownX_iff.1 ho) hs hl hy fun v' g' ho' hkeep => hk v' ([] ++ g') _ rfl (ownX_iff.2 ho') ⟨?_,fun i hi hx => ?_⟩
 ·have := ownE_lt ho' rfl
  simp only [List.nil_append]
  omega
 ·have hx' : o ≠ some i := fun e => hx (by rw [e]; simp)
  obtain ⟨x,hxx⟩ : ∃ x,H[i]? = some x := ⟨H[i],List.getElem?_eq_getElem hi⟩
  rw [hxx]
  exact hkeep i x hx' hxx
theorem retX {X : List Nat} {vs : List Value} (ok : heapOk h) (hn : n0 ≤ h.length) (S : SameX X h H) (hX : ∀ x ∈ X,h.length ≤ x) (hv : ∀ v ∈ vs,v ≠ unk) (hw : VOk h.length (pack vs)) (hk : K (pack vs) h) : retL n0 K [] vs H := by
 obtain ⟨g,rfl⟩ := S.app0 hX
 exact retL_drop ok hn hv hw hk
theorem retX_tail {g : List AObj} {k : Nat} {o : AObj} {m c : Nat} {ws : List Value} (ok : heapOk h) (hn : n0 ≤ h.length) (hk : (h ++ g)[k]? = some o) (hkn : h.length ≤ k) (ho : objOk h.length o) (hu : ∀ w ∈ ws,w ≠ unk) (hws : ∀ w ∈ ws,sub (moveTo h.length k) w = w ∧ VOk h.length w)
  (hne : ws ≠ []) (hK : K (.tuple ⟨.slice (some ⟨h.length,0,none⟩) m c :: ws⟩) (h ++ [o])) : retL n0 K [] (.slice (some ⟨k,0,none⟩) m c :: ws) (h ++ g) := by
 have hnu : ∀ (l : List Value) (p : Prop),(∀ v ∈ l,v ≠ unk) → p → nuK l p := by
  intro l
  induction l with
  | nil => intro p _ hp; exact hp
  | cons v l ih => intro p h hp; exact ⟨h v (by simp),ih p (fun u hu => h u (by simp [hu])) hp⟩
 have hpk : ∀ x : Value,pack (x :: ws) = .tuple ⟨x :: ws⟩ := by
  intro x
  cases ws with
  | nil => exact absurd rfl hne
  | cons a l => rfl
 refine ⟨by simp [unk],hnu _ _ hu (.inr ⟨moveTo h.length k,h ++ [o],.tuple ⟨.slice (some ⟨h.length,0,none⟩) m c :: ws⟩,gc_one ok hn hk hkn ho,?_,?_,hK⟩)⟩
 ·rw [hpk]
  have hm : ∀ l : List Value,(∀ w ∈ l,sub (moveTo h.length k) w = w) → subL (moveTo h.length k) l = l := by
   intro l
   induction l with
   | nil => intro _; rfl
   | cons a l ih => intro h; simp [subL,h a (by simp),ih fun w hw => h w (by simp [hw])]
  simp [sub,subA,subL,hm ws fun w hw => (hws w hw).1,moveTo]
 ·have : LOk (h ++ [o]).length ws := by
   rw [LOk_iff]
   exact fun w hw => VOk.mono (by simp) w (hws w hw).2
  simp [VOk,LOk,AddrOk,AOk,this]
  simpa using this
end
def rngsC (f : Nat → Rng) (n : Nat) : List Value := (List.range n).flatMap fun j => (f j).cells
theorem rngsC_succ (f : Nat → Rng) (n : Nat) : rngsC f (n + 1) = rngsC f n ++ (f n).cells := by
 simp [rngsC,List.range_succ]
theorem rngsC_len (f : Nat → Rng) : ∀ n,(rngsC f n).length = n * 2
 | 0 => rfl
 | n + 1 => by rw [rngsC_succ,List.length_append,rngsC_len f n,rng_len]; omega
theorem rngsC_congr {f f' : Nat → Rng} : ∀ {n : Nat},(∀ j,j < n → f j = f' j) → rngsC f n = rngsC f' n
 | 0,_ => rfl
 | n + 1,h => by rw [rngsC_succ,rngsC_succ,rngsC_congr fun j hj => h j (by omega),h n (by omega)]
theorem rngsC_zero : ∀ n,zrep [vint 0,vint 0] n = rngsC (fun _ => ⟨0,0⟩) n := by
 intro n
 have : ∀ n,rngsC (fun _ => ⟨0,0⟩) (n + 1) = [vint 0,vint 0] ++ rngsC (fun _ => ⟨0,0⟩) n := by
  intro n
  unfold rngsC
  rw [List.range_succ_eq_map,List.flatMap_cons,List.flatMap_map]
  rfl
 induction n with
 | zero => rfl
 | succ n ih => rw [this,← ih]; rfl
theorem rngsC_get (f : Nat → Rng) {n i : Nat} (hi : i < n) : ((rngsC f n).drop (i * 2)).take 2 = (f i).cells := by
 have := flat_take (enc := fun j => (f j).cells) (s := 2) (fun j => rng_len (f j)) (List.range n) i (by simpa using hi)
 simpa [rngsC] using this
theorem rngsC_set (f : Nat → Rng) (r : Rng) : ∀ {n i : Nat},i < n → ((rngsC f n).set (i * 2) (vint r.lo)).set (i * 2 + 1) (vint r.hi) = rngsC (fun j => if j = i then r else f j) n
 | n + 1,i,hi => by
  have hl := rngsC_len f n
  rw [rngsC_succ,rngsC_succ]
  rcases Nat.lt_or_ge i n with x | x
  ·rw [List.set_append_left _ _ (by omega),List.set_append_left _ _ (by simp; omega),rngsC_set f r x,if_neg (by omega)]
  ·have : i = n := by omega
   subst this
   rw [List.set_append_right _ _ (by omega),List.set_append_right _ _ (by omega),hl,if_pos rfl]
   congr 1
   ·exact rngsC_congr fun j hj => by rw [if_neg (by omega)]
   ·simp [Rng.cells,show i * 2 + 1 - i * 2 = 1 by omega]
end Go.Proofs.Ytfljbanjmplcfaa
