/- Parts of the proof, 3. No conditions. -/
import Derived.Test.YteoenhhmcpipoaaK2
import Derived.Conc.MarkLaws
import Derived.Conc.AtomicLaws2
import Derived.Conc.CrowdSit
import Derived.Conc.CrowdStepW
namespace Go.Proofs.Yteoenhhmcpipoaa
open Go.Conc Go.Proofs.Try
set_option maxRecDepth 100000
set_option maxHeartbeats 4000000
set_option linter.unusedVariables false
section
variable {main : Bool} {J : JT} {n0 : Nat} {h : List AObj} {K : Value → List AObj → Prop}
theorem at34 : prog.funcs[34]? = some f34 := by kernel_rfl
theorem body34 : f34.body = some (codeOf f34) := by kernel_rfl
def pl34 : Plans := []
def ct34 : Cuts := .go
theorem pok34 : plansOk prog pl34 (codeOf f34) = true := by kernel_rfl
theorem e34 {a0 : Value} : W prog J 21 h.length 34 (codeOf f34) (RG.mk (regs [a0]) []) h (RetQ prog [.cell 2 93] h.length K) =
(aAlloc [(vint 0),(vint 0),(vint 0),(vint 0),(vint 0),(vint 0),(Value.int .u8 0),(vint 0)] h fun v1 h2 =>
aAlloc [(vint 0),(vint 0),(vint 0),(vint 0),(vint 0),(vint 0),(Value.int .u8 0),(vint 0)] h2 fun v3 h4 =>
aLenS a0 fun v5 =>
Sem J 21 h.length 34 (subC [1,1,0,1,0] (codeOf f34)) (RG.p (RG.p (RG.p (RG.p (RG.p (RG.mk (regs [a0]) []) 2 v1) 3 v3) 6 a0) 7 v5) 8 (vint 0)) h4 (contX pl34 prog J 21 h.length 34 ct34 [1,1,0,1,0] (codeOf f34) [] (RetQ prog [.cell 2 93] h.length K))) := top_eq pok34 ct34 (by kernel_rfl)
theorem g34 (hJ : Closed prog main J) {a0 : Value} (hs : heapOk h → W prog J 21 h.length 34 (codeOf f34) (RG.mk (regs [a0]) []) h (RetQ prog [.cell 2 93] h.length K)) : Good prog J 34 [a0] h K :=
 good_of_W hJ mixed at34 body34 (by kernel_rfl) (Nat.le_of_ble_eq_true rfl) hs
theorem s34_1 {f : RG} {nx0 : RG → List AObj → Prop} : W prog J 21 n0 34 (subC [1,1,0,1,0,0] (codeOf f34)) f h (thenK nx0 (contX pl34 prog J 21 n0 34 ct34 [1,1,0,1,0] (codeOf f34) [] (RetQ prog [.cell 2 93] n0 K))) =
(aBin prog .lss 3 (f.r 8) (f.r 7) fun v1 =>
cnd v1
(aIdx 6 (f.r 6) (f.r 8) fun v2 =>
aLoad true 6 v2 h fun v3 =>
aAlloc [(vint 0),(vint 0),(vint 0),(vint 0),(vint 0),(vint 0)] h fun v4 h5 =>
aStore 6 v4 v3 h5 fun h6 =>
aOff v4 0 fun v7 =>
aLoad false 1 v7 h6 fun v8 =>
aFill [(vint 0),(vint 0)] [(0,1,v8)] fun c9 =>
aOff (f.r 3) 0 fun v10 =>
aIdxA 3 2 v10 (f.r 8) fun v11 =>
aStore 2 v11 (Value.agg ⟨c9⟩) h6 fun h12 =>
aBin prog .add 3 (f.r 8) (vint 1) fun v13 =>
nx0 (RG.p (RG.p (RG.p (RG.p (RG.p (RG.p (RG.p (RG.p (RG.p (RG.p (RG.p (RG.p (RG.p (RG.p f 9 v1) 10 (f.r 8)) 11 v2) 12 v3) 5 v4) 4 (f.r 8)) 13 (f.r 8)) 14 v7) 15 v8) 16 (Value.agg ⟨c9⟩)) 17 v10) 18 v11) 19 v13) 8 v13) h12)
(aLoad true 8 (f.r 3) h fun v14 =>
aStore 8 (f.r 2) v14 h fun h15 =>
RetQ prog [.cell 2 93] n0 K .ret (RG.p (RG.p f 9 v1) 20 v14) h15)) := sub_eq pok34 ct34 (by kernel_rfl)
theorem l34_1 (hJ : Closed prog main J) {S : Type} (μ : S → Nat) (I : S → RG → List AObj → Prop) (hI : ∀ s f h,I s f h → heapOk h → n0 ≤ h.length → W prog J 21 n0 34 (subC [1,1,0,1,0,0] (codeOf f34)) f h (thenK (Nx n0 μ I s) (contX pl34 prog J 21 n0 34 ct34 [1,1,0,1,0] (codeOf f34) [] (RetQ prog [.cell 2 93] n0 K))))
 {s : S} {f : RG} (hi : Gets n0 I s f h) : Sem J 21 n0 34 (subC [1,1,0,1,0] (codeOf f34)) f h (contX pl34 prog J 21 n0 34 ct34 [1,1,0,1,0] (codeOf f34) [] (RetQ prog [.cell 2 93] n0 K)) :=
 loop_rule hJ mixed (b := subC [1,1,0,1,0,0] (codeOf f34)) (by kernel_rfl) μ I hI hi
theorem at33 : prog.funcs[33]? = some f33 := by kernel_rfl
theorem body33 : f33.body = some (codeOf f33) := by kernel_rfl
def pl33 : Plans := []
def ct33 : Cuts := .go
theorem pok33 : plansOk prog pl33 (codeOf f33) = true := by kernel_rfl
theorem e33 {a0 a1 a2 a3 a4 : Value} : W prog J 56 h.length 33 (codeOf f33) (RG.mk (regs [a0,a1,a2,a3,a4]) []) h (RetQ prog [.tmp 10,.tmp 11] h.length K) =
(aBox a2 h fun v1 h2 =>
aNewM h2 fun v3 h4 =>
aRange prog 84 a0 h4 fun v5 h6 =>
Sem J 56 h.length 33 (subC [1,1,0,1,0] (codeOf f33)) (RG.p (RG.p (RG.p (RG.p (RG.p (RG.p (RG.p (RG.mk (regs [a0,a1,a2,a3,a4]) []) 7 v1) 10 (Value.map none)) 11 (Value.bool false)) 20 v3) 12 v3) 21 a0) 22 v5) h6 (contX pl33 prog J 56 h.length 33 ct33 [1,1,0,1,0] (codeOf f33) [] (RetQ prog [.tmp 10,.tmp 11] h.length K))) := top_eq pok33 ct33 (by kernel_rfl)
theorem g33 (hJ : Closed prog main J) {a0 a1 a2 a3 a4 : Value} (hs : heapOk h → W prog J 56 h.length 33 (codeOf f33) (RG.mk (regs [a0,a1,a2,a3,a4]) []) h (RetQ prog [.tmp 10,.tmp 11] h.length K)) : Good prog J 33 [a0,a1,a2,a3,a4] h K :=
 good_of_W hJ mixed at33 body33 (by kernel_rfl) (Nat.le_of_ble_eq_true rfl) hs
theorem s33_1 {f : RG} {nx0 : RG → List AObj → Prop} : W prog J 56 n0 33 (subC [1,1,0,1,0,0] (codeOf f33)) f h (thenK nx0 (contX pl33 prog J 56 n0 33 ct33 [1,1,0,1,0] (codeOf f33) [] (RetQ prog [.tmp 10,.tmp 11] n0 K))) =
(aNext (f.r 22) h fun v1 h2 =>
aExt v1 0 fun v3 =>
cnd v3
(aEntry (f.r 22) h2 fun v4 =>
aExt v4 0 fun v5 =>
aAlloc [(vint 0),(vint 0),(vint 0),(vint 0),(vint 0),(vint 0),(Value.int .u8 0),(vint 0)] h2 fun v6 h7 =>
aStore 8 v6 v5 h7 fun h8 =>
aFill [(Value.int .u8 0),(Value.int .u8 0)] [(0,1,(Value.int .u8 100)),(1,1,(Value.int .u8 119))] fun c9 =>
Sem J 56 n0 33 (subC [1,1,0,1,0,0,1,1,0,1,1,0] (codeOf f33)) (RG.p (RG.p (RG.p (RG.p (RG.p (RG.p (RG.p f 23 v1) 24 v3) 25 v4) 26 v5) 13 v6) 27 (Value.agg ⟨c9⟩)) 28 (vint 0)) h8 (contX pl33 prog J 56 n0 33 ct33 [1,1,0,1,0,0,1,1,0,1,1,0] (codeOf f33) [nx0] (RetQ prog [.tmp 10,.tmp 11] n0 K)))
(retL n0 K f.ds [(f.r 12),(Value.bool true)] h2)) := sub_eq pok33 ct33 (by kernel_rfl)
theorem l33_1 (hJ : Closed prog main J) {S : Type} (μ : S → Nat) (I : S → RG → List AObj → Prop) (hI : ∀ s f h,I s f h → heapOk h → n0 ≤ h.length → W prog J 56 n0 33 (subC [1,1,0,1,0,0] (codeOf f33)) f h (thenK (Nx n0 μ I s) (contX pl33 prog J 56 n0 33 ct33 [1,1,0,1,0] (codeOf f33) [] (RetQ prog [.tmp 10,.tmp 11] n0 K))))
 {s : S} {f : RG} (hi : Gets n0 I s f h) : Sem J 56 n0 33 (subC [1,1,0,1,0] (codeOf f33)) f h (contX pl33 prog J 56 n0 33 ct33 [1,1,0,1,0] (codeOf f33) [] (RetQ prog [.tmp 10,.tmp 11] n0 K)) :=
 loop_rule hJ mixed (b := subC [1,1,0,1,0,0] (codeOf f33)) (by kernel_rfl) μ I hI hi
theorem s33_2 {f : RG} {nx0 nx1 : RG → List AObj → Prop} : W prog J 56 n0 33 (subC [1,1,0,1,0,0,1,1,0,1,1,0,0] (codeOf f33)) f h (thenK nx1 (contX pl33 prog J 56 n0 33 ct33 [1,1,0,1,0,0,1,1,0,1,1,0] (codeOf f33) [nx0] (RetQ prog [.tmp 10,.tmp 11] n0 K))) =
(aBin prog .lss 3 (f.r 28) (vint 2) fun v1 =>
cnd v1
(aIdxV 2 1 false (f.r 27) (f.r 28) fun v2 =>
aOff (f.r 13) 6 fun v3 =>
aLoad true 2 v3 h fun v4 =>
aLoad true 3 (f.r 7) h fun v5 =>
Good prog J 57 [v4,v5,v2] h fun v6 h7 =>
aExt v6 0 fun v8 =>
aExt v6 1 fun v9 =>
aAlloc [(Value.int .u8 0),(vint 0)] h7 fun v10 h11 =>
aStore 2 v10 v8 h11 fun h12 =>
aUn .not v9 fun v13 =>
cnd v13
(aBin prog .add 3 (f.r 28) (vint 1) fun v14 =>
nx1 (RG.p (RG.p (RG.p (RG.p (RG.p (RG.p (RG.p (RG.p (RG.p (RG.p (RG.p (RG.p (RG.p (RG.p (RG.p (RG.p (RG.p f 29 v1) 30 v2) 15 v2) 32 v3) 33 v4) 34 v5) 35 v2) 36 v6) 31 v6) 37 v8) 38 v9) 16 v10) 17 v9) 39 v9) 40 v13) 54 v14) 28 v14) h12)
(aLoad true 8 (f.r 13) h12 fun v15 =>
aLoad true 2 v10 h12 fun v16 =>
Good prog J 58 [v15,(f.r 1),(f.r 3),(f.r 4),v16] h12 fun v17 h18 =>
aExt v17 0 fun v19 =>
aExt v17 1 fun v20 =>
aAlloc [(vint 0),(vint 0),(vint 0),(vint 0),(vint 0),(vint 0),(Value.int .u8 0),(vint 0)] h18 fun v21 h22 =>
aStore 8 v21 v19 h22 fun h23 =>
aUn .not v20 fun v24 =>
cnd v24
(retL n0 K f.ds [(Value.map none),(Value.bool false)] h23)
(aLoad true 8 v21 h23 fun v25 =>
((VOk h23.length (Value.bool true) ∧ one (Value.bool true) = true) ∧ aUpdX prog 84 (f.r 12) v25 (Value.bool true) h23 fun h26 =>
aBin prog .add 3 (f.r 28) (vint 1) fun v27 =>
nx1 (RG.p (RG.p (RG.p (RG.p (RG.p (RG.p (RG.p (RG.p (RG.p (RG.p (RG.p (RG.p (RG.p (RG.p (RG.p (RG.p (RG.p (RG.p (RG.p (RG.p (RG.p (RG.p (RG.p (RG.p (RG.p (RG.p (RG.p (RG.p (RG.p (RG.p (RG.p (RG.p f 29 v1) 30 v2) 15 v2) 32 v3) 33 v4) 34 v5) 35 v2) 36 v6) 31 v6) 37 v8) 38 v9) 16 v10) 17 v9) 39 v9) 40 v13) 42 v15) 43 (f.r 1)) 44 (f.r 3)) 45 (f.r 4)) 46 v16) 47 v17) 41 v17) 48 v19) 49 v20) 18 v21) 19 v20) 50 v20) 51 v24) 52 (f.r 12)) 53 v25) 54 v27) 28 v27) h26))))
(nx0 (RG.p f 29 v1) h)) := sub_eq pok33 ct33 (by kernel_rfl)
theorem l33_2 (hJ : Closed prog main J) {nx0 : RG → List AObj → Prop} {S : Type} (μ : S → Nat) (I : S → RG → List AObj → Prop) (hI : ∀ s f h,I s f h → heapOk h → n0 ≤ h.length → W prog J 56 n0 33 (subC [1,1,0,1,0,0,1,1,0,1,1,0,0] (codeOf f33)) f h (thenK (Nx n0 μ I s) (contX pl33 prog J 56 n0 33 ct33 [1,1,0,1,0,0,1,1,0,1,1,0] (codeOf f33) [nx0] (RetQ prog [.tmp 10,.tmp 11] n0 K))))
 {s : S} {f : RG} (hi : Gets n0 I s f h) : Sem J 56 n0 33 (subC [1,1,0,1,0,0,1,1,0,1,1,0] (codeOf f33)) f h (contX pl33 prog J 56 n0 33 ct33 [1,1,0,1,0,0,1,1,0,1,1,0] (codeOf f33) [nx0] (RetQ prog [.tmp 10,.tmp 11] n0 K)) :=
 loop_rule hJ mixed (b := subC [1,1,0,1,0,0,1,1,0,1,1,0,0] (codeOf f33)) (by kernel_rfl) μ I hI hi
theorem at35 : prog.funcs[35]? = some f35 := by kernel_rfl
theorem body35 : f35.body = some (codeOf f35) := by kernel_rfl
def pl35 : Plans := []
def ct35 : Cuts := .go
theorem pok35 : plansOk prog pl35 (codeOf f35) = true := by kernel_rfl
theorem e35 {a0 a1 a2 a3 a4 : Value} : W prog J 49 h.length 35 (codeOf f35) (RG.mk (regs [a0,a1,a2,a3,a4]) []) h (RetQ prog [.tmp 10] h.length K) =
(aBox a2 h fun v1 h2 =>
aLenS a1 fun v3 =>
Sem J 49 h.length 35 (subC [1,0,1,0] (codeOf f35)) (RG.p (RG.p (RG.p (RG.p (RG.p (RG.mk (regs [a0,a1,a2,a3,a4]) []) 7 v1) 10 (Value.slice none 0 0)) 15 a1) 16 v3) 17 (vint 0)) h2 (contX pl35 prog J 49 h.length 35 ct35 [1,0,1,0] (codeOf f35) [] (RetQ prog [.tmp 10] h.length K))) := top_eq pok35 ct35 (by kernel_rfl)
theorem g35 (hJ : Closed prog main J) {a0 a1 a2 a3 a4 : Value} (hs : heapOk h → W prog J 49 h.length 35 (codeOf f35) (RG.mk (regs [a0,a1,a2,a3,a4]) []) h (RetQ prog [.tmp 10] h.length K)) : Good prog J 35 [a0,a1,a2,a3,a4] h K :=
 good_of_W hJ mixed at35 body35 (by kernel_rfl) (Nat.le_of_ble_eq_true rfl) hs
theorem s35_1 {f : RG} {nx0 : RG → List AObj → Prop} : W prog J 49 n0 35 (subC [1,0,1,0,0] (codeOf f35)) f h (thenK nx0 (contX pl35 prog J 49 n0 35 ct35 [1,0,1,0] (codeOf f35) [] (RetQ prog [.tmp 10] n0 K))) =
(aBin prog .lss 3 (f.r 17) (f.r 16) fun v1 =>
cnd v1
(aLoad true 3 (f.r 7) h fun v2 =>
Good prog J 33 [(f.r 0),(f.r 1),v2,(f.r 17),(f.r 3)] h fun v3 h4 =>
aExt v3 0 fun v5 =>
aExt v3 1 fun v6 =>
aUn .not v6 fun v7 =>
cnd v7
(aBin prog .add 3 (f.r 17) (vint 1) fun v8 =>
nx0 (RG.p (RG.p (RG.p (RG.p (RG.p (RG.p (RG.p (RG.p (RG.p (RG.p (RG.p (RG.p (RG.p (RG.p (RG.p (RG.p (RG.p (RG.p f 18 v1) 19 (f.r 17)) 11 (f.r 17)) 21 (f.r 0)) 22 (f.r 1)) 23 v2) 24 (f.r 17)) 25 (f.r 3)) 26 v3) 20 v3) 27 v5) 28 v6) 12 v5) 13 v6) 29 v6) 30 v7) 48 v8) 17 v8) h4)
(aBin prog .eql 3 (f.r 4) (vint 1) fun v9 =>
cnd v9
((((1 * 1 : Nat) ≤ 16777216 ∧ (1 : Nat) ≤ 16777216 ∧ List.length [(vint 0)] = 1) ∧ aFill (zrep [(vint 0)] 1) [(0,1,(f.r 17))] fun c10 =>
aNewS 1 c10 h4 fun v11 h12 =>
retL n0 K f.ds [v11] h12))
(aLoad true 3 (f.r 7) h4 fun v13 =>
aBin prog .sub 3 (f.r 4) (vint 1) fun v14 =>
Good prog J 35 [v5,(f.r 1),v13,(f.r 3),v14] h4 fun v15 h16 =>
aBin prog .neq 22 v15 (Value.slice none 0 0) fun v17 =>
cnd v17
((((1 * 1 : Nat) ≤ 16777216 ∧ (1 : Nat) ≤ 16777216 ∧ List.length [(vint 0)] = 1) ∧ aFill (zrep [(vint 0)] 1) [(0,1,(f.r 17))] fun c18 =>
aNewS 1 c18 h16 fun v19 h20 =>
((List.length [(vint 0)] = 1 ∧ 0 < (1 : Nat) ∧ 0 < (8 : Nat) ∧ (8 : Nat) ≤ 1024) ∧ aApp 1 v19 v15 h20 fun v21 h22 =>
retL n0 K f.ds [v21] h22)))
(aBin prog .add 3 (f.r 17) (vint 1) fun v23 =>
nx0 (RG.p (RG.p (RG.p (RG.p (RG.p (RG.p (RG.p (RG.p (RG.p (RG.p (RG.p (RG.p (RG.p (RG.p (RG.p (RG.p (RG.p (RG.p (RG.p (RG.p (RG.p (RG.p (RG.p (RG.p (RG.p (RG.p (RG.p (RG.p (RG.p (RG.p f 18 v1) 19 (f.r 17)) 11 (f.r 17)) 21 (f.r 0)) 22 (f.r 1)) 23 v2) 24 (f.r 17)) 25 (f.r 3)) 26 v3) 20 v3) 27 v5) 28 v6) 12 v5) 13 v6) 29 v6) 30 v7) 31 (f.r 4)) 32 v9) 35 v5) 36 (f.r 1)) 37 v13) 38 (f.r 3)) 39 (f.r 4)) 40 v14) 41 v15) 14 v15) 42 v15) 43 v17) 48 v23) 17 v23) h16))))
(retL n0 K f.ds [(Value.slice none 0 0)] h)) := sub_eq pok35 ct35 (by kernel_rfl)
theorem l35_1 (hJ : Closed prog main J) {S : Type} (μ : S → Nat) (I : S → RG → List AObj → Prop) (hI : ∀ s f h,I s f h → heapOk h → n0 ≤ h.length → W prog J 49 n0 35 (subC [1,0,1,0,0] (codeOf f35)) f h (thenK (Nx n0 μ I s) (contX pl35 prog J 49 n0 35 ct35 [1,0,1,0] (codeOf f35) [] (RetQ prog [.tmp 10] n0 K))))
 {s : S} {f : RG} (hi : Gets n0 I s f h) : Sem J 49 n0 35 (subC [1,0,1,0] (codeOf f35)) f h (contX pl35 prog J 49 n0 35 ct35 [1,0,1,0] (codeOf f35) [] (RetQ prog [.tmp 10] n0 K)) :=
 loop_rule hJ mixed (b := subC [1,0,1,0,0] (codeOf f35)) (by kernel_rfl) μ I hI hi
theorem at58 : prog.funcs[58]? = some f58 := by kernel_rfl
theorem body58 : f58.body = some (codeOf f58) := by kernel_rfl
def pl58 : Plans := [(8,false,.take 0 (.take 1 (.take 2 (.take 3 (.take 4 (.take 5 (.last 6 true (.last 7 false (.fin)))))))))]
def ct58 : Cuts := .bin (.go) (.bin (.go) (.bin (.bin (.go) (.un (.un (.bin (.go) (.bin (.go) (.bin (.un (.bin (.go) (.bin (.go) (.bin (.go) (.cut (.go)))))) (.go))))))) (.go)))
theorem pok58 : plansOk prog pl58 (codeOf f58) = true := by kernel_rfl
theorem e58 {a0 a1 a2 a3 a4 : Value} : W prog J 55 h.length 58 (codeOf f58) (RG.mk (regs [a0,a1,a2,a3,a4]) []) h (RetQ prog [.cell 10 93,.tmp 11] h.length K) =
(aBox a0 h fun v1 h2 =>
aBox a4 h2 fun v3 h4 =>
aAlloc [(vint 0),(vint 0),(vint 0),(vint 0),(vint 0),(vint 0),(Value.int .u8 0),(vint 0)] h4 fun v5 h6 =>
aLenS a1 fun v7 =>
Sem J 55 h.length 58 (subC [1,1,0,1,0] (codeOf f58)) (RG.p (RG.p (RG.p (RG.p (RG.p (RG.p (RG.p (RG.p (RG.mk (regs [a0,a1,a2,a3,a4]) []) 5 v1) 9 v3) 10 v5) 11 (Value.bool false)) 12 (Value.bool true)) 19 a1) 20 v7) 21 (vint 0)) h6 (contX pl58 prog J 55 h.length 58 ct58 [1,1,0,1,0] (codeOf f58) [] (RetQ prog [.cell 10 93,.tmp 11] h.length K))) := top_eq pok58 ct58 (by kernel_rfl)
theorem g58 (hJ : Closed prog main J) {a0 a1 a2 a3 a4 : Value} (hs : heapOk h → W prog J 55 h.length 58 (codeOf f58) (RG.mk (regs [a0,a1,a2,a3,a4]) []) h (RetQ prog [.cell 10 93,.tmp 11] h.length K)) : Good prog J 58 [a0,a1,a2,a3,a4] h K :=
 good_of_W hJ mixed at58 body58 (by kernel_rfl) (Nat.le_of_ble_eq_true rfl) hs
theorem s58_1 {f : RG} {nx0 : RG → List AObj → Prop} : W prog J 55 n0 58 (subC [1,1,0,1,0,0] (codeOf f58)) f h (thenK nx0 (contX pl58 prog J 55 n0 58 ct58 [1,1,0,1,0] (codeOf f58) [] (RetQ prog [.cell 10 93,.tmp 11] n0 K))) =
(aBin prog .lss 3 (f.r 21) (f.r 20) fun v1 =>
cnd v1
(aIdx 6 (f.r 19) (f.r 21) fun v2 =>
aLoad true 6 v2 h fun v3 =>
aAlloc [(vint 0),(vint 0),(vint 0),(vint 0),(vint 0),(vint 0)] h fun v4 h5 =>
aStore 6 v4 v3 h5 fun h6 =>
aBin prog .eql 3 (f.r 21) (f.r 2) fun v7 =>
cnd v7
(Hold (W prog J 55 n0 58 (subC [1,1,0,1,0,0,1,1,0,0,1,1,1] (codeOf f58)) (RG.p (RG.p (RG.p (RG.p (RG.p (RG.p (RG.p (RG.p (RG.p (RG.p (RG.p (RG.p f 22 v1) 23 (f.r 21)) 24 v2) 25 v3) 14 v4) 13 (f.r 21)) 15 (vint 0)) 26 (f.r 21)) 27 (f.r 2)) 28 v7) 29 (f.r 3)) 15 (f.r 3)) h6 (contX pl58 prog J 55 n0 58 ct58 [1,1,0,1,0,0,1,1,0,0,1,1,1] (codeOf f58) [nx0] (RetQ prog [.cell 10 93,.tmp 11] n0 K))))
(Hold (W prog J 55 n0 58 (subC [1,1,0,1,0,0,1,1,0,0,1,1,1] (codeOf f58)) (RG.p (RG.p (RG.p (RG.p (RG.p (RG.p (RG.p (RG.p (RG.p (RG.p f 22 v1) 23 (f.r 21)) 24 v2) 25 v3) 14 v4) 13 (f.r 21)) 15 (vint 0)) 26 (f.r 21)) 27 (f.r 2)) 28 v7) h6 (contX pl58 prog J 55 n0 58 ct58 [1,1,0,1,0,0,1,1,0,0,1,1,1] (codeOf f58) [nx0] (RetQ prog [.cell 10 93,.tmp 11] n0 K)))))
(aLoad true 2 (f.r 9) h fun v8 =>
aOff (f.r 5) 6 fun v9 =>
aStore 2 v9 v8 h fun h10 =>
aLoad true 8 (f.r 5) h10 fun v11 =>
aStore 8 (f.r 10) v11 h10 fun h12 =>
RetQ prog [.cell 10 93,.tmp 11] n0 K .ret (RG.p (RG.p (RG.p (RG.p (RG.p (RG.p f 22 v1) 51 v8) 52 v9) 53 v11) 54 (f.r 12)) 11 (f.r 12)) h12)) := sub_eq pok58 ct58 (by kernel_rfl)
theorem l58_1 (hJ : Closed prog main J) {S : Type} (μ : S → Nat) (I : S → RG → List AObj → Prop) (hI : ∀ s f h,I s f h → heapOk h → n0 ≤ h.length → W prog J 55 n0 58 (subC [1,1,0,1,0,0] (codeOf f58)) f h (thenK (Nx n0 μ I s) (contX pl58 prog J 55 n0 58 ct58 [1,1,0,1,0] (codeOf f58) [] (RetQ prog [.cell 10 93,.tmp 11] n0 K))))
 {s : S} {f : RG} (hi : Gets n0 I s f h) : Sem J 55 n0 58 (subC [1,1,0,1,0] (codeOf f58)) f h (contX pl58 prog J 55 n0 58 ct58 [1,1,0,1,0] (codeOf f58) [] (RetQ prog [.cell 10 93,.tmp 11] n0 K)) :=
 loop_rule hJ mixed (b := subC [1,1,0,1,0,0] (codeOf f58)) (by kernel_rfl) μ I hI hi
theorem s58_2 {f : RG} {nx0 : RG → List AObj → Prop} : W prog J 55 n0 58 (subC [1,1,0,1,0,0,1,1,0,0,1,1,1] (codeOf f58)) f h (contX pl58 prog J 55 n0 58 ct58 [1,1,0,1,0,0,1,1,0,0,1,1,1] (codeOf f58) [nx0] (RetQ prog [.cell 10 93,.tmp 11] n0 K)) =
((∃ B,aLoad true 6 (f.r 14) h fun v1 =>
RdOk (some B) (ptrBlk (f.r 14)) ∧ (aOff (f.r 5) 0 fun v2 =>
aIdxA 3 2 v2 (f.r 13) fun v3 =>
aLoad true 2 v3 h fun v4 =>
RdOk (some B) (ptrBlk v3) ∧ (aFill [(vint 0),(vint 0),(vint 0),(vint 0),(vint 0),(vint 0),(vint 0),(vint 0)] [(0,6,v1),(6,2,v4)] fun c5 =>
aAlloc [(vint 0),(vint 0),(vint 0),(vint 0),(vint 0),(vint 0),(vint 0),(vint 0)] h fun v6 h7 =>
SameB (some B) h h7 ∧ (aStore 8 v6 (Value.agg ⟨c5⟩) h7 fun h8 =>
aOff (f.r 9) 0 fun v9 =>
aLoad false 1 v9 h8 fun v10 =>
aBin prog .eql 5 v10 (Value.int .u8 119) fun v11 =>
Good prog J 67 [v6,(f.r 15),v11] h8 fun v12 h13 =>
aExt v12 0 fun v14 =>
aExt v12 1 fun v15 =>
cnd v14
(aOff v6 6 fun v16 =>
aLoad true 2 v16 h13 fun v17 =>
aOff (f.r 5) 0 fun v18 =>
aIdxA 3 2 v18 (f.r 13) fun v19 =>
aStore 2 v19 v17 h13 fun h20 =>
aBin prog .add 3 (f.r 21) (vint 1) fun v21 =>
nx0 (RG.p (RG.p (RG.p (RG.p (RG.p (RG.p (RG.p (RG.p (RG.p (RG.p (RG.p (RG.p (RG.p (RG.p (RG.p (RG.p (RG.p (RG.p (RG.p (RG.p (RG.p (RG.p (RG.p (RG.p (RG.p (RG.p f 30 v1) 31 (f.r 13)) 32 v2) 33 v3) 34 v4) 35 (Value.agg ⟨c5⟩)) 16 v6) 37 (f.r 15)) 38 v9) 39 v10) 40 v11) 41 v12) 36 v12) 42 v14) 43 v15) 17 v14) 18 v15) 44 v14) 12 (Value.bool false)) 45 (f.r 13)) 46 v16) 47 v17) 48 v18) 49 v19) 50 v21) 21 v21) h20)
(aOff v6 6 fun v22 =>
aLoad true 2 v22 h13 fun v23 =>
aOff (f.r 5) 0 fun v24 =>
aIdxA 3 2 v24 (f.r 13) fun v25 =>
aStore 2 v25 v23 h13 fun h26 =>
aBin prog .add 3 (f.r 21) (vint 1) fun v27 =>
nx0 (RG.p (RG.p (RG.p (RG.p (RG.p (RG.p (RG.p (RG.p (RG.p (RG.p (RG.p (RG.p (RG.p (RG.p (RG.p (RG.p (RG.p (RG.p (RG.p (RG.p (RG.p (RG.p (RG.p (RG.p (RG.p f 30 v1) 31 (f.r 13)) 32 v2) 33 v3) 34 v4) 35 (Value.agg ⟨c5⟩)) 16 v6) 37 (f.r 15)) 38 v9) 39 v10) 40 v11) 41 v12) 36 v12) 42 v14) 43 v15) 17 v14) 18 v15) 44 v14) 45 (f.r 13)) 46 v22) 47 v23) 48 v24) 49 v25) 50 v27) 21 v27) h26)))))) := sub_eq pok58 ct58 (by kernel_rfl)
end
section
variable {main : Bool} {J : JT} {n0 : Nat} {h : List AObj} {K : Value → List AObj → Prop}
theorem at29 : prog.funcs[29]? = some f29 := by kernel_rfl
theorem body29 : f29.body = some (codeOf f29) := by kernel_rfl
def pl29 : Plans := []
def ct29 : Cuts := .go
theorem pok29 : plansOk prog pl29 (codeOf f29) = true := by kernel_rfl
theorem e29 {a0 a1 a2 : Value} : W prog J 15 h.length 29 (codeOf f29) (RG.mk (regs [a0,a1,a2]) []) h (RetQ prog [.tmp 6] h.length K) =
(aBin prog .leq 3 a1 a0 fun v1 =>
cnd v1
(aBin prog .leq 3 a0 a2 fun v2 =>
retL h.length K [] [v2] h)
(retL h.length K [] [(Value.bool false)] h)) := top_eq pok29 ct29 (by kernel_rfl)
theorem g29 (hJ : Closed prog main J) {a0 a1 a2 : Value} (hs : heapOk h → W prog J 15 h.length 29 (codeOf f29) (RG.mk (regs [a0,a1,a2]) []) h (RetQ prog [.tmp 6] h.length K)) : Good prog J 29 [a0,a1,a2] h K :=
 good_of_W hJ mixed at29 body29 (by kernel_rfl) (Nat.le_of_ble_eq_true rfl) hs
theorem at27 : prog.funcs[27]? = some f27 := by kernel_rfl
theorem body27 : f27.body = some (codeOf f27) := by kernel_rfl
def pl27 : Plans := []
def ct27 : Cuts := .bin (.go) (.bin (.bin (.go) (.cut (.go))) (.go))
theorem pok27 : plansOk prog pl27 (codeOf f27) = true := by kernel_rfl
theorem e27 {a0 : Value} : W prog J 37 h.length 27 (codeOf f27) (RG.mk (regs [a0]) []) h (RetQ prog [.tmp 2] h.length K) =
(aBox a0 h fun v1 h2 =>
aOff v1 1 fun v3 =>
aLoad false 1 v3 h2 fun v4 =>
Good prog J 29 [v4,(vint 1),(vint 99)] h2 fun v5 h6 =>
cnd v5
(aOff v1 0 fun v7 =>
aLoad false 1 v7 h6 fun v8 =>
aOff v1 1 fun v9 =>
aLoad false 1 v9 h6 fun v10 =>
Good prog J 29 [v8,(vint 0),v10] h6 fun v11 h12 =>
cnd v11
(aOff v1 2 fun v13 =>
aLoad false 1 v13 h12 fun v14 =>
Good prog J 29 [v14,(vint 0),(vint 9)] h12 fun v15 h16 =>
cnd v15
(aOff v1 3 fun v17 =>
aLoad false 1 v17 h16 fun v18 =>
aOff v1 2 fun v19 =>
aLoad false 1 v19 h16 fun v20 =>
Good prog J 29 [v18,v20,(vint 9)] h16 fun v21 h22 =>
cnd v21
(aOff v1 4 fun v23 =>
aLoad false 1 v23 h22 fun v24 =>
aOff v1 1 fun v25 =>
aLoad false 1 v25 h22 fun v26 =>
Good prog J 29 [v24,(vint 0),v26] h22 fun v27 h28 =>
cnd v27
(aOff v1 5 fun v29 =>
aLoad false 1 v29 h28 fun v30 =>
Good prog J 29 [v30,(vint 0),(vint 5)] h28 fun v31 h32 =>
Hold (W prog J 37 h.length 27 (subC [1,0,1] (codeOf f27)) (RG.p (RG.p (RG.p (RG.p (RG.p (RG.p (RG.p (RG.p (RG.p (RG.p (RG.p (RG.p (RG.p (RG.p (RG.p (RG.p (RG.p (RG.p (RG.p (RG.p (RG.p (RG.p (RG.p (RG.p (RG.p (RG.p (RG.p (RG.p (RG.p (RG.p (RG.p (RG.p (RG.p (RG.p (RG.p (RG.p (RG.p (RG.p (RG.p (RG.p (RG.p (RG.mk (regs [a0]) []) 1 v1) 2 (vint 0)) 3 v3) 4 v4) 5 v5) 6 v5) 6 (Value.bool true)) 7 v7) 8 v8) 9 v9) 10 v10) 11 v11) 12 v11) 13 v11) 13 (Value.bool true)) 14 v13) 15 v14) 16 v15) 17 v15) 18 v15) 18 (Value.bool true)) 19 v17) 20 v18) 21 v19) 22 v20) 23 v21) 24 v21) 25 v21) 25 (Value.bool true)) 26 v23) 27 v24) 28 v25) 29 v26) 30 v27) 31 v27) 32 v27) 32 (Value.bool true)) 33 v29) 34 v30) 35 v31) 36 v31) h32 (contX pl27 prog J 37 h.length 27 ct27 [1,0,1] (codeOf f27) [] (RetQ prog [.tmp 2] h.length K))))
(Hold (W prog J 37 h.length 27 (subC [1,0,1] (codeOf f27)) (RG.p (RG.p (RG.p (RG.p (RG.p (RG.p (RG.p (RG.p (RG.p (RG.p (RG.p (RG.p (RG.p (RG.p (RG.p (RG.p (RG.p (RG.p (RG.p (RG.p (RG.p (RG.p (RG.p (RG.p (RG.p (RG.p (RG.p (RG.p (RG.p (RG.p (RG.p (RG.p (RG.p (RG.p (RG.p (RG.p (RG.p (RG.p (RG.p (RG.p (RG.p (RG.mk (regs [a0]) []) 1 v1) 2 (vint 0)) 3 v3) 4 v4) 5 v5) 6 v5) 6 (Value.bool true)) 7 v7) 8 v8) 9 v9) 10 v10) 11 v11) 12 v11) 13 v11) 13 (Value.bool true)) 14 v13) 15 v14) 16 v15) 17 v15) 18 v15) 18 (Value.bool true)) 19 v17) 20 v18) 21 v19) 22 v20) 23 v21) 24 v21) 25 v21) 25 (Value.bool true)) 26 v23) 27 v24) 28 v25) 29 v26) 30 v27) 31 v27) 32 v27) 32 (Value.bool false)) 33 undef) 34 undef) 35 undef) 36 (Value.bool false)) h28 (contX pl27 prog J 37 h.length 27 ct27 [1,0,1] (codeOf f27) [] (RetQ prog [.tmp 2] h.length K)))))
(Hold (W prog J 37 h.length 27 (subC [1,0,1] (codeOf f27)) (RG.p (RG.p (RG.p (RG.p (RG.p (RG.p (RG.p (RG.p (RG.p (RG.p (RG.p (RG.p (RG.p (RG.p (RG.p (RG.p (RG.p (RG.p (RG.p (RG.p (RG.p (RG.p (RG.p (RG.p (RG.p (RG.p (RG.p (RG.p (RG.p (RG.p (RG.p (RG.p (RG.p (RG.p (RG.p (RG.p (RG.p (RG.p (RG.p (RG.p (RG.p (RG.mk (regs [a0]) []) 1 v1) 2 (vint 0)) 3 v3) 4 v4) 5 v5) 6 v5) 6 (Value.bool true)) 7 v7) 8 v8) 9 v9) 10 v10) 11 v11) 12 v11) 13 v11) 13 (Value.bool true)) 14 v13) 15 v14) 16 v15) 17 v15) 18 v15) 18 (Value.bool true)) 19 v17) 20 v18) 21 v19) 22 v20) 23 v21) 24 v21) 25 v21) 25 (Value.bool false)) 26 undef) 27 undef) 28 undef) 29 undef) 30 undef) 31 (Value.bool false)) 32 (Value.bool false)) 32 (Value.bool false)) 33 undef) 34 undef) 35 undef) 36 (Value.bool false)) h22 (contX pl27 prog J 37 h.length 27 ct27 [1,0,1] (codeOf f27) [] (RetQ prog [.tmp 2] h.length K)))))
(Hold (W prog J 37 h.length 27 (subC [1,0,1] (codeOf f27)) (RG.p (RG.p (RG.p (RG.p (RG.p (RG.p (RG.p (RG.p (RG.p (RG.p (RG.p (RG.p (RG.p (RG.p (RG.p (RG.p (RG.p (RG.p (RG.p (RG.p (RG.p (RG.p (RG.p (RG.p (RG.p (RG.p (RG.p (RG.p (RG.p (RG.p (RG.p (RG.p (RG.p (RG.p (RG.p (RG.p (RG.p (RG.p (RG.p (RG.p (RG.p (RG.mk (regs [a0]) []) 1 v1) 2 (vint 0)) 3 v3) 4 v4) 5 v5) 6 v5) 6 (Value.bool true)) 7 v7) 8 v8) 9 v9) 10 v10) 11 v11) 12 v11) 13 v11) 13 (Value.bool true)) 14 v13) 15 v14) 16 v15) 17 v15) 18 v15) 18 (Value.bool false)) 19 undef) 20 undef) 21 undef) 22 undef) 23 undef) 24 (Value.bool false)) 25 (Value.bool false)) 25 (Value.bool false)) 26 undef) 27 undef) 28 undef) 29 undef) 30 undef) 31 (Value.bool false)) 32 (Value.bool false)) 32 (Value.bool false)) 33 undef) 34 undef) 35 undef) 36 (Value.bool false)) h16 (contX pl27 prog J 37 h.length 27 ct27 [1,0,1] (codeOf f27) [] (RetQ prog [.tmp 2] h.length K)))))
(Hold (W prog J 37 h.length 27 (subC [1,0,1] (codeOf f27)) (RG.p (RG.p (RG.p (RG.p (RG.p (RG.p (RG.p (RG.p (RG.p (RG.p (RG.p (RG.p (RG.p (RG.p (RG.p (RG.p (RG.p (RG.p (RG.p (RG.p (RG.p (RG.p (RG.p (RG.p (RG.p (RG.p (RG.p (RG.p (RG.p (RG.p (RG.p (RG.p (RG.p (RG.p (RG.p (RG.p (RG.p (RG.p (RG.p (RG.p (RG.p (RG.mk (regs [a0]) []) 1 v1) 2 (vint 0)) 3 v3) 4 v4) 5 v5) 6 v5) 6 (Value.bool true)) 7 v7) 8 v8) 9 v9) 10 v10) 11 v11) 12 v11) 13 v11) 13 (Value.bool false)) 14 undef) 15 undef) 16 undef) 17 (Value.bool false)) 18 (Value.bool false)) 18 (Value.bool false)) 19 undef) 20 undef) 21 undef) 22 undef) 23 undef) 24 (Value.bool false)) 25 (Value.bool false)) 25 (Value.bool false)) 26 undef) 27 undef) 28 undef) 29 undef) 30 undef) 31 (Value.bool false)) 32 (Value.bool false)) 32 (Value.bool false)) 33 undef) 34 undef) 35 undef) 36 (Value.bool false)) h12 (contX pl27 prog J 37 h.length 27 ct27 [1,0,1] (codeOf f27) [] (RetQ prog [.tmp 2] h.length K)))))
(Hold (W prog J 37 h.length 27 (subC [1,0,1] (codeOf f27)) (RG.p (RG.p (RG.p (RG.p (RG.p (RG.p (RG.p (RG.p (RG.p (RG.p (RG.p (RG.p (RG.p (RG.p (RG.p (RG.p (RG.p (RG.p (RG.p (RG.p (RG.p (RG.p (RG.p (RG.p (RG.p (RG.p (RG.p (RG.p (RG.p (RG.p (RG.p (RG.p (RG.p (RG.p (RG.p (RG.p (RG.p (RG.p (RG.p (RG.p (RG.p (RG.mk (regs [a0]) []) 1 v1) 2 (vint 0)) 3 v3) 4 v4) 5 v5) 6 v5) 6 (Value.bool false)) 7 undef) 8 undef) 9 undef) 10 undef) 11 undef) 12 (Value.bool false)) 13 (Value.bool false)) 13 (Value.bool false)) 14 undef) 15 undef) 16 undef) 17 (Value.bool false)) 18 (Value.bool false)) 18 (Value.bool false)) 19 undef) 20 undef) 21 undef) 22 undef) 23 undef) 24 (Value.bool false)) 25 (Value.bool false)) 25 (Value.bool false)) 26 undef) 27 undef) 28 undef) 29 undef) 30 undef) 31 (Value.bool false)) 32 (Value.bool false)) 32 (Value.bool false)) 33 undef) 34 undef) 35 undef) 36 (Value.bool false)) h6 (contX pl27 prog J 37 h.length 27 ct27 [1,0,1] (codeOf f27) [] (RetQ prog [.tmp 2] h.length K))))) := top_eq pok27 ct27 (by kernel_rfl)
theorem g27 (hJ : Closed prog main J) {a0 : Value} (hs : heapOk h → W prog J 37 h.length 27 (codeOf f27) (RG.mk (regs [a0]) []) h (RetQ prog [.tmp 2] h.length K)) : Good prog J 27 [a0] h K :=
 good_of_W hJ mixed at27 body27 (by kernel_rfl) (Nat.le_of_ble_eq_true rfl) hs
theorem s27_1 {f : RG} : W prog J 37 n0 27 (subC [1,0,1] (codeOf f27)) f h (contX pl27 prog J 37 n0 27 ct27 [1,0,1] (codeOf f27) [] (RetQ prog [.tmp 2] n0 K)) =
(cnd (f.r 36)
(retL n0 K f.ds [(vint 0)] h)
(retL n0 K f.ds [(vint 1)] h)) := sub_eq pok27 ct27 (by kernel_rfl)
theorem at28 : prog.funcs[28]? = some f28 := by kernel_rfl
theorem body28 : f28.body = some (codeOf f28) := by kernel_rfl
def pl28 : Plans := []
def ct28 : Cuts := .bin (.go) (.bin (.bin (.go) (.cut (.go))) (.go))
theorem pok28 : plansOk prog pl28 (codeOf f28) = true := by kernel_rfl
theorem e28 {a0 : Value} : W prog J 20 h.length 28 (codeOf f28) (RG.mk (regs [a0]) []) h (RetQ prog [.tmp 2] h.length K) =
(aBox a0 h fun v1 h2 =>
aOff v1 0 fun v3 =>
aLoad false 1 v3 h2 fun v4 =>
Good prog J 29 [v4,(vint 1),(vint 8)] h2 fun v5 h6 =>
cnd v5
(aOff v1 1 fun v7 =>
aLoad false 1 v7 h6 fun v8 =>
aOff v1 0 fun v9 =>
aLoad false 1 v9 h6 fun v10 =>
Good prog J 29 [v8,(vint 1),v10] h6 fun v11 h12 =>
cnd v11
(aOff v1 2 fun v13 =>
aLoad false 1 v13 h12 fun v14 =>
aOff v1 0 fun v15 =>
aLoad false 1 v15 h12 fun v16 =>
Good prog J 29 [v14,(vint 1),v16] h12 fun v17 h18 =>
Hold (W prog J 20 h.length 28 (subC [1,0,1] (codeOf f28)) (RG.p (RG.p (RG.p (RG.p (RG.p (RG.p (RG.p (RG.p (RG.p (RG.p (RG.p (RG.p (RG.p (RG.p (RG.p (RG.p (RG.p (RG.p (RG.p (RG.p (RG.p (RG.mk (regs [a0]) []) 1 v1) 2 (vint 0)) 3 v3) 4 v4) 5 v5) 6 v5) 6 (Value.bool true)) 7 v7) 8 v8) 9 v9) 10 v10) 11 v11) 12 v11) 13 v11) 13 (Value.bool true)) 14 v13) 15 v14) 16 v15) 17 v16) 18 v17) 19 v17) h18 (contX pl28 prog J 20 h.length 28 ct28 [1,0,1] (codeOf f28) [] (RetQ prog [.tmp 2] h.length K))))
(Hold (W prog J 20 h.length 28 (subC [1,0,1] (codeOf f28)) (RG.p (RG.p (RG.p (RG.p (RG.p (RG.p (RG.p (RG.p (RG.p (RG.p (RG.p (RG.p (RG.p (RG.p (RG.p (RG.p (RG.p (RG.p (RG.p (RG.p (RG.p (RG.mk (regs [a0]) []) 1 v1) 2 (vint 0)) 3 v3) 4 v4) 5 v5) 6 v5) 6 (Value.bool true)) 7 v7) 8 v8) 9 v9) 10 v10) 11 v11) 12 v11) 13 v11) 13 (Value.bool false)) 14 undef) 15 undef) 16 undef) 17 undef) 18 undef) 19 (Value.bool false)) h12 (contX pl28 prog J 20 h.length 28 ct28 [1,0,1] (codeOf f28) [] (RetQ prog [.tmp 2] h.length K)))))
(Hold (W prog J 20 h.length 28 (subC [1,0,1] (codeOf f28)) (RG.p (RG.p (RG.p (RG.p (RG.p (RG.p (RG.p (RG.p (RG.p (RG.p (RG.p (RG.p (RG.p (RG.p (RG.p (RG.p (RG.p (RG.p (RG.p (RG.p (RG.p (RG.mk (regs [a0]) []) 1 v1) 2 (vint 0)) 3 v3) 4 v4) 5 v5) 6 v5) 6 (Value.bool false)) 7 undef) 8 undef) 9 undef) 10 undef) 11 undef) 12 (Value.bool false)) 13 (Value.bool false)) 13 (Value.bool false)) 14 undef) 15 undef) 16 undef) 17 undef) 18 undef) 19 (Value.bool false)) h6 (contX pl28 prog J 20 h.length 28 ct28 [1,0,1] (codeOf f28) [] (RetQ prog [.tmp 2] h.length K))))) := top_eq pok28 ct28 (by kernel_rfl)
theorem g28 (hJ : Closed prog main J) {a0 : Value} (hs : heapOk h → W prog J 20 h.length 28 (codeOf f28) (RG.mk (regs [a0]) []) h (RetQ prog [.tmp 2] h.length K)) : Good prog J 28 [a0] h K :=
 good_of_W hJ mixed at28 body28 (by kernel_rfl) (Nat.le_of_ble_eq_true rfl) hs
theorem s28_1 {f : RG} : W prog J 20 n0 28 (subC [1,0,1] (codeOf f28)) f h (contX pl28 prog J 20 n0 28 ct28 [1,0,1] (codeOf f28) [] (RetQ prog [.tmp 2] n0 K)) =
(cnd (f.r 19)
(retL n0 K f.ds [(vint 0)] h)
(retL n0 K f.ds [(vint 1)] h)) := sub_eq pok28 ct28 (by kernel_rfl)
theorem at26 : prog.funcs[26]? = some f26 := by kernel_rfl
theorem body26 : f26.body = some (codeOf f26) := by kernel_rfl
def pl26 : Plans := []
def ct26 : Cuts := .go
theorem pok26 : plansOk prog pl26 (codeOf f26) = true := by kernel_rfl
theorem e26 {a0 a1 a2 : Value} : W prog J 15 h.length 26 (codeOf f26) (RG.mk (regs [a0,a1,a2]) []) h (RetQ prog [.tmp 6] h.length K) =
(aBin prog .lss 3 a0 a1 fun v1 =>
cnd v1
(retL h.length K [] [(vint 7)] h)
(aBin prog .gtr 3 a0 a2 fun v2 =>
cnd v2
(retL h.length K [] [(vint 6)] h)
(retL h.length K [] [(vint 0)] h))) := top_eq pok26 ct26 (by kernel_rfl)
theorem g26 (hJ : Closed prog main J) {a0 a1 a2 : Value} (hs : heapOk h → W prog J 15 h.length 26 (codeOf f26) (RG.mk (regs [a0,a1,a2]) []) h (RetQ prog [.tmp 6] h.length K)) : Good prog J 26 [a0,a1,a2] h K :=
 good_of_W hJ mixed at26 body26 (by kernel_rfl) (Nat.le_of_ble_eq_true rfl) hs
theorem at42 : prog.funcs[42]? = some f42 := by kernel_rfl
theorem body42 : f42.body = some (codeOf f42) := by kernel_rfl
def pl42 : Plans := []
def ct42 : Cuts := .go
theorem pok42 : plansOk prog pl42 (codeOf f42) = true := by kernel_rfl
theorem e42 {a0 : Value} : W prog J 15 h.length 42 (codeOf f42) (RG.mk (regs [a0]) []) h (RetQ prog [.tmp 2] h.length K) =
(aLenS a0 fun v1 =>
Sem J 15 h.length 42 (subC [1,0,1,0] (codeOf f42)) (RG.p (RG.p (RG.p (RG.p (RG.mk (regs [a0]) []) 2 (vint 0)) 5 a0) 6 v1) 7 (vint 0)) h (contX pl42 prog J 15 h.length 42 ct42 [1,0,1,0] (codeOf f42) [] (RetQ prog [.tmp 2] h.length K))) := top_eq pok42 ct42 (by kernel_rfl)
theorem g42 (hJ : Closed prog main J) {a0 : Value} (hs : heapOk h → W prog J 15 h.length 42 (codeOf f42) (RG.mk (regs [a0]) []) h (RetQ prog [.tmp 2] h.length K)) : Good prog J 42 [a0] h K :=
 good_of_W hJ mixed at42 body42 (by kernel_rfl) (Nat.le_of_ble_eq_true rfl) hs
theorem s42_1 {f : RG} {nx0 : RG → List AObj → Prop} : W prog J 15 n0 42 (subC [1,0,1,0,0] (codeOf f42)) f h (thenK nx0 (contX pl42 prog J 15 n0 42 ct42 [1,0,1,0] (codeOf f42) [] (RetQ prog [.tmp 2] n0 K))) =
(aBin prog .lss 3 (f.r 7) (f.r 6) fun v1 =>
cnd v1
(aIdx 1 (f.r 5) (f.r 7) fun v2 =>
aLoad false 1 v2 h fun v3 =>
aBin prog .neq 36 v3 (vint 0) fun v4 =>
cnd v4
(retL n0 K f.ds [v3] h)
(aBin prog .add 3 (f.r 7) (vint 1) fun v5 =>
nx0 (RG.p (RG.p (RG.p (RG.p (RG.p (RG.p (RG.p (RG.p f 8 v1) 9 v2) 10 v3) 4 v3) 11 v3) 12 v4) 14 v5) 7 v5) h))
(retL n0 K f.ds [(vint 0)] h)) := sub_eq pok42 ct42 (by kernel_rfl)
theorem l42_1 (hJ : Closed prog main J) {S : Type} (μ : S → Nat) (I : S → RG → List AObj → Prop) (hI : ∀ s f h,I s f h → heapOk h → n0 ≤ h.length → W prog J 15 n0 42 (subC [1,0,1,0,0] (codeOf f42)) f h (thenK (Nx n0 μ I s) (contX pl42 prog J 15 n0 42 ct42 [1,0,1,0] (codeOf f42) [] (RetQ prog [.tmp 2] n0 K))))
 {s : S} {f : RG} (hi : Gets n0 I s f h) : Sem J 15 n0 42 (subC [1,0,1,0] (codeOf f42)) f h (contX pl42 prog J 15 n0 42 ct42 [1,0,1,0] (codeOf f42) [] (RetQ prog [.tmp 2] n0 K)) :=
 loop_rule hJ mixed (b := subC [1,0,1,0,0] (codeOf f42)) (by kernel_rfl) μ I hI hi
theorem at66 : prog.funcs[66]? = some f66 := by kernel_rfl
theorem body66 : f66.body = some (codeOf f66) := by kernel_rfl
def pl66 : Plans := []
def ct66 : Cuts := .go
theorem pok66 : plansOk prog pl66 (codeOf f66) = true := by kernel_rfl
theorem e66 {a0 : Value} : W prog J 9 h.length 66 (codeOf f66) (RG.mk (regs [a0]) []) h (RetQ prog [.tmp 2] h.length K) =
(aBox a0 h fun v1 h2 =>
aLoad true 6 v1 h2 fun v3 =>
aOff v1 0 fun v4 =>
aLoad false 1 v4 h2 fun v5 =>
aFill [(vint 0),(vint 0)] [(0,1,v5)] fun c6 =>
aFill [(vint 0),(vint 0),(vint 0),(vint 0),(vint 0),(vint 0),(vint 0),(vint 0)] [(0,6,v3),(6,2,(Value.agg ⟨c6⟩))] fun c7 =>
aBox (Value.agg ⟨c7⟩) h2 fun v8 h9 =>
retL h.length K [] [v8] h9) := top_eq pok66 ct66 (by kernel_rfl)
theorem g66 (hJ : Closed prog main J) {a0 : Value} (hs : heapOk h → W prog J 9 h.length 66 (codeOf f66) (RG.mk (regs [a0]) []) h (RetQ prog [.tmp 2] h.length K)) : Good prog J 66 [a0] h K :=
 good_of_W hJ mixed at66 body66 (by kernel_rfl) (Nat.le_of_ble_eq_true rfl) hs
theorem at67 : prog.funcs[67]? = some f67 := by kernel_rfl
theorem body67 : f67.body = some (codeOf f67) := by kernel_rfl
def pl67 : Plans := [(2,true,.take 0 (.take 1 (.take 2 (.take 3 (.take 4 (.take 5 (.take 6 (.take 7 (.take 8 (.take 9 (.take 10 (.take 11 (.take 12 (.take 13 (.take 14 (.take 15 (.last 16 false (.fin)))))))))))))))))),
 (3,true,.take 0 (.take 1 (.take 2 (.take 3 (.take 4 (.take 5 (.take 6 (.take 7 (.take 8 (.take 9 (.take 10 (.take 11 (.take 12 (.take 13 (.take 14 (.take 15 (.fin))))))))))))))))),
 (10,true,.take 0 (.take 1 (.take 2 (.take 3 (.take 4 (.take 5 (.take 6 (.take 7 (.take 8 (.take 9 (.take 10 (.take 11 (.take 12 (.take 13 (.take 14 (.take 15 (.take 16 (.take 17 (.take 18 (.take 19 (.take 20 (.last 21 false (.fin))))))))))))))))))))))),
 (4,true,.take 0 (.take 1 (.take 2 (.take 3 (.take 4 (.take 5 (.take 6 (.take 7 (.take 8 (.take 9 (.take 10 (.take 11 (.take 12 (.take 13 (.take 14 (.take 15 (.take 16 (.take 17 (.take 18 (.take 19 (.take 20 (.last 21 false (.fin)))))))))))))))))))))))]
def ct67 : Cuts := .bin (.go) (.bin (.go) (.bin (.go) (.bin (.go) (.cut (.go)))))
theorem pok67 : plansOk prog pl67 (codeOf f67) = true := by kernel_rfl
theorem e67 {a0 a1 a2 : Value} : W prog J 119 h.length 67 (codeOf f67) (RG.mk (regs [a0,a1,a2]) []) h (RetQ prog [.tmp 6,.tmp 7] h.length K) =
(aNil a0 fun v1 =>
aOff v1 6 fun v2 =>
aOff v2 0 fun v3 =>
aLoad false 1 v3 h fun v4 =>
aBin prog .gtr 3 a1 v4 fun v5 =>
aNil a0 fun v6 =>
aOff v6 6 fun v7 =>
aOff v7 0 fun v8 =>
aLoad false 1 v8 h fun v9 =>
aNil a0 fun v10 =>
aOff v10 6 fun v11 =>
aOff v11 0 fun v12 =>
aLoad false 1 v12 h fun v13 =>
aMin a1 [v13] fun v14 =>
aBin prog .sub 3 v9 v14 fun v15 =>
aNil a0 fun v16 =>
aOff v16 6 fun v17 =>
aOff v17 0 fun v18 =>
aStore 1 v18 v15 h fun h19 =>
aBin prog .gtr 3 a1 (vint 0) fun v20 =>
cnd v20
(aNil a0 fun v21 =>
aOff v21 6 fun v22 =>
aOff v22 0 fun v23 =>
aLoad false 1 v23 h19 fun v24 =>
aNil a0 fun v25 =>
aOff v25 0 fun v26 =>
aOff v26 4 fun v27 =>
aLoad false 1 v27 h19 fun v28 =>
aBin prog .lss 3 v24 v28 fun v29 =>
Hold (W prog J 119 h.length 67 (subC [1,1,1,1] (codeOf f67)) (RG.p (RG.p (RG.p (RG.p (RG.p (RG.p (RG.p (RG.p (RG.p (RG.p (RG.p (RG.p (RG.p (RG.p (RG.p (RG.p (RG.p (RG.p (RG.p (RG.p (RG.p (RG.p (RG.p (RG.p (RG.p (RG.p (RG.p (RG.p (RG.p (RG.p (RG.p (RG.p (RG.p (RG.p (RG.p (RG.p (RG.p (RG.p (RG.p (RG.p (RG.p (RG.p (RG.p (RG.mk (regs [a0,a1,a2]) []) 6 (Value.bool false)) 7 (Value.bool false)) 8 a1) 9 a0) 10 v1) 11 v2) 12 v3) 13 v4) 14 v5) 6 v5) 15 a0) 16 v6) 17 v7) 18 v8) 19 v9) 20 a1) 21 a0) 22 v10) 23 v11) 24 v12) 25 v13) 26 v14) 27 v15) 28 v16) 29 v17) 30 v18) 31 a1) 32 v20) 33 v20) 33 (Value.bool true)) 34 a0) 35 v21) 36 v22) 37 v23) 38 v24) 39 a0) 40 v25) 41 v26) 42 v27) 43 v28) 44 v29) 45 v29) 7 v29) h19 (contX pl67 prog J 119 h.length 67 ct67 [1,1,1,1] (codeOf f67) [] (RetQ prog [.tmp 6,.tmp 7] h.length K))))
(Hold (W prog J 119 h.length 67 (subC [1,1,1,1] (codeOf f67)) (RG.p (RG.p (RG.p (RG.p (RG.p (RG.p (RG.p (RG.p (RG.p (RG.p (RG.p (RG.p (RG.p (RG.p (RG.p (RG.p (RG.p (RG.p (RG.p (RG.p (RG.p (RG.p (RG.p (RG.p (RG.p (RG.p (RG.p (RG.p (RG.p (RG.p (RG.p (RG.p (RG.p (RG.p (RG.p (RG.p (RG.p (RG.p (RG.p (RG.p (RG.p (RG.p (RG.p (RG.mk (regs [a0,a1,a2]) []) 6 (Value.bool false)) 7 (Value.bool false)) 8 a1) 9 a0) 10 v1) 11 v2) 12 v3) 13 v4) 14 v5) 6 v5) 15 a0) 16 v6) 17 v7) 18 v8) 19 v9) 20 a1) 21 a0) 22 v10) 23 v11) 24 v12) 25 v13) 26 v14) 27 v15) 28 v16) 29 v17) 30 v18) 31 a1) 32 v20) 33 v20) 33 (Value.bool false)) 34 undef) 35 undef) 36 undef) 37 undef) 38 undef) 39 undef) 40 undef) 41 undef) 42 undef) 43 undef) 44 undef) 45 (Value.bool false)) 7 (Value.bool false)) h19 (contX pl67 prog J 119 h.length 67 ct67 [1,1,1,1] (codeOf f67) [] (RetQ prog [.tmp 6,.tmp 7] h.length K))))) := top_eq pok67 ct67 (by kernel_rfl)
theorem g67 (hJ : Closed prog main J) {a0 a1 a2 : Value} (hs : heapOk h → W prog J 119 h.length 67 (codeOf f67) (RG.mk (regs [a0,a1,a2]) []) h (RetQ prog [.tmp 6,.tmp 7] h.length K)) : Good prog J 67 [a0,a1,a2] h K :=
 good_of_W hJ mixed at67 body67 (by kernel_rfl) (Nat.le_of_ble_eq_true rfl) hs
theorem s67_1 {f : RG} : W prog J 119 n0 67 (subC [1,1,1,1] (codeOf f67)) f h (contX pl67 prog J 119 n0 67 ct67 [1,1,1,1] (codeOf f67) [] (RetQ prog [.tmp 6,.tmp 7] n0 K)) =
(cnd (f.r 7)
(aNil (f.r 0) fun v1 =>
aOff v1 0 fun v2 =>
aOff v2 5 fun v3 =>
aLoad false 1 v3 h fun v4 =>
aNil (f.r 0) fun v5 =>
aOff v5 6 fun v6 =>
aOff v6 1 fun v7 =>
aStore 1 v7 v4 h fun h8 =>
retL n0 K f.ds [(f.r 6),(f.r 7)] h8)
(aNil (f.r 0) fun v9 =>
aOff v9 6 fun v10 =>
aOff v10 1 fun v11 =>
aLoad false 1 v11 h fun v12 =>
aBin prog .gtr 3 v12 (vint 0) fun v13 =>
cnd v13
(aNil (f.r 0) fun v14 =>
aOff v14 6 fun v15 =>
aOff v15 1 fun v16 =>
aLoad false 1 v16 h fun v17 =>
aBin prog .sub 3 v17 (vint 1) fun v18 =>
aNil (f.r 0) fun v19 =>
aOff v19 6 fun v20 =>
aOff v20 1 fun v21 =>
aStore 1 v21 v18 h fun h22 =>
retL n0 K f.ds [(f.r 6),(f.r 7)] h22)
(cnd (f.r 2)
(aNil (f.r 0) fun v23 =>
aOff v23 0 fun v24 =>
aOff v24 1 fun v25 =>
aLoad false 1 v25 h fun v26 =>
aNil (f.r 0) fun v27 =>
aOff v27 6 fun v28 =>
aOff v28 0 fun v29 =>
aLoad false 1 v29 h fun v30 =>
aNil (f.r 0) fun v31 =>
aOff v31 0 fun v32 =>
aOff v32 3 fun v33 =>
aLoad false 1 v33 h fun v34 =>
aBin prog .add 3 v30 v34 fun v35 =>
aMin v26 [v35] fun v36 =>
aNil (f.r 0) fun v37 =>
aOff v37 6 fun v38 =>
aOff v38 0 fun v39 =>
aStore 1 v39 v36 h fun h40 =>
retL n0 K f.ds [(f.r 6),(f.r 7)] h40)
(aNil (f.r 0) fun v41 =>
aOff v41 0 fun v42 =>
aOff v42 1 fun v43 =>
aLoad false 1 v43 h fun v44 =>
aNil (f.r 0) fun v45 =>
aOff v45 6 fun v46 =>
aOff v46 0 fun v47 =>
aLoad false 1 v47 h fun v48 =>
aNil (f.r 0) fun v49 =>
aOff v49 0 fun v50 =>
aOff v50 2 fun v51 =>
aLoad false 1 v51 h fun v52 =>
aBin prog .add 3 v48 v52 fun v53 =>
aMin v44 [v53] fun v54 =>
aNil (f.r 0) fun v55 =>
aOff v55 6 fun v56 =>
aOff v56 0 fun v57 =>
aStore 1 v57 v54 h fun h58 =>
retL n0 K f.ds [(f.r 6),(f.r 7)] h58)))) := sub_eq pok67 ct67 (by kernel_rfl)
theorem at57 : prog.funcs[57]? = some f57 := by kernel_rfl
theorem body57 : f57.body = some (codeOf f57) := by kernel_rfl
def pl57 : Plans := [(6,false,.take 0 (.take 1 (.take 2 (.take 3 (.take 4 (.take 5 (.take 6 (.take 7 (.take 8 (.last 9 true (.take 10 (.fin))))))))))))]
def ct57 : Cuts := .bin (.go) (.bin (.go) (.bin (.go) (.bin (.go) (.cut (.go)))))
theorem pok57 : plansOk prog pl57 (codeOf f57) = true := by kernel_rfl
theorem e57 {a0 a1 a2 : Value} : W prog J 30 h.length 57 (codeOf f57) (RG.mk (regs [a0,a1,a2]) []) h (RetQ prog [.cell 6 91,.tmp 7] h.length K) =
(aBox a0 h fun v1 h2 =>
aBox a1 h2 fun v3 h4 =>
aAlloc [(Value.int .u8 0),(vint 0)] h4 fun v5 h6 =>
aOff v1 0 fun v7 =>
aLoad false 1 v7 h6 fun v8 =>
aBin prog .neq 5 v8 a2 fun v9 =>
cnd v9
(aFill [(Value.int .u8 0),(vint 0)] [(0,1,a2),(1,1,(vint 1))] fun c10 =>
aStore 2 v5 (Value.agg ⟨c10⟩) h6 fun h11 =>
RetQ prog [.cell 6 91,.tmp 7] h.length K .ret (RG.p (RG.p (RG.p (RG.p (RG.p (RG.p (RG.p (RG.p (RG.p (RG.p (RG.p (RG.mk (regs [a0,a1,a2]) []) 3 v1) 4 v3) 6 v5) 7 (Value.bool false)) 9 v7) 10 v8) 11 a2) 12 v9) 13 a2) 14 (Value.agg ⟨c10⟩)) 7 (Value.bool true)) h11)
(aOff v3 1 fun v12 =>
aLoad false 1 v12 h6 fun v13 =>
aBin prog .eql 5 a2 (Value.int .u8 119) fun v14 =>
cnd v14
(aOff v3 2 fun v15 =>
aLoad false 1 v15 h6 fun v16 =>
Hold (W prog J 30 h.length 57 (subC [1,1,1,1] (codeOf f57)) (RG.p (RG.p (RG.p (RG.p (RG.p (RG.p (RG.p (RG.p (RG.p (RG.p (RG.p (RG.p (RG.p (RG.p (RG.p (RG.p (RG.mk (regs [a0,a1,a2]) []) 3 v1) 4 v3) 6 v5) 7 (Value.bool false)) 9 v7) 10 v8) 11 a2) 12 v9) 15 v12) 16 v13) 8 v13) 17 a2) 18 v14) 19 v15) 20 v16) 8 v16) h6 (contX pl57 prog J 30 h.length 57 ct57 [1,1,1,1] (codeOf f57) [] (RetQ prog [.cell 6 91,.tmp 7] h.length K))))
(Hold (W prog J 30 h.length 57 (subC [1,1,1,1] (codeOf f57)) (RG.p (RG.p (RG.p (RG.p (RG.p (RG.p (RG.p (RG.p (RG.p (RG.p (RG.p (RG.p (RG.p (RG.mk (regs [a0,a1,a2]) []) 3 v1) 4 v3) 6 v5) 7 (Value.bool false)) 9 v7) 10 v8) 11 a2) 12 v9) 15 v12) 16 v13) 8 v13) 17 a2) 18 v14) h6 (contX pl57 prog J 30 h.length 57 ct57 [1,1,1,1] (codeOf f57) [] (RetQ prog [.cell 6 91,.tmp 7] h.length K)))))) := top_eq pok57 ct57 (by kernel_rfl)
theorem g57 (hJ : Closed prog main J) {a0 a1 a2 : Value} (hs : heapOk h → W prog J 30 h.length 57 (codeOf f57) (RG.mk (regs [a0,a1,a2]) []) h (RetQ prog [.cell 6 91,.tmp 7] h.length K)) : Good prog J 57 [a0,a1,a2] h K :=
 good_of_W hJ mixed at57 body57 (by kernel_rfl) (Nat.le_of_ble_eq_true rfl) hs
theorem s57_1 {f : RG} : W prog J 30 n0 57 (subC [1,1,1,1] (codeOf f57)) f h (contX pl57 prog J 30 n0 57 ct57 [1,1,1,1] (codeOf f57) [] (RetQ prog [.cell 6 91,.tmp 7] n0 K)) =
((∃ B,aOff (f.r 3) 1 fun v1 =>
aLoad false 1 v1 h fun v2 =>
RdOk (some B) (ptrBlk v1) ∧ (aBin prog .add 3 v2 (vint 1) fun v3 =>
aFill [(Value.int .u8 0),(vint 0)] [(0,1,(f.r 2)),(1,1,v3)] fun c4 =>
aOff (f.r 3) 1 fun v5 =>
aLoad false 1 v5 h fun v6 =>
RdOk (some B) (ptrBlk v5) ∧ (aBin prog .lss 3 v6 (f.r 8) fun v7 =>
aStore 2 (f.r 6) (Value.agg ⟨c4⟩) h fun h8 =>
SameB (some B) h h8 ∧ (RetQ prog [.cell 6 91,.tmp 7] n0 K .ret (RG.p (RG.p (RG.p (RG.p (RG.p (RG.p (RG.p (RG.p (RG.p (RG.p f 21 (f.r 2)) 22 v1) 23 v2) 24 v3) 25 (Value.agg ⟨c4⟩)) 26 v5) 27 v6) 28 (f.r 8)) 29 v7) 7 v7) h8))))) := sub_eq pok57 ct57 (by kernel_rfl)
end
end Go.Proofs.Yteoenhhmcpipoaa
namespace Go.Proofs.Yteoenhhmcpipoaa
open Go.Conc
section
variable {P : Program} {t : TypeId} {K : Value → Prop} {H : Value → List AObj → Prop} {HL : List AObj → Prop} {a b : Int} {h g : List AObj} {A B : Prop}
theorem box_agg {cs : List Value} (h1 : cs.all one = true) (hk : H (ptr h.length 0) (h ++ [.cells cs true 0])) : aBox (.agg ⟨cs⟩) h H := ⟨h1,hk⟩
theorem box_one {v : Value} (hc : v.cells = #[v]) (h1 : one v = true) (hk : H (ptr h.length 0) (h ++ [.cells [v] true 0])) : aBox v h H := by
 unfold aBox
 rw [hc]
 exact ⟨by simpa using h1,hk⟩
theorem load_part {b o s : Nat} {cs c : List Value} {wr : Bool} {sz : Nat} (hb : h[b]? = some (.cells cs wr sz)) (hl : o + s ≤ cs.length) (hc : (cs.drop o).take s = c) (hn : kn c = true) (hk : K (.agg ⟨c⟩)) : aLoad true s (ptr b o) h K := by
 simp only [aLoad,hb,cond_true,hc]
 exact ⟨hl,hn,hk⟩
theorem store_agg {b : Nat} {cs c : List Value} {s : Nat} {sz : Nat} (hb : h[b]? = some (.cells cs true sz)) (hl : c.length = s) (hs : cs.length = s) (h1 : c.all one = true) (hk : HL (h.set b (.cells c true sz))) : aStore s (ptr b 0) (.agg ⟨c⟩) h HL := by
 have e : ∀ (c cs : List Value) (pre : List Value),cs.length = c.length → wrAt (pre ++ cs) pre.length c = pre ++ c := by
  intro c
  induction c with
  | nil =>
   intro cs pre h
   have : cs = [] := List.length_eq_zero_iff.1 (by simpa using h)
   subst this
   rfl
  | cons x c ih =>
   intro cs pre h
   cases cs with
   | nil => simp at h
   | cons y cs =>
    unfold wrAt
    have := ih cs (pre ++ [x]) (by simpa using h)
    simp only [List.length_append,List.length_cons,List.length_nil,List.append_assoc,List.cons_append,List.nil_append] at this
    simp only [List.set_append_right _ _ (Nat.le_refl _),Nat.sub_self,List.set_cons_zero]
    exact this
 simp only [aStore,hb,Value.cells]
 refine ⟨by simpa using hl,h1,by omega,?_⟩
 have := e c cs [] (by omega)
 simp only [List.nil_append,List.length_nil] at this
 rw [this]
 exact hk
theorem resW_cell {rs : List ResultVar} {r : Nat → Value} {x : Nat} {gg : Bool} {s : Nat} {KL : List Value → Prop} (ht : tk P t = some (gg,s)) (hk : aLoad gg s (r x) h fun v => resW P rs r h fun vs => KL (v :: vs)) : resW P (.cell x t :: rs) r h KL := by
 unfold resW
 rw [ht]
 exact hk
theorem resW_tmp {rs : List ResultVar} {r : Nat → Value} {x : Nat} {KL : List Value → Prop} (hn : r x ≠ unk) (hk : resW P rs r h fun vs => KL (r x :: vs)) : resW P (.tmp x :: rs) r h KL := ⟨hn,hk⟩
theorem resW_nil {r : Nat → Value} {KL : List Value → Prop} (hk : KL []) : resW P [] r h KL := hk
theorem resW_imp : ∀ (rs : List ResultVar) {r : Nat → Value} {h : List AObj} {K K' : List Value → Prop},resW P rs r h K → (∀ vs,K vs → K' vs) → resW P rs r h K'
 | [],r,h,K,K',hx,hk => hk _ hx
 | .tmp t :: rs,r,h,K,K',hx,hk => ⟨hx.1,resW_imp rs hx.2 fun vs => hk _⟩
 | .cell a t :: rs,r,h,K,K',hx,hk => by
  unfold resW at hx ⊢
  split at hx
  ·obtain ⟨v,k1,k2⟩ := pin_aLoad _ hx
   exact k2 (fun v => resW P rs r h fun vs => K' (v :: vs)) (resW_imp rs k1 fun vs => hk _)
  ·exact hx.elim
theorem retQ_drop {rs : List ResultVar} {n0 : Nat} {f : RG} (ds : f.ds = []) (ok : heapOk h) (hn : n0 ≤ h.length) (hr : resW P rs f.r (h ++ g) fun vs => VOk h.length (pack vs) ∧ H (pack vs) h) : RetQ P rs n0 H .ret f (h ++ g) := by
 unfold RetQ
 rw [ds]
 exact resW_imp rs hr fun vs hv => .inr ⟨id,h,pack vs,gc_drop ok hn,(sub_id hv.1).symm,hv.1,hv.2⟩
end
end Go.Proofs.Yteoenhhmcpipoaa
namespace Go.Proofs.Yteoenhhmcpipoaa
open Go.Conc Go.Proofs.Try
set_option maxRecDepth 100000
set_option maxHeartbeats 4000000
set_option linter.unusedVariables false
section
variable {main : Bool} {J : JT} {n0 : Nat} {h : List AObj} {K : Value → List AObj → Prop}
theorem at37 : prog.funcs[37]? = some f37 := by kernel_rfl
theorem body37 : f37.body = some (codeOf f37) := by kernel_rfl
theorem e37 {a0 : Value} : W prog J 72 h.length 37 (codeOf f37) (RG.mk (regs [a0]) []) h (RetQ prog [.tmp 2] h.length K) =
(aNil a0 fun v1 =>
aOff v1 1 fun v2 =>
aLoad false 1 v2 h fun v3 =>
aConvI .u64 v3 fun v4 =>
aNil a0 fun v5 =>
aOff v5 1 fun v6 =>
aLoad false 1 v6 h fun v7 =>
aNil a0 fun v8 =>
aOff v8 0 fun v9 =>
aLoad false 1 v9 h fun v10 =>
aLenS v10 fun v11 =>
aBin prog .lss 3 v7 v11 fun v12 =>
cnd v12
(aNil a0 fun v13 =>
aOff v13 0 fun v14 =>
aLoad false 1 v14 h fun v15 =>
aNil a0 fun v16 =>
aOff v16 1 fun v17 =>
aLoad false 1 v17 h fun v18 =>
aIdx 1 v15 v18 fun v19 =>
aLoad false 1 v19 h fun v20 =>
aConvI .u64 v20 fun v21 =>
aNil a0 fun v22 =>
aOff v22 1 fun v23 =>
aLoad false 1 v23 h fun v24 =>
aBin prog .add 3 v24 (vint 1) fun v25 =>
aNil a0 fun v26 =>
aOff v26 1 fun v27 =>
aStore 1 v27 v25 h fun h28 =>
aNil a0 fun v29 =>
aOff v29 2 fun v30 =>
aLoad false 1 v30 h28 fun v31 =>
aBin prog .mul 49 v21 (Value.int .u64 11400714819323198485) fun v32 =>
aBin prog .xor 49 v31 v32 fun v33 =>
aBin prog .shl 49 v33 (Value.int .u64 13) fun v34 =>
aBin prog .xor 49 v33 v34 fun v35 =>
aBin prog .shr 49 v35 (Value.int .u64 7) fun v36 =>
aBin prog .xor 49 v35 v36 fun v37 =>
aBin prog .shl 49 v37 (Value.int .u64 17) fun v38 =>
aBin prog .xor 49 v37 v38 fun v39 =>
aBin prog .add 49 v39 (Value.int .u64 7146057691288625177) fun v40 =>
aNil a0 fun v41 =>
aOff v41 2 fun v42 =>
aStore 1 v42 v40 h28 fun h43 =>
aBin prog .shr 49 v39 (Value.int .u64 31) fun v44 =>
aBin prog .xor 49 v39 v44 fun v45 =>
aBin prog .mul 49 v45 (Value.int .u64 13787848793156543929) fun v46 =>
aBin prog .shr 49 v46 (Value.int .u64 29) fun v47 =>
aBin prog .xor 49 v46 v47 fun v48 =>
aBin prog .shr 49 v48 (Value.int .u64 11) fun v49 =>
retL h.length K [] [v49] h43)
(aNil a0 fun v50 =>
aOff v50 1 fun v51 =>
aLoad false 1 v51 h fun v52 =>
aBin prog .add 3 v52 (vint 1) fun v53 =>
aNil a0 fun v54 =>
aOff v54 1 fun v55 =>
aStore 1 v55 v53 h fun h56 =>
aNil a0 fun v57 =>
aOff v57 2 fun v58 =>
aLoad false 1 v58 h56 fun v59 =>
aBin prog .mul 49 v4 (Value.int .u64 11400714819323198485) fun v60 =>
aBin prog .xor 49 v59 v60 fun v61 =>
aBin prog .shl 49 v61 (Value.int .u64 13) fun v62 =>
aBin prog .xor 49 v61 v62 fun v63 =>
aBin prog .shr 49 v63 (Value.int .u64 7) fun v64 =>
aBin prog .xor 49 v63 v64 fun v65 =>
aBin prog .shl 49 v65 (Value.int .u64 17) fun v66 =>
aBin prog .xor 49 v65 v66 fun v67 =>
aBin prog .add 49 v67 (Value.int .u64 7146057691288625177) fun v68 =>
aNil a0 fun v69 =>
aOff v69 2 fun v70 =>
aStore 1 v70 v68 h56 fun h71 =>
aBin prog .shr 49 v67 (Value.int .u64 31) fun v72 =>
aBin prog .xor 49 v67 v72 fun v73 =>
aBin prog .mul 49 v73 (Value.int .u64 13787848793156543929) fun v74 =>
aBin prog .shr 49 v74 (Value.int .u64 29) fun v75 =>
aBin prog .xor 49 v74 v75 fun v76 =>
aBin prog .shr 49 v76 (Value.int .u64 11) fun v77 =>
retL h.length K [] [v77] h71)) := by kernel_rfl
theorem g37 (hJ : Closed prog main J) {a0 : Value} (hs : heapOk h → W prog J 72 h.length 37 (codeOf f37) (RG.mk (regs [a0]) []) h (RetQ prog [.tmp 2] h.length K)) : Good prog J 37 [a0] h K :=
 good_of_W hJ mixed at37 body37 (by kernel_rfl) (Nat.le_of_ble_eq_true rfl) hs
theorem at13 : prog.funcs[13]? = some f13 := by kernel_rfl
theorem body13 : f13.body = some (codeOf f13) := by kernel_rfl
theorem e13 {a0 a1 : Value} : W prog J 14 h.length 13 (codeOf f13) (RG.mk (regs [a0,a1]) []) h (RetQ prog [.tmp 4] h.length K) =
(aBin prog .leq 3 a1 (vint 0) fun v1 =>
cnd v1
(retL h.length K [] [(vint 0)] h)
(Good prog J 37 [a0] h fun v2 h3 =>
aBin prog .add 3 a1 (vint 1) fun v4 =>
aConvI .u64 v4 fun v5 =>
aBin prog .rem 49 v2 v5 fun v6 =>
aConvI .i64 v6 fun v7 =>
retL h.length K [] [v7] h3)) := by kernel_rfl
theorem g13 (hJ : Closed prog main J) {a0 a1 : Value} (hs : heapOk h → W prog J 14 h.length 13 (codeOf f13) (RG.mk (regs [a0,a1]) []) h (RetQ prog [.tmp 4] h.length K)) : Good prog J 13 [a0,a1] h K :=
 good_of_W hJ mixed at13 body13 (by kernel_rfl) (Nat.le_of_ble_eq_true rfl) hs
theorem at5 : prog.funcs[5]? = some f5 := by kernel_rfl
theorem body5 : f5.body = some (codeOf f5) := by kernel_rfl
theorem e5 {a0 a1 a2 : Value} : W prog J 14 h.length 5 (codeOf f5) (RG.mk (regs [a0,a1,a2]) []) h (RetQ prog [.tmp 6] h.length K) =
(aBin prog .sub 3 a2 a1 fun v1 =>
Good prog J 13 [a0,v1] h fun v2 h3 =>
aBin prog .add 3 a1 v2 fun v4 =>
retL h.length K [] [v4] h3) := by kernel_rfl
theorem g5 (hJ : Closed prog main J) {a0 a1 a2 : Value} (hs : heapOk h → W prog J 14 h.length 5 (codeOf f5) (RG.mk (regs [a0,a1,a2]) []) h (RetQ prog [.tmp 6] h.length K)) : Good prog J 5 [a0,a1,a2] h K :=
 good_of_W hJ mixed at5 body5 (by kernel_rfl) (Nat.le_of_ble_eq_true rfl) hs
theorem at4 : prog.funcs[4]? = some f4 := by kernel_rfl
theorem body4 : f4.body = some (codeOf f4) := by kernel_rfl
theorem e4 {a0 : Value} : W prog J 6 h.length 4 (codeOf f4) (RG.mk (regs [a0]) []) h (RetQ prog [.tmp 2] h.length K) =
(aFill [(Value.slice none 0 0),(vint 0),(Value.int .u64 0)] [(0,1,a0),(2,1,(Value.int .u64 88172645463325252))] fun c1 =>
aBox (Value.agg ⟨c1⟩) h fun v2 h3 =>
retL h.length K [] [v2] h3) := by kernel_rfl
theorem g4 (hJ : Closed prog main J) {a0 : Value} (hs : heapOk h → W prog J 6 h.length 4 (codeOf f4) (RG.mk (regs [a0]) []) h (RetQ prog [.tmp 2] h.length K)) : Good prog J 4 [a0] h K :=
 good_of_W hJ mixed at4 body4 (by kernel_rfl) (Nat.le_of_ble_eq_true rfl) hs
theorem at14 : prog.funcs[14]? = some f14 := by kernel_rfl
theorem body14 : f14.body = some (codeOf f14) := by kernel_rfl
theorem e14 {a0 a1 a2 : Value} : W prog J 20 h.length 14 (codeOf f14) (RG.mk (regs [a0,a1,a2]) []) h (RetQ prog [.tmp 6] h.length K) =
(aLenS a2 fun v1 =>
Good prog J 13 [a0,v1] h fun v2 h3 =>
aBin prog .gtr 3 v2 (vint 0) fun v4 =>
cnd v4
(aBin prog .sub 3 v2 (vint 1) fun v5 =>
aIdx 1 a2 v5 fun v6 =>
aLoad false 1 v6 h3 fun v7 =>
retL h.length K [] [v7] h3)
(retL h.length K [] [a1] h3)) := by kernel_rfl
theorem g14 (hJ : Closed prog main J) {a0 a1 a2 : Value} (hs : heapOk h → W prog J 20 h.length 14 (codeOf f14) (RG.mk (regs [a0,a1,a2]) []) h (RetQ prog [.tmp 6] h.length K)) : Good prog J 14 [a0,a1,a2] h K :=
 good_of_W hJ mixed at14 body14 (by kernel_rfl) (Nat.le_of_ble_eq_true rfl) hs
theorem at25 : prog.funcs[25]? = some f25 := by kernel_rfl
theorem body25 : f25.body = some (codeOf f25) := by kernel_rfl
theorem e25 {a0 a1 : Value} : W prog J 26 h.length 25 (codeOf f25) (RG.mk (regs [a0,a1]) []) h (RetQ prog [.tmp 4] h.length K) =
(aLenS a0 fun v1 =>
aLenS a1 fun v2 =>
aBin prog .neq 3 v1 v2 fun v3 =>
cnd v3
(retL h.length K [] [(Value.bool false)] h)
(Sem J 26 h.length 25 (subC [1,1,0,1,0] (codeOf f25)) (RG.p (RG.p (RG.p (RG.p (RG.p (RG.p (RG.p (RG.mk (regs [a0,a1]) []) 4 (Value.bool false)) 6 a0) 7 v1) 8 a1) 9 v2) 10 v3) 5 (vint 0)) h (contQ prog J 26 h.length 25 [1,1,0,1,0] (codeOf f25) [] (RetQ prog [.tmp 4] h.length K)))) := by kernel_rfl
theorem g25 (hJ : Closed prog main J) {a0 a1 : Value} (hs : heapOk h → W prog J 26 h.length 25 (codeOf f25) (RG.mk (regs [a0,a1]) []) h (RetQ prog [.tmp 4] h.length K)) : Good prog J 25 [a0,a1] h K :=
 good_of_W hJ mixed at25 body25 (by kernel_rfl) (Nat.le_of_ble_eq_true rfl) hs
theorem s25_1 {f : RG} {nx0 : RG → List AObj → Prop} : W prog J 26 n0 25 (subC [1,1,0,1,0,0] (codeOf f25)) f h (thenK nx0 (contQ prog J 26 n0 25 [1,1,0,1,0] (codeOf f25) [] (RetQ prog [.tmp 4] n0 K))) =
(aLenS (f.r 0) fun v1 =>
aBin prog .lss 3 (f.r 5) v1 fun v2 =>
cnd v2
(aIdx 1 (f.r 0) (f.r 5) fun v3 =>
aLoad false 1 v3 h fun v4 =>
aIdx 1 (f.r 1) (f.r 5) fun v5 =>
aLoad false 1 v5 h fun v6 =>
aBin prog .neq 3 v4 v6 fun v7 =>
cnd v7
(retL n0 K f.ds [(Value.bool false)] h)
(aBin prog .add 3 (f.r 5) (vint 1) fun v8 =>
nx0 (RG.p (RG.p (RG.p (RG.p (RG.p (RG.p (RG.p (RG.p (RG.p (RG.p (RG.p (RG.p (RG.p (RG.p (RG.p (RG.p f 11 (f.r 5)) 12 (f.r 0)) 13 v1) 14 v2) 17 (f.r 0)) 18 (f.r 5)) 19 v3) 20 v4) 21 (f.r 1)) 22 (f.r 5)) 23 v5) 24 v6) 25 v7) 15 (f.r 5)) 16 v8) 5 v8) h))
(retL n0 K f.ds [(Value.bool true)] h)) := by kernel_rfl
theorem l25_1 (hJ : Closed prog main J) {S : Type} (μ : S → Nat) (I : S → RG → List AObj → Prop) (hI : ∀ s f h,I s f h → heapOk h → n0 ≤ h.length → W prog J 26 n0 25 (subC [1,1,0,1,0,0] (codeOf f25)) f h (thenK (Nx n0 μ I s) (contQ prog J 26 n0 25 [1,1,0,1,0] (codeOf f25) [] (RetQ prog [.tmp 4] n0 K))))
 {s : S} {f : RG} (hi : Gets n0 I s f h) : Sem J 26 n0 25 (subC [1,1,0,1,0] (codeOf f25)) f h (contQ prog J 26 n0 25 [1,1,0,1,0] (codeOf f25) [] (RetQ prog [.tmp 4] n0 K)) :=
 loop_rule hJ mixed (b := subC [1,1,0,1,0,0] (codeOf f25)) (by kernel_rfl) μ I hI hi
end
end Go.Proofs.Yteoenhhmcpipoaa
namespace Go.Proofs.Yteoenhhmcpipoaa
open Go.Conc Go.Proofs.Try
structure HandAt (h : List AObj) (b : Nat) (nv : Value) (nums : List Int) (k : Nat) (s : Int) : Prop where
 at_ : h[b]? = some (.cells [nv,vint k,.int .u64 s] true 0)
 list : Sli h nv 1 nums.length (nums.map vint)
 sane : nums.length < 4611686018427387904
 few : k < 4611686018427387904
 lo : 0 ≤ s
 hi : s < 18446744073709551616
section
variable {main : Bool} {J : JT} {h : List AObj} {K : Value → List AObj → Prop}
theorem nil_ok {b o : Nat} {K : Value → Prop} : aNil (ptr b o) K = K (ptr b o) := rfl
theorem off_ok {b o d : Nat} {K : Value → Prop} : aOff (ptr b o) d K = K (ptr b (o + d)) := rfl
theorem conv_u {n : Int} {K : Value → Prop} (hk : ∀ y,0 ≤ y → y < 18446744073709551616 → K (.int .u64 y)) : aConvI .u64 (vint n) K := hk _ (wrapU _).1 (wrapU _).2
theorem u_shr11 {t : TypeId} {y : Int} (_h1 : 0 ≤ y) (_h2 : y < 18446744073709551616) {K : Value → Prop} : aBin prog .shr t (.int .u64 y) (.int .u64 11) K = K (.int .u64 (y / 2048)) := by
 have e : min (Int.toNat 11) IntKind.u64.bits = 11 := by decide
 simp only [aBin,aShift,e]
 rw [Int.fdiv_eq_ediv_of_nonneg _ (by decide)]
 simp
theorem set_twice {b : Nat} {x y : AObj} (hb : h[b]? = some x) : (h.set b y)[b]? = some y := by
 have : b < h.length := (List.getElem?_eq_some_iff.1 hb).1
 simp [this]
theorem good37 (hJ : Closed prog main J) {b : Nat} {nv : Value} {nums : List Int} {k : Nat} {s : Int} (H : HandAt h b nv nums k s)
  (hK : ∀ x s',0 ≤ x → x < 9007199254740992 → 0 ≤ s' → s' < 18446744073709551616 → K (.int .u64 x) (h.set b (.cells [nv,vint (k + 1),.int .u64 s'] true 0))) : Good prog J 37 [ptr b 0] h K := by
 refine g37 hJ fun ok => ?_
 rw [e37]
 obtain ⟨hb,hl,hsane,hfew,hlo,hhi⟩ := H
 have hnv : kn1 nv = true := by
  obtain ⟨_,_,rfl,_⟩ := hl
  rfl
 have l0 : ∀ K,aLoad false 1 (ptr b 0) h K = K nv := fun K => load_cell hb rfl hnv
 have l1 : ∀ K,aLoad false 1 (ptr b 1) h K = K (vint k) := fun K => load_cell hb rfl rfl
 -- what stands behind the joining of the ways
 have rest : ∀ x : Int,aBin prog .add 3 (vint k) (vint 1) fun v25 =>
   aStore 1 (ptr b 1) v25 h fun h28 =>
   aLoad false 1 (ptr b 2) h28 fun v31 =>
   aBin prog .mul 49 (.int .u64 x) (Value.int .u64 11400714819323198485) fun v32 =>
   aBin prog .xor 49 v31 v32 fun v33 =>
   aBin prog .shl 49 v33 (Value.int .u64 13) fun v34 =>
   aBin prog .xor 49 v33 v34 fun v35 =>
   aBin prog .shr 49 v35 (Value.int .u64 7) fun v36 =>
   aBin prog .xor 49 v35 v36 fun v37 =>
   aBin prog .shl 49 v37 (Value.int .u64 17) fun v38 =>
   aBin prog .xor 49 v37 v38 fun v39 =>
   aBin prog .add 49 v39 (Value.int .u64 7146057691288625177) fun v40 =>
   aStore 1 (ptr b 2) v40 h28 fun h43 =>
   aBin prog .shr 49 v39 (Value.int .u64 31) fun v44 =>
   aBin prog .xor 49 v39 v44 fun v45 =>
   aBin prog .mul 49 v45 (Value.int .u64 13787848793156543929) fun v46 =>
   aBin prog .shr 49 v46 (Value.int .u64 29) fun v47 =>
   aBin prog .xor 49 v46 v47 fun v48 =>
   aBin prog .shr 49 v48 (Value.int .u64 11) fun v49 =>
   retL h.length K [] [v49] h43 := by
  intro x
  rw [b_add (by omega)]
  refine store_cell hb (by simp) rfl rfl ?_
  have hb2 : (h.set b (.cells ([nv,vint k,.int .u64 s].set 1 (vint (k + 1))) true 0))[b]? = some (.cells [nv,vint (k + 1),.int .u64 s] true 0) := set_twice hb
  rw [load_cell hb2 rfl rfl]
  refine u_mul fun y1 a1 b1 => u_xor fun y2 a2 b2 => u_shl (by omega) fun y3 a3 b3 => u_xor fun y4 a4 b4 => u_shr (by omega) a4 b4 fun y5 a5 b5 => u_xor fun y6 a6 b6 => u_shl (by omega) fun y7 a7 b7 => u_xor fun y8 a8 b8 => u_add fun y9 a9 b9 => ?_
  refine store_cell hb2 (by simp) rfl rfl ?_
  refine u_shr (by omega) a8 b8 fun z1 c1 d1 => u_xor fun z2 c2 d2 => u_mul fun z3 c3 d3 => u_shr (by omega) c3 d3 fun z4 c4 d4 => u_xor fun z5 c5 d5 => ?_
  rw [u_shr11 c5 d5]
  refine retL_same (by simp [unk]) ?_
  rw [List.set_set]
  exact hK _ _ (by omega) (by omega) a9 b9
 simp only [nil_ok,off_ok,Nat.zero_add,l0,l1]
 refine conv_u fun x0 _ _ => ?_
 simp only [sli_len hl,b_lss,cnd_dec]
 refine ⟨fun hlt => idx_load hl ⟨by omega,by omega⟩ (map_get (by simpa using hlt)) fun p => conv_u fun x1 _ _ => rest x1,fun _ => rest x0⟩
def Dealt (h : List AObj) (b : Nat) (nv : Value) (k n : Nat) (h' : List AObj) : Prop :=
 ∃ (k' : Nat) (s' : Int),k' ≤ k + n ∧ 0 ≤ s' ∧ s' < 18446744073709551616 ∧ h' = h.set b (.cells [nv,vint k',.int .u64 s'] true 0)
theorem good13 (hJ : Closed prog main J) {b : Nat} {nv : Value} {nums : List Int} {k : Nat} {s m : Int} (H : HandAt h b nv nums k s) (hm : m < 9223372036854775807)
  (hK : ∀ y h',0 ≤ y → (y ≤ m ∨ y = 0) → Dealt h b nv k 1 h' → K (vint y) h') : Good prog J 13 [ptr b 0,vint m] h K := by
 refine g13 hJ fun ok => ?_
 rw [e13]
 simp only [b_leq,cnd_dec]
 refine ⟨fun h0 => retL_same (by simp [unk]) (hK 0 h (by omega) (.inr rfl) ⟨k,s,by omega,H.lo,H.hi,?_⟩),fun h0 => ?_⟩
 ·have hb : b < h.length := (List.getElem?_eq_some_iff.1 H.at_).1
  apply List.ext_getElem?
  intro i
  rw [List.getElem?_set]
  split
  ·rename_i e
   subst e
   exact H.at_
  ·rfl
 ·refine good37 hJ H fun x s' hx hx2 hs hs2 => ?_
  rw [b_add (by omega)]
  have e1 : ∀ n : Int,0 ≤ n → n < 9223372036854775808 → IntKind.u64.wrap n = n := fun n a b => by
   simp only [IntKind.wrap,IntKind.bits,IntKind.signed]
   simp
   omega
  have hmod : Int.tmod x (m + 1) = x % (m + 1) := Int.tmod_eq_emod_of_nonneg hx
  have h1 := Int.emod_nonneg x (b := m + 1) (by omega)
  have h2 := Int.emod_lt_of_pos x (b := m + 1) (by omega)
  simp only [aConvI,e1 (m + 1) (by omega) (by omega),aBin,aInt,true_and]
  rw [hmod,wrap64 (by omega) (by omega)]
  exact ⟨by omega,retL_same (by simp [unk]) (hK _ _ h1 (.inl (by omega)) ⟨k + 1,s',by omega,hs,hs2,rfl⟩)⟩
theorem good5 (hJ : Closed prog main J) {b : Nat} {nv : Value} {nums : List Int} {k : Nat} {s lo hi : Int} (H : HandAt h b nv nums k s) (h1 : -1000000000000 ≤ lo ∧ lo ≤ 1000000000000) (h2 : -1000000000000 ≤ hi ∧ hi ≤ 1000000000000)
  (hK : ∀ y h',lo ≤ y → (y ≤ hi ∨ y = lo) → Dealt h b nv k 1 h' → K (vint y) h') : Good prog J 5 [ptr b 0,vint lo,vint hi] h K := by
 refine g5 hJ fun ok => ?_
 rw [e5,b_sub (by omega)]
 refine good13 hJ H (by omega) fun y h' hy hy2 hd => ?_
 rw [b_add (by omega)]
 exact retL_same (by simp [unk]) (hK _ _ (by omega) (by omega) hd)
theorem good4 (hJ : Closed prog main J) {base : Option Addr} {n c : Nat}
  (hK : K (ptr h.length 0) (h ++ [.cells [.slice base n c,vint 0,.int .u64 88172645463325252] true 0])) : Good prog J 4 [.slice base n c] h K := by
 refine g4 hJ fun ok => ?_
 rw [e4]
 simp [aFill,aBox,wrAt,Value.cells,one]
 exact retL_same (vs := [ptr h.length 0]) (by simp [unk]) hK
theorem good14 (hJ : Closed prog main J) {b : Nat} {nv ov : Value} {nums others : List Int} {k : Nat} {s a : Int} (H : HandAt h b nv nums k s) (ho : ∀ h',Dealt h b nv k 1 h' → Sli h' ov 1 others.length (others.map vint)) (hl : others.length < 1000000)
  (hK : ∀ y h',(y = a ∨ y ∈ others) → Dealt h b nv k 1 h' → K (vint y) h') : Good prog J 14 [ptr b 0,vint a,ov] h K := by
 refine g14 hJ fun ok => ?_
 rw [e14]
 have hd0 : Dealt h b nv k 1 h := by
  refine ⟨k,s,by omega,H.lo,H.hi,?_⟩
  apply List.ext_getElem?
  intro i
  rw [List.getElem?_set]
  split
  ·rename_i e
   subst e
   have hb : b < h.length := (List.getElem?_eq_some_iff.1 H.at_).1
   rw [if_pos hb]
   exact H.at_
  ·rfl
 rw [sli_len (ho h hd0)]
 refine good13 hJ H (by omega) fun y h' hy hy2 hd => ?_
 simp only [b_gtr,cnd_dec]
 refine ⟨fun hg => ?_,fun _ => retL_same (by simp [unk]) (hK _ _ (.inl rfl) hd)⟩
 rw [b_sub (by omega)]
 refine idx_load (ho h' hd) ⟨by omega,by omega⟩ (map_get (by omega)) fun p => ?_
 refine retL_same (by simp [unk]) (hK _ _ (.inr ?_) hd)
 have : (y - 1).toNat < others.length := by omega
 simp only [List.getD_eq_getElem?_getD,List.getElem?_eq_getElem this,Option.getD_some]
 exact List.getElem_mem this
end
end Go.Proofs.Yteoenhhmcpipoaa
namespace Go.Proofs.Yteoenhhmcpipoaa
open Go.Conc Go.Proofs.Try
section
variable {main : Bool} {J : JT} {h : List AObj} {K : Value → List AObj → Prop}
theorem good25 (hJ : Closed prog main J) {av bv : Value} {xs ys : List Int} (ha : Sli h av 1 xs.length (xs.map vint)) (hb : Sli h bv 1 ys.length (ys.map vint)) (hl : xs.length < 4611686018427387904)
  (hK : K (.bool (decide (xs = ys))) h) : Good prog J 25 [av,bv] h K := by
 refine g25 hJ fun ok => ?_
 rw [e25]
 simp only [sli_len ha,sli_len hb,b_neq,cnd_dec]
 refine ⟨fun hne => retL_same (by simp [unk]) ?_,fun heq => ?_⟩
 ·have : xs ≠ ys := fun e => hne (by rw [e])
  simpa [pack,this] using hK
 ·have hlen : xs.length = ys.length := by omega
  refine l25_1 hJ (fun i => xs.length - i) (fun i f h' => h' = h ∧ f.ds = [] ∧ f.r 0 = av ∧ f.r 1 = bv ∧ f.r 5 = vint (i : Nat) ∧ i ≤ xs.length ∧ xs.take i = ys.take i) ?_ (s := 0) (.inl ⟨rfl,rfl,rfl,rfl,rfl,by omega,by simp⟩)
  rintro i f h' ⟨rfl,hds,h0,h1,h5,hi,ht⟩ _ hn
  rw [s25_1]
  simp only [h0,h1,h5,hds,sli_len ha,b_lss,cnd_dec]
  refine ⟨fun hlt => ?_,fun hge => ?_⟩
  ·have e1 : i < xs.length := by omega
   refine idx_load ha ⟨by omega,by omega⟩ (map_get (by omega)) fun p1 => ?_
   refine idx_load hb ⟨by omega,by omega⟩ (map_get (by omega)) fun p2 => ?_
   simp only [b_neq,cnd_dec,Int.toNat_natCast]
   refine ⟨fun hne => retL_same (by simp [unk]) ?_,fun heq => ?_⟩
   ·have : xs ≠ ys := fun e => hne (by rw [e])
    simpa [pack,this] using hK
   ·rw [b_add (by omega)]
    refine ⟨i + 1,by dsimp only; omega,.inl ⟨rfl,hds,h0,h1,rfl,by omega,?_⟩⟩
    have heq : xs.getD i 0 = ys.getD i 0 := by simpa using heq
    simp only [List.getD_eq_getElem?_getD,List.getElem?_eq_getElem e1,List.getElem?_eq_getElem (show i < ys.length by omega),Option.getD_some] at heq
    rw [List.take_add_one,List.take_add_one,ht,List.getElem?_eq_getElem e1,List.getElem?_eq_getElem (show i < ys.length by omega),heq]
  ·have : i = xs.length := by omega
   subst this
   rw [List.take_length,hlen,List.take_length] at ht
   refine retL_same (by simp [unk]) ?_
   simpa [pack,ht] using hK
end
end Go.Proofs.Yteoenhhmcpipoaa
namespace Go.Proofs.Yteoenhhmcpipoaa
open Go.Conc Go.Proofs.Try
section
variable {main : Bool} {J : JT} {h : List AObj} {K : Value → List AObj → Prop}
def HF (h : List AObj) (nv : Value) (k : Nat) (s : Int) (rest : List AObj) : List AObj := h ++ (.cells [nv,vint k,.int .u64 s] true 0 :: rest)
theorem hf_len {h : List AObj} {nv : Value} {k : Nat} {s : Int} {rest : List AObj} : (HF h nv k s rest).length = h.length + 1 + rest.length := by
 simp [HF]; omega
theorem hf_app {h : List AObj} {nv : Value} {k : Nat} {s : Int} {rest g : List AObj} : HF h nv k s rest ++ g = HF h nv k s (rest ++ g) := by
 simp [HF]
theorem hf_hand {h : List AObj} {nv : Value} {ns : List Int} {k : Nat} {s : Int} {rest : List AObj} (sn : Sli h nv 1 ns.length (ns.map vint)) (hln : ns.length < 4611686018427387904) (hk : k < 1000000) (h0 : 0 ≤ s) (h1 : s < 18446744073709551616) :
  HandAt (HF h nv k s rest) h.length nv ns k s :=
 ⟨by simp [HF],sli_app sn,hln,by omega,h0,h1⟩
theorem hf_dealt {h h' : List AObj} {nv : Value} {k n : Nat} {s : Int} {rest : List AObj} (hd : Dealt (HF h nv k s rest) h.length nv k n h') : ∃ k' s',k' ≤ k + n ∧ 0 ≤ s' ∧ s' < 18446744073709551616 ∧ h' = HF h nv k' s' rest := by
 obtain ⟨k',s',a,b,c,rfl⟩ := hd
 refine ⟨k',s',a,b,c,?_⟩
 simp [HF]
end
end Go.Proofs.Yteoenhhmcpipoaa
namespace Go.Proofs.Yteoenhhmcpipoaa
open Go.Conc Go.Proofs.Try
def SliE {α : Type} (h : List AObj) (v : Value) (s : Nat) (enc : α → List Value) (xs : List α) : Prop := Sli h v s xs.length (xs.flatMap enc)
theorem flat_take {α : Type} {enc : α → List Value} {s : Nat} (hen : ∀ x,(enc x).length = s) : ∀ (xs : List α) (i : Nat) (hi : i < xs.length),((xs.flatMap enc).drop (i * s)).take s = enc xs[i]
 | [],i,hi => by simp at hi
 | x :: xs,0,hi => by
  simp only [List.flatMap_cons,Nat.zero_mul,List.drop_zero,List.getElem_cons_zero]
  rw [List.take_append_of_le_length (by rw [hen]; exact Nat.le_refl _),List.take_of_length_le (by rw [hen]; exact Nat.le_refl _)]
 | x :: xs,i + 1,hi => by
  simp only [List.flatMap_cons,List.getElem_cons_succ]
  have : (i + 1) * s = (enc x).length + i * s := by rw [hen,Nat.succ_mul,Nat.add_comm]
  rw [this,← List.drop_drop,List.drop_left]
  exact flat_take hen xs i (by simpa using hi)
section
variable {h g : List AObj} {K : Value → Prop}
theorem sliE_len {α : Type} {v : Value} {s : Nat} {enc : α → List Value} {xs : List α} (hs : SliE h v s enc xs) : aLenS v K = K (vint xs.length) := sli_len hs
theorem sliE_elem {α : Type} {v : Value} {s : Nat} {enc : α → List Value} {xs : List α} (hen : ∀ x,(enc x).length = s) (hpos : 0 < s) (hs : SliE h v s enc xs) {i : Nat} (hi : i < xs.length) :
  ∃ b o cs wr sz,(∀ K : Value → Prop,K (ptr b o) → aIdx s v (vint i) K) ∧ h[b]? = some (.cells cs wr sz) ∧ o + s ≤ cs.length ∧ (cs.drop o).take s = enc xs[i] ∧ kn (enc xs[i]) = true := by
 obtain ⟨base,c,rfl,⟨hl,hkn⟩,hc⟩ := hs
 have hft := flat_take hen xs i hi
 have hmul : (i + 1) * s ≤ xs.length * s := Nat.mul_le_mul_right s (by omega)
 have hsucc : (i + 1) * s = i * s + s := Nat.succ_mul i s
 rcases hc with ⟨_,h0⟩ | ⟨b,o,rfl,h0 | ⟨cs,wr,sz,hb,hx⟩⟩
 ·omega
 ·omega
 ·rw [← hx] at hl hft
  simp only [List.length_take,List.length_drop] at hl
  refine ⟨b,o + i * s,cs,wr,sz,fun K hK => ?_,hb,by omega,?_,?_⟩
  ·rw [idx_ok]
   exact ⟨⟨by omega,by omega⟩,by simpa using hK⟩
  ·rw [← hft,List.drop_take,List.drop_drop,List.take_take]
   congr 1
   omega
  ·have : kn ((xs.flatMap enc).drop (i * s)) = true := by
    unfold kn at hkn ⊢
    rw [List.all_eq_true] at hkn ⊢
    exact fun y hy => hkn y (List.mem_of_mem_drop hy)
   rw [← flat_take hen xs i hi]
   unfold kn at this ⊢
   rw [List.all_eq_true] at this ⊢
   exact fun y hy => this y (List.mem_of_mem_take hy)
theorem part_get {cs e : List Value} {o s j : Nat} {x : Value} (ht : (cs.drop o).take s = e) (hx : e[j]? = some x) : cs[o + j]? = some x := by
 rw [← ht,List.getElem?_take] at hx
 split at hx
 ·rw [List.getElem?_drop] at hx
  exact hx
 ·cases hx
end
end Go.Proofs.Yteoenhhmcpipoaa
namespace Go.Proofs.Yteoenhhmcpipoaa
open Go.Conc Go.Proofs.Try
set_option maxRecDepth 100000
section
variable {main : Bool} {J : JT} {h A g : List AObj} {K : Value → List AObj → Prop} {KV : Value → Prop} {HL : List AObj → Prop} {H : Value → List AObj → Prop}
theorem a_min {a b : Int} : aMin (vint a) [vint b] KV = KV (vint (min a b)) := by
 show KV (vint (if b < a then b else a)) = _
 congr 2
 split <;> omega
theorem a_max {a b : Int} : aMax (vint a) [vint b] KV = KV (vint (max a b)) := by
 show KV (vint (if b > a then b else a)) = _
 congr 2
 split <;> omega
theorem back_get {i : Nat} : (A ++ g)[A.length + i]? = g[i]? := by
 rw [List.getElem?_append_right (by omega)]
 congr 1
 omega
theorem back_set {i : Nat} {o : AObj} : (A ++ g).set (A.length + i) o = A ++ g.set i o := by
 rw [List.set_append_right _ _ (by omega)]
 congr 2
 omega
def OwnE (n : Nat) (g : List AObj) (s : Nat) (cs : List Value) (len : Nat) (v : Value) (o : Option Nat) : Prop :=
 cs.length = len * s ∧ kn cs = true ∧ ((len = 0 ∧ v = .slice none 0 0 ∧ o = none) ∨ ∃ i c sz,o = some i ∧ v = .slice (some ⟨n + i,0,none⟩) len c ∧ g[i]? = some (.cells cs true sz) ∧ ((c = fz ∧ sz = s) ∨ c = len))
theorem get_app {i : Nat} {x : AObj} {g' : List AObj} (hx : g[i]? = some x) : (g ++ g')[i]? = some x := by
 rw [List.getElem?_append_left (List.getElem?_eq_some_iff.1 hx).1]
 exact hx
theorem get_set {i j : Nat} {x y : AObj} (hx : g[i]? = some x) (hij : i ≠ j) : (g.set j y)[i]? = some x := by
 rw [List.getElem?_set,if_neg (fun e => hij e.symm)]
 exact hx
theorem ownE_at {n s len : Nat} {cs : List Value} {v : Value} {i : Nat} (ho : OwnE n g s cs len v (some i)) : ∃ sz,g[i]? = some (.cells cs true sz) := by
 obtain ⟨_,_,⟨_,_,h⟩ | ⟨j,c,sz,h,_,h5,_⟩⟩ := ho
 ·cases h
 ·cases h
  exact ⟨sz,h5⟩
theorem ownE_lt {n s len : Nat} {cs : List Value} {v : Value} {o : Option Nat} (ho : OwnE n g s cs len v o) {i : Nat} (hi : o = some i) : i < g.length := by
 subst hi
 obtain ⟨sz,h⟩ := ownE_at ho
 exact (List.getElem?_eq_some_iff.1 h).1
theorem ownE_sli {s len : Nat} {cs : List Value} {v : Value} {o : Option Nat} (ho : OwnE A.length g s cs len v o) : Sli (A ++ g) v s len cs := by
 obtain ⟨h1,h2,⟨rfl,rfl,_⟩ | ⟨i,c,sz,rfl,rfl,h5,_⟩⟩ := ho
 ·have : cs = [] := List.length_eq_zero_iff.1 (by omega)
  subst this
  exact sli_nil
 ·refine ⟨_,_,rfl,⟨h1,h2⟩,.inr ⟨_,_,rfl,.inr ⟨cs,true,sz,?_,by rw [List.drop_zero,List.take_of_length_le (by omega)]⟩⟩⟩
  rw [back_get]
  exact h5
theorem ownE_more {s len : Nat} {cs e : List Value} {v y : Value} {o : Option Nat} (ho : OwnE A.length g s cs len v o) (hs : 0 < s) (hl : len < 100000) (hy : Sli (A ++ g) y s 1 e)
  (hk : ∀ v' g',OwnE A.length g' s (cs ++ e) (len + 1) v' (some g.length) → (∀ i x,o ≠ some i → g[i]? = some x → g'[i]? = some x) → H v' (A ++ g')) : aApp s v y (A ++ g) H := by
 have hr : room = 1073741824 := rfl
 have hel : e.length = s := by
  have := sli_vlen hy
  omega
 have hek : kn e = true := by
  obtain ⟨_,_,_,⟨_,h⟩,_⟩ := hy
  exact h
 have new : ∀ g1 : List AObj,g1.length = g.length → (∀ i x,o ≠ some i → g[i]? = some x → g1[i]? = some x) → cs.length = len * s → kn cs = true → H (.slice (some ⟨(A ++ g).length,0,none⟩) (len + 1) fz) (A ++ (g1 ++ [.cells (cs ++ e) true s])) := by
  intro g1 hg1 hkeep h1 h2
  refine hk _ _ ⟨?_,?_,.inr ⟨g.length,fz,s,rfl,by simp,by simp [← hg1],.inl ⟨rfl,rfl⟩⟩⟩ fun j x hj hx => get_app (hkeep j x hj hx)
  ·rw [List.length_append,hel,h1,Nat.succ_mul]
  ·unfold kn at *
   rw [List.all_append,h2,hek]
   rfl
 obtain ⟨h1,h2,⟨rfl,rfl,rfl⟩ | ⟨i,c,sz,rfl,rfl,h5,h6⟩⟩ := ho
 ·have hcs : cs = [] := List.length_eq_zero_iff.1 (by omega)
  subst hcs
  refine app_nil hs hy (by omega) (fun e => absurd e (by omega)) fun _ => ?_
  rw [List.append_assoc]
  exact new g rfl (fun _ _ _ hx => hx) h1 h2
 ·have hlt := (List.getElem?_eq_some_iff.1 h5).1
  have ht : cs.take (len * s) = cs := List.take_of_length_le (by omega)
  rcases h6 with ⟨rfl,rfl⟩ | rfl
  ·refine app_own (cs := cs) (by rw [back_get]; exact h5) (by omega) (by rw [ht]; exact h2) hs hy (by omega) ?_
   rw [back_set,List.append_assoc,ht]
   exact new _ (by simp) (fun j x hj hx => get_set hx fun e => hj (by rw [e])) h1 h2
  ·refine app_copy (cs := cs) (by rw [back_get]; exact h5) (by omega) (by rw [List.drop_zero,ht]; exact h2) (by omega) hs hy (by omega) ?_
   rw [List.append_assoc,List.drop_zero,ht]
   exact new g rfl (fun _ _ _ hx => hx) h1 h2
theorem hfa {nv : Value} {k : Nat} {s : Int} {rest : List AObj} (hs : 0 ≤ s ∧ s < 18446744073709551616) (hk : k < 1000000) {ns : List Int} (sn : Sli h nv 1 ns.length (ns.map vint)) (hln : ns.length < 4611686018427387904) : HandAt (HF h nv k s rest ++ g) h.length nv ns k s := by
 rw [hf_app]
 exact hf_hand sn hln hk hs.1 hs.2
theorem hfd {nv : Value} {k n : Nat} {s : Int} {rest h' : List AObj} (hd : Dealt (HF h nv k s rest ++ g) h.length nv k n h') : ∃ k' s',k' ≤ k + n ∧ (0 ≤ s' ∧ s' < 18446744073709551616) ∧ h' = HF h nv k' s' rest ++ g := by
 rw [hf_app] at hd
 obtain ⟨k',s',a,b,c,rfl⟩ := hf_dealt hd
 exact ⟨k',s',a,⟨b,c⟩,by rw [hf_app]⟩
structure Hnd (h : List AObj) (nv : Value) (ns : List Int) : Prop where
 list : Sli h nv 1 ns.length (ns.map vint)
 sane : ns.length < 4611686018427387904
variable {nv : Value} {ns : List Int} {rest : List AObj} {k : Nat} {s : Int}
theorem ng {i : Nat} : (HF h nv k s rest ++ g)[h.length + 1 + rest.length + i]? = g[i]? := by rw [← hf_len (h := h) (nv := nv) (k := k) (s := s),back_get]
section
variable {KV : Value → Prop} {a b : Int} {t : TypeId} {h : List AObj}
theorem offI {b o d : Nat} (hk : KV (ptr b (o + d))) : aOff (ptr b o) d KV := hk
theorem fillI {c : List Value} {KL : List Value → Prop} (hk : KL c) : aFill c [] KL := hk
theorem nilI {b o : Nat} (hk : KV (ptr b o)) : aNil (ptr b o) KV := hk
theorem addI (h : -9223372036854775808 ≤ a + b ∧ a + b < 9223372036854775808) (hk : KV (vint (a + b))) : aBin prog .add t (vint a) (vint b) KV := by rw [b_add h]; exact hk
theorem subI (h : -9223372036854775808 ≤ a - b ∧ a - b < 9223372036854775808) (hk : KV (vint (a - b))) : aBin prog .sub t (vint a) (vint b) KV := by rw [b_sub h]; exact hk
theorem minI (hk : KV (vint (min a b))) : aMin (vint a) [vint b] KV := by rw [a_min]; exact hk
theorem maxI (hk : KV (vint (max a b))) : aMax (vint a) [vint b] KV := by rw [a_max]; exact hk
theorem lssI (hk : KV (.bool (decide (a < b)))) : aBin prog .lss t (vint a) (vint b) KV := by rw [b_lss]; exact hk
theorem gtrI (hk : KV (.bool (decide (a > b)))) : aBin prog .gtr t (vint a) (vint b) KV := by rw [b_gtr]; exact hk
theorem geqI (hk : KV (.bool (decide (a ≥ b)))) : aBin prog .geq t (vint a) (vint b) KV := by rw [b_geq]; exact hk
theorem leqI (hk : KV (.bool (decide (a ≤ b)))) : aBin prog .leq t (vint a) (vint b) KV := by rw [b_leq]; exact hk
theorem eqlI (hk : KV (.bool (decide (a = b)))) : aBin prog .eql t (vint a) (vint b) KV := by rw [b_eql]; exact hk
theorem neqI (hk : KV (.bool (decide (a ≠ b)))) : aBin prog .neq t (vint a) (vint b) KV := by rw [b_neq]; exact hk
theorem notI {x : Bool} (hk : KV (.bool (!x))) : aUn .not (.bool x) KV := hk
theorem cndI {p : Prop} [Decidable p] {A B : Prop} (h1 : p → A) (h2 : ¬ p → B) : cnd (.bool (decide p)) A B := cnd_dec.2 ⟨h1,h2⟩
theorem cndN {p : Prop} [Decidable p] {A B : Prop} (h1 : ¬ p → A) (h2 : p → B) : cnd (.bool (!decide p)) A B := cnd_ndec.2 ⟨h1,h2⟩
theorem lenI {v : Value} {s n : Nat} {cells : List Value} (hs : Sli h v s n cells) (hk : KV (vint n)) : aLenS v KV := by rw [sli_len hs]; exact hk
theorem ldI {b o s : Nat} {c : List Value} {wr : Bool} {sz : Nat} {v : Value} (hb : h[b]? = some (.cells c wr sz)) (hv : c[o]? = some v) (hn : kn1 v = true) (hk : KV v) : aLoad false s (ptr b o) h KV := by rw [load_cell hb hv hn]; exact hk
theorem idxI {s b o n c : Nat} {j : Int} (h1 : 0 ≤ j ∧ j < n) (hk : KV (ptr b (o + j.toNat * s))) : aIdx s (.slice (some ⟨b,o,none⟩) n c) (vint j) KV := by rw [idx_ok]; exact ⟨h1,hk⟩
theorem ext0 {a b : Value} (hk : KV a) : aExt (.tuple ⟨[a,b]⟩) 0 KV := hk
theorem ext1 {a b : Value} (hk : KV b) : aExt (.tuple ⟨[a,b]⟩) 1 KV := hk
theorem ext30 {a b c : Value} (hk : KV a) : aExt (.tuple ⟨[a,b,c]⟩) 0 KV := hk
end
theorem up (hJ : Closed prog main J) (hn : Hnd h nv ns) (hs : 0 ≤ s ∧ s < 18446744073709551616) (hk : k < 1000000) {m : Int} (hm : m < 1000000)
  (hK : ∀ y k' s',0 ≤ y → (y ≤ m ∨ y = 0) → k' ≤ k + 1 → (0 ≤ s' ∧ s' < 18446744073709551616) → K (vint y) (HF h nv k' s' rest ++ g)) : Good prog J 13 [ptr h.length 0,vint m] (HF h nv k s rest ++ g) K := by
 refine good13 hJ (hfa hs hk hn.list hn.sane) (by omega) fun y h1 a b hd => ?_
 obtain ⟨k',s',c,d,rfl⟩ := hfd hd
 exact hK y k' s' a b c d
theorem amo (hJ : Closed prog main J) (hn : Hnd h nv ns) (hs : 0 ≤ s ∧ s < 18446744073709551616) (hk : k < 1000000) {lo hi : Int} (h1 : -1000000 ≤ lo ∧ lo ≤ 1000000) (h2 : -1000000 ≤ hi ∧ hi ≤ 1000000)
  (hK : ∀ y k' s',lo ≤ y → (y ≤ hi ∨ y = lo) → k' ≤ k + 1 → (0 ≤ s' ∧ s' < 18446744073709551616) → K (vint y) (HF h nv k' s' rest ++ g)) : Good prog J 5 [ptr h.length 0,vint lo,vint hi] (HF h nv k s rest ++ g) K := by
 refine good5 hJ (hfa hs hk hn.list hn.sane) (by omega) (by omega) fun y h1 a b hd => ?_
 obtain ⟨k',s',c,d,rfl⟩ := hfd hd
 exact hK y k' s' a b c d
end
end Go.Proofs.Yteoenhhmcpipoaa
namespace Go.Proofs.Yteoenhhmcpipoaa
open Go.Conc Go.Proofs.Try
set_option maxRecDepth 100000
def SameX (X : List Nat) (h H : List AObj) : Prop := h.length ≤ H.length ∧ ∀ i,i < h.length → i ∉ X → H[i]? = h[i]?
theorem SameX.refl {X : List Nat} {h : List AObj} : SameX X h h := ⟨Nat.le_refl _,fun _ _ _ => rfl⟩
theorem SameX.trans {X : List Nat} {h H H' : List AObj} (a : SameX X h H) (b : SameX X H H') : SameX X h H' :=
 ⟨Nat.le_trans a.1 b.1,fun i hi hx => by rw [b.2 i (Nat.lt_of_lt_of_le hi a.1) hx,a.2 i hi hx]⟩
theorem SameX.app {X : List Nat} {h H g : List AObj} (a : SameX X h H) : SameX X h (H ++ g) :=
 ⟨by have := a.1; simp; omega,fun i hi hx => by rw [List.getElem?_append_left (Nat.lt_of_lt_of_le hi a.1),a.2 i hi hx]⟩
theorem SameX.set {X : List Nat} {h H : List AObj} {i : Nat} {o : AObj} (a : SameX X h H) (hi : i ∈ X ∨ h.length ≤ i) : SameX X h (H.set i o) :=
 ⟨by have := a.1; simp; omega,fun j hj hx => by
  rw [List.getElem?_set,if_neg,a.2 j hj hx]
  rintro rfl
  rcases hi with hi | hi
  ·exact hx hi
  ·omega⟩
theorem SameX.get {X : List Nat} {h H : List AObj} {i : Nat} {o : AObj} (a : SameX X h H) (hx : h[i]? = some o) (hi : i ∉ X) : H[i]? = some o := by
 rw [a.2 i (List.getElem?_eq_some_iff.1 hx).1 hi,hx]
theorem SameX.pre {X : List Nat} {h0 g H : List AObj} (a : SameX X (h0 ++ g) H) (hX : ∀ x ∈ X,h0.length ≤ x) : ∃ g',H = h0 ++ g' := by
 refine ⟨H.drop h0.length,?_⟩
 have : H.take h0.length = h0 := by
  apply List.ext_getElem?
  intro i
  rw [List.getElem?_take]
  split
  ·rename_i hi
   rw [a.2 i (by simp; omega) (fun hx => by have := hX i hx; omega),List.getElem?_append_left hi]
  ·rename_i hi
   rw [List.getElem?_eq_none (by omega)]
 conv => lhs; rw [← List.take_append_drop h0.length H,this]
end Go.Proofs.Yteoenhhmcpipoaa
namespace Go.Proofs.Yteoenhhmcpipoaa
open Go.Conc Go.Proofs.Try
set_option maxRecDepth 100000
def OwnX (H : List AObj) (s : Nat) (cs : List Value) (len : Nat) (v : Value) (o : Option Nat) : Prop :=
 cs.length = len * s ∧ kn cs = true ∧ ((len = 0 ∧ v = .slice none 0 0 ∧ o = none) ∨ ∃ i c sz,o = some i ∧ v = .slice (some ⟨i,0,none⟩) len c ∧ H[i]? = some (.cells cs true sz) ∧ ((c = fz ∧ sz = s) ∨ c = len))
section
variable {h H : List AObj} {K : Value → List AObj → Prop} {KV : Value → Prop} {HL : List AObj → Prop} {n0 : Nat}
theorem SameX.weak {X Y : List Nat} {h H : List AObj} (a : SameX X h H) (hxy : ∀ x ∈ X,x ∈ Y) : SameX Y h H := ⟨a.1,fun i hi hx => a.2 i hi fun hm => hx (hxy i hm)⟩
theorem SameX.weak0 {Y : List Nat} {h H : List AObj} (a : SameX [] h H) : SameX Y h H := a.weak (by simp)
theorem SameX.thru {X Y : List Nat} {h H H' : List AObj} (a : SameX X h H) (b : SameX Y H H') (hy : ∀ y ∈ Y,y ∈ X ∨ h.length ≤ y) : SameX X h H' :=
 ⟨Nat.le_trans a.1 b.1,fun i hi hx => by
  rw [b.2 i (Nat.lt_of_lt_of_le hi a.1) fun hm => ?_,a.2 i hi hx]
  rcases hy i hm with h1 | h1
  ·exact hx h1
  ·omega⟩
theorem SameX.app0 {X : List Nat} {h H : List AObj} (a : SameX X h H) (hX : ∀ x ∈ X,h.length ≤ x) : ∃ g,H = h ++ g := by
 have := SameX.pre (h0 := h) (g := []) (X := X) (H := H) (by simpa using a) hX
 exact this
theorem lt_of_get {i : Nat} {o : AObj} (hx : H[i]? = some o) : i < H.length := (List.getElem?_eq_some_iff.1 hx).1
theorem SameX.sli {X : List Nat} {v : Value} {s n : Nat} {cs : List Value} (a : SameX X h H) (hs : Sli h v s n cs) (hX : ∀ x ∈ X,h.length ≤ x) : Sli H v s n cs := by
 obtain ⟨g,rfl⟩ := a.app0 hX
 exact sli_app hs
theorem qAl {l : List Value} (hk : ∀ H' p,p = H.length → SameX [] H H' → H'[p]? = some (.cells l true 0) → H'.length = p + 1 → K (ptr p 0) H') : aAlloc l H K :=
 hk _ _ rfl SameX.refl.app (by simp) (by simp)
theorem qBox {l : List Value} (h1 : l.all one = true) (hk : ∀ H' p,p = H.length → SameX [] H H' → H'[p]? = some (.cells l true 0) → H'.length = p + 1 → K (ptr p 0) H') : aBox (.agg ⟨l⟩) H K :=
 box_agg h1 (hk _ _ rfl SameX.refl.app (by simp) (by simp))
theorem qBox1 {v : Value} (hc : v.cells = #[v]) (h1 : one v = true) (hk : ∀ H' p,p = H.length → SameX [] H H' → H'[p]? = some (.cells [v] true 0) → H'.length = p + 1 → K (ptr p 0) H') : aBox v H K :=
 box_one hc h1 (hk _ _ rfl SameX.refl.app (by simp) (by simp))
theorem qNew {n : Nat} {l : List Value} (hk : ∀ H' p,p = H.length → SameX [] H H' → H'[p]? = some (.cells l true 0) → H'.length = p + 1 → K (.slice (some ⟨p,0,none⟩) n n) H') : aNewS n l H K :=
 hk _ _ rfl SameX.refl.app (by simp) (by simp)
theorem qNewM (hk : ∀ H' p,p = H.length → SameX [] H H' → H'[p]? = some (.map [] true) → H'.length = p + 1 → K (.map (some p)) H') : aNewM H K :=
 hk _ _ rfl SameX.refl.app (by simp) (by simp)
theorem qSt {b o : Nat} {c : List Value} {sz : Nat} {v : Value} (hb : H[b]? = some (.cells c true sz)) (ho : o < c.length) (h1 : v.cells = #[v]) (h2 : one v = true) (hk : ∀ H',SameX [b] H H' → H'[b]? = some (.cells (c.set o v) true sz) → H'.length = H.length → HL H') : aStore 1 (ptr b o) v H HL :=
 store_cell hb ho h1 h2 (hk _ (SameX.refl.set (.inl (by simp))) (List.getElem?_set_self (lt_of_get hb)) (by simp))
theorem qStA {b n : Nat} {cs c : List Value} {sz : Nat} (hb : H[b]? = some (.cells cs true sz)) (hl : c.length = n) (hs : cs.length = n) (h1 : c.all one = true) (hk : ∀ H',SameX [b] H H' → H'[b]? = some (.cells c true sz) → H'.length = H.length → HL H') : aStore n (ptr b 0) (.agg ⟨c⟩) H HL :=
 store_agg hb hl hs h1 (hk _ (SameX.refl.set (.inl (by simp))) (List.getElem?_set_self (lt_of_get hb)) (by simp))
theorem ownX_iff {s len : Nat} {cs : List Value} {v : Value} {o : Option Nat} : OwnX H s cs len v o ↔ OwnE 0 H s cs len v o := by
 simp [OwnX,OwnE]
theorem ownX_keep {s len : Nat} {cs : List Value} {v : Value} {o : Option Nat} {H' : List AObj} {X : List Nat} (ho : OwnX H s cs len v o) (a : SameX X H H') (hX : ∀ i,o = some i → i ∉ X) : OwnX H' s cs len v o := by
 obtain ⟨h1,h2,h3 | ⟨i,c,sz,rfl,h4,h5,h6⟩⟩ := ho
 ·exact ⟨h1,h2,.inl h3⟩
 ·exact ⟨h1,h2,.inr ⟨i,c,sz,rfl,h4,a.get h5 (hX i rfl),h6⟩⟩
theorem ownX_sli {s len : Nat} {cs : List Value} {v : Value} {o : Option Nat} (ho : OwnX H s cs len v o) : Sli H v s len cs := by
 have := ownE_sli (A := []) (ownX_iff.1 ho)
 exact this
theorem ownX_lt {s len : Nat} {cs : List Value} {v : Value} {o : Option Nat} (ho : OwnX H s cs len v o) : ∀ i,o = some i → i < H.length := fun _ hi => ownE_lt (ownX_iff.1 ho) hi
theorem ownX_new {s n p : Nat} {l : List Value} (hp : H[p]? = some (.cells l true 0)) (hl : l.length = n * s) (hk : kn l = true) : OwnX H s l n (.slice (some ⟨p,0,none⟩) n n) (some p) :=
 ⟨hl,hk,.inr ⟨p,n,0,rfl,rfl,hp,.inr rfl⟩⟩
theorem ownX_more {s len : Nat} {cs e : List Value} {v y : Value} {o : Option Nat} (ho : OwnX H s cs len v o) (hs : 0 < s) (hl : len < 100000) (hy : Sli H y s 1 e)
  (hk : ∀ v' H' p,p = H.length → OwnX H' s (cs ++ e) (len + 1) v' (some p) → SameX o.toList H H' → K v' H') : aApp s v y H K := by
 have hlo := ownX_lt ho
 refine ownE_more (A := []) (g := H) (ownX_iff.1 ho) hs hl hy fun v' g' ho' hkeep => hk v' ([] ++ g') _ rfl (ownX_iff.2 ho') ⟨?_,fun i hi hx => ?_⟩
 ·have := ownE_lt ho' rfl
  simp only [List.nil_append]
  omega
 ·have hx' : o ≠ some i := fun e => hx (by rw [e]; simp)
  obtain ⟨x,hxx⟩ : ∃ x,H[i]? = some x := ⟨H[i],List.getElem?_eq_getElem hi⟩
  rw [hxx]
  exact hkeep i x hx' hxx
theorem retX {X : List Nat} {vs : List Value} (ok : heapOk h) (hn : n0 ≤ h.length) (S : SameX X h H) (hX : ∀ x ∈ X,h.length ≤ x) (hv : ∀ v ∈ vs,v ≠ unk) (hw : VOk h.length (pack vs)) (hk : K (pack vs) h) : retL n0 K [] vs H := by
 obtain ⟨g,rfl⟩ := S.app0 hX
 exact retL_drop ok hn hv hw hk
end
end Go.Proofs.Yteoenhhmcpipoaa
namespace Go.Proofs.Yteoenhhmcpipoaa
open Go.Conc Go.Proofs.Try
set_option maxRecDepth 100000
def HX (h H : List AObj) (ns : List Int) (k : Nat) : Prop := ∃ nv k' s rest,H = HF h nv k' s rest ∧ k' ≤ k ∧ (0 ≤ s ∧ s < 18446744073709551616) ∧ Hnd h nv ns
section
variable {main : Bool} {J : JT} {h H : List AObj} {K : Value → List AObj → Prop} {ns : List Int} {k : Nat}
theorem HX.mono {k' : Nat} (a : HX h H ns k) (hk : k ≤ k') : HX h H ns k' := by
 obtain ⟨nv,k1,s,rest,e,h1,h2,h3⟩ := a
 exact ⟨nv,k1,s,rest,e,by omega,h2,h3⟩
theorem HX.pre (a : HX h H ns k) : SameX [] h H := by
 obtain ⟨nv,k1,s,rest,rfl,_⟩ := a
 exact SameX.refl.app
theorem HX.same {X : List Nat} {H' : List AObj} (a : HX h H ns k) (S : SameX X H H') (hX : ∀ x ∈ X,h.length < x) : HX h H' ns k := by
 obtain ⟨nv,k1,s,rest,rfl,h1,h2,h3⟩ := a
 have e : HF h nv k1 s rest = (h ++ [.cells [nv,vint k1,.int .u64 s] true 0]) ++ rest := by simp [HF]
 rw [e] at S
 obtain ⟨g,hg⟩ := S.pre (fun x hx => by have := hX x hx; simp; omega)
 exact ⟨nv,k1,s,g,by rw [hg]; simp [HF],h1,h2,h3⟩
theorem hf_same {nv : Value} {k1 k2 : Nat} {s1 s2 : Int} {rest g : List AObj} : SameX [h.length] (HF h nv k1 s1 rest) (HF h nv k2 s2 rest ++ g) := by
 refine ⟨by rw [hf_app,hf_len,hf_len]; simp,fun i hi hx => ?_⟩
 simp at hx
 rw [List.getElem?_append_left (by rw [hf_len] at hi ⊢; omega)]
 unfold HF
 rcases Nat.lt_or_ge i h.length with x | x
 ·rw [List.getElem?_append_left x,List.getElem?_append_left x]
 ·rw [List.getElem?_append_right x,List.getElem?_append_right x]
  obtain ⟨j,hj⟩ : ∃ j,i - h.length = j + 1 := ⟨i - h.length - 1,by omega⟩
  rw [hj]
  rfl
theorem newX (hJ : Closed prog main J) {nv : Value} (sn : Sli h nv 1 ns.length (ns.map vint)) (hln : ns.length < 4611686018427387904)
  (hK : ∀ H,HX h H ns 0 → K (ptr h.length 0) H) : Good prog J 4 [nv] h K := by
 obtain ⟨nb,nc,hnv,_⟩ := id sn
 subst hnv
 exact good4 hJ (hK _ ⟨_,0,88172645463325252,[],rfl,Nat.le_refl _,by omega,⟨sn,hln⟩⟩)
theorem upX (hJ : Closed prog main J) (a : HX h H ns k) (hk : k < 1000000) {m : Int} (hm : m < 1000000)
  (hK : ∀ y H',0 ≤ y → (y ≤ m ∨ y = 0) → SameX [h.length] H H' → H'.length = H.length → HX h H' ns (k + 1) → K (vint y) H') : Good prog J 13 [ptr h.length 0,vint m] H K := by
 obtain ⟨nv,k1,s,rest,rfl,h1,h2,h3⟩ := a
 have := up (k := k1) (g := []) (rest := rest) (K := K) hJ h3 h2 (by omega) hm fun y k' s' a1 a2 a3 a4 => hK y _ a1 a2 hf_same (by simp [hf_len]) ⟨nv,k',s',rest,by simp,by omega,a4,h3⟩
 simpa using this
theorem amX (hJ : Closed prog main J) (a : HX h H ns k) (hk : k < 1000000) {lo hi : Int} (h1 : -1000000 ≤ lo ∧ lo ≤ 1000000) (h2 : -1000000 ≤ hi ∧ hi ≤ 1000000)
  (hK : ∀ y H',lo ≤ y → (y ≤ hi ∨ y = lo) → SameX [h.length] H H' → H'.length = H.length → HX h H' ns (k + 1) → K (vint y) H') : Good prog J 5 [ptr h.length 0,vint lo,vint hi] H K := by
 obtain ⟨nv,k1,s,rest,rfl,b1,b2,b3⟩ := a
 have := amo (k := k1) (g := []) (rest := rest) (K := K) hJ b3 b2 (by omega) h1 h2 fun y k' s' a1 a2 a3 a4 => hK y _ a1 a2 hf_same (by simp [hf_len]) ⟨nv,k',s',rest,by simp,by omega,a4,b3⟩
 simpa using this
end
end Go.Proofs.Yteoenhhmcpipoaa
namespace Go.Proofs.Yteoenhhmcpipoaa
open Go.Conc Go.Proofs.Try
set_option maxRecDepth 100000
end Go.Proofs.Yteoenhhmcpipoaa
namespace Go.Proofs.Yteoenhhmcpipoaa
open Go.Conc Go.Proofs.Try
set_option maxRecDepth 100000
section
variable {main : Bool} {J : JT} {h H : List AObj} {K : Value → List AObj → Prop} {KV : Value → Prop} {HL : List AObj → Prop} {n0 : Nat}
theorem knV (l : List Int) : kn (l.map vint) = true := by
 simp [kn,kn1]
theorem sliN {v : Value} {xs : List Int} (hs : Sli h v 1 xs.length (xs.map vint)) {i : Nat} {x : Int} (hx : xs[i]? = some x) {K2 : Value → Value → Prop} (hK : ∀ p,K2 p (vint x)) : aIdx 1 v (vint (i : Nat)) fun p => aLoad false 1 p h (K2 p) := by
 have hi := (List.getElem?_eq_some_iff.1 hx).1
 exact idx_load hs ⟨by omega,by omega⟩ (by rw [Int.toNat_natCast,List.getElem?_map,hx]; rfl) hK
theorem fillO {m : List Value} {o s : Nat} {v : Value} {l : List Value} {ps : List (Nat × Nat × Value)} {KL : List Value → Prop} (hv : v.cells.toList = l) (hs : l.length = s) (ho : l.all one = true) (hl : o + s ≤ m.length) (hk : aFill (wrAt m o l) ps KL) : aFill m ((o,s,v) :: ps) KL := by
 subst hv
 exact ⟨hs,ho,hl,hk⟩
theorem retQs {n0 : Nat} {rs : List ResultVar} {f : RG} (ds : f.ds = []) (hr : resW prog rs f.r h fun vs => K (pack vs) h) : RetQ prog rs n0 K .ret f h := by
 unfold RetQ
 rw [ds]
 exact resW_imp rs hr fun vs hk => .inl hk
theorem nu2 {a b : Value} (ha : a ≠ unk) (hb : b ≠ unk) : ∀ v ∈ [a,b],v ≠ unk := by
 intro v hv
 simp only [List.mem_cons,List.not_mem_nil,or_false] at hv
 rcases hv with rfl | rfl <;> assumption
theorem cndB {b : Bool} {A B : Prop} (h1 : b = true → A) (h2 : b = false → B) : cnd (.bool b) A B := by
 cases b
 ·exact cnd_false.2 (h2 rfl)
 ·exact cnd_true.2 (h1 rfl)
theorem sliBlk {v : Value} {xs : List Int} (hs : Sli H v 1 xs.length (xs.map vint)) (h0 : 0 < xs.length) : ∃ b,b < H.length ∧ ∀ {H' : List AObj} {i : Nat} {x : Int} {K2 : Value → Value → Prop},SameX [] H H' → xs[i]? = some x → (∀ o,K2 (ptr b o) (vint x)) → aIdx 1 v (vint (i : Nat)) fun p => aLoad false 1 p H' (K2 p) := by
 obtain ⟨base,c,rfl,⟨hl,hkn⟩,⟨_,hz⟩ | ⟨b,o,rfl,hz | ⟨cs,wr,sz,hb,hc⟩⟩⟩ := hs
 ·omega
 ·omega
 ·refine ⟨b,lt_of_get hb,fun {H' i x K2} S hx hk => ?_⟩
  have hi := (List.getElem?_eq_some_iff.1 hx).1
  refine idxI ⟨by omega,by omega⟩ (ldI (v := vint x) (S.get hb (by simp)) ?_ rfl (hk _))
  have e : (xs.map vint)[i]? = some (vint x) := by rw [List.getElem?_map,hx]; rfl
  rw [← hc,List.getElem?_take_of_lt (by omega),List.getElem?_drop] at e
  rw [Int.toNat_natCast,Nat.mul_one]
  exact e
theorem callCz {g : FuncId} {args cap : List Value} (hg : Nat.blt g prog.funcs.size = true) (hk : Good prog J g (args ++ cap) H K) : callV prog (Good prog J) (.func (.func g) ⟨[]⟩ ⟨cap⟩) args H K := by
 show (bif Nat.blt g prog.funcs.size then Good prog J g ([] ++ args ++ cap) H K else False)
 rw [hg,cond_true,List.nil_append]
 exact hk
theorem retLdef {n0 n : Nat} {vs : List Value} (hd : h[n]? = some .deferred) (hv : ∀ v ∈ vs,v ≠ unk) (hk : K (pack vs) (h.set n .dead)) : retL n0 K [n] vs h := by
 have := retL_same (n0 := n0) (H := K) hv hk
 unfold retL at *
 exact ⟨hd,this⟩
theorem appIn {b k m : Nat} {cs : List Value} {v y : Value} (hb : H[b]? = some (.cells cs true 0)) (hl : cs.length = m) (hk : k < m) (hm : m < 1000) (hc : kn (cs.take k) = true) (hy : Sli H y 1 1 [v])
  (hK : ∀ H',SameX [b] H H' → H'[b]? = some (.cells (cs.set k v) true 0) → H'.length = H.length → K (.slice (some ⟨b,0,none⟩) (k + 1) m) H') : aApp 1 (.slice (some ⟨b,0,none⟩) k m) y H K := by
 have hfz : (1000 : Nat) < fz := by decide
 have hrm : (2000 : Nat) < room := by decide
 obtain ⟨yb,yc,rfl,hyk,hh⟩ := id hy
 refine ⟨by omega,src_sli hy (by omega) ?_⟩
 simp only [hb]
 refine ⟨⟨by omega,by simpa using hc⟩,fun _ => ⟨fun _ => ⟨trivial,by omega,?_⟩,fun h => absurd h (by omega)⟩,fun h => absurd h (by omega)⟩
 have e : wrAt cs (0 + k * 1) [v] = cs.set k v := by simp [wrAt]
 rw [e]
 exact hK _ (SameX.refl.set (.inl (by simp))) (List.getElem?_set_self (lt_of_get hb)) (by simp)
theorem neqNilZ {t e : TypeId} {base : Option Addr} {n c : Nat} (ht : prog.underlying t = some (.slice e)) (hg : prog.eqGuardType prog.depth t = false) (hk : KV (.bool (!base.isNone))) : aBin prog .neq t (.slice base n c) (.slice none 0 0) KV := by
 show aEq prog true t (.slice base n c) (.slice none 0 0) KV
 have : teq prog 10000 t (.slice base n c) (.slice none 0 0) = some base.isNone := by
  unfold teq
  rw [ht]
  cases base <;> rfl
 unfold aEq
 rw [this]
 exact ⟨hg,by simpa using hk⟩
theorem idxAz {s len b : Nat} {j : Nat} (h1 : j < len) (hk : KV (ptr b (j * s))) : aIdxA len s (ptr b 0) (vint (j : Nat)) KV :=
 ⟨⟨by omega,by omega⟩,by rw [Int.toNat_natCast,Nat.zero_add]; exact hk⟩
theorem sbOne {X : List Nat} {p : Nat} {H H' : List AObj} (S : SameX X H H') (hp : p < H.length) (hX : p ∉ X) : SameB (some [p]) H H' := fun b hb => by
 simp at hb
 subst hb
 exact S.2 _ hp hX
theorem sbTwo {X : List Nat} {p q : Nat} {H H' : List AObj} (S : SameX X H H') (hp : p < H.length) (hq : q < H.length) (hX : p ∉ X) (hY : q ∉ X) : SameB (some [p,q]) H H' := fun b hb => by
 simp at hb
 rcases hb with rfl | rfl
 ·exact S.2 _ hp hX
 ·exact S.2 _ hq hY
theorem endQexit {n id : Nat} {f : RG} {Q : QT} {v : Value} {st : LoopState} {fn : FuncId} {r : Nat → Value} {size : Nat} {params : Array Tmp} {assign body : Code} {dfr : Nat} (hl : h[n + 1]? = some (.loop st (some (.exit id)) fn r size params assign body dfr)) (hs : st ≠ .busy) (hq : Q (.exit id) ⟨f.r,n :: f.ds⟩ (h.set (n + 1) .dead)) : endQ n f Q v h :=
 ⟨st,some (.exit id),_,_,_,_,_,_,_,hl,hs,hq⟩
theorem endQnorm {n : Nat} {f : RG} {Q : QT} {v : Value} {st : LoopState} {fn : FuncId} {r : Nat → Value} {size : Nat} {params : Array Tmp} {assign body : Code} {dfr : Nat} (hl : h[n + 1]? = some (.loop st none fn r size params assign body dfr)) (hs : st ≠ .busy) (hq : Q .normal ⟨f.r,n :: f.ds⟩ (h.set (n + 1) .dead)) : endQ n f Q v h :=
 ⟨st,none,_,_,_,_,_,_,_,hl,hs,hq⟩
theorem fillP2 {a b : Value} {KL : List Value → Prop} (ha : a.cells = #[a] ∧ one a = true) (hb : b.cells = #[b] ∧ one b = true) {z : Value} (hk : KL [a,b]) : aFill (zrep [z] 2) [(0,1,a),(1,1,b)] KL := by
 refine fillO (l := [a]) (by rw [ha.1]) rfl (by simp [ha.2]) (by show 0 + 1 ≤ 2; decide) ?_
 refine fillO (l := [b]) (by rw [hb.1]) rfl (by simp [hb.2]) (by rw [wrAt_length]; show 1 + 1 ≤ 2; decide) ?_
 exact fillI hk
theorem beqD (a b : Int) : (a == b) = decide (a = b) := by
 by_cases h : a = b
 ·simp [h]
 ·simp [h]
theorem eqlU {t : TypeId} {a b : UInt8} (hk : KV (.bool (decide (a = b)))) : aBin prog .eql t (.int .u8 a.toNat) (.int .u8 b.toNat) KV := by
 refine ⟨rfl,?_⟩
 show KV (.bool (((a.toNat : Nat) : Int) == ((b.toNat : Nat) : Int)))
 rw [beqD]
 have : ((a.toNat : Nat) : Int) = ((b.toNat : Nat) : Int) ↔ a = b := by rw [Int.ofNat_inj]; exact UInt8.toNat_inj
 rw [decide_eq_decide.2 this]
 exact hk
theorem neqU {t : TypeId} {a b : UInt8} (hk : KV (.bool (decide (a ≠ b)))) : aBin prog .neq t (.int .u8 a.toNat) (.int .u8 b.toNat) KV := by
 refine ⟨rfl,?_⟩
 show KV (.bool (((a.toNat : Nat) : Int) != ((b.toNat : Nat) : Int)))
 unfold bne
 rw [beqD,← decide_not]
 have : (¬ ((a.toNat : Nat) : Int) = ((b.toNat : Nat) : Int)) ↔ a ≠ b := by rw [Int.ofNat_inj,UInt8.toNat_inj]
 rw [decide_eq_decide.2 this]
 exact hk
theorem byteI {l : List UInt8} {i : Nat} {b : UInt8} (hb : l[i]? = some b) (hk : KV (.int .u8 b.toNat)) : aIdxStr (.string ⟨⟨l⟩⟩) (vint (i : Nat)) KV := by
 refine ⟨by omega,?_⟩
 show match l[((i : Nat) : Int).toNat]? with
  | some b => KV (.int .u8 b.toNat)
  | none => False
 rw [Int.toNat_natCast,hb]
 exact hk
end
structure Pas where
 grass : Int
 bears : Int
 dry : Int
 wet : Int
 stubble : Int
 sleep : Int
 deriving DecidableEq
structure SkyR where
 days : Int
 drought : Int
 flood : Int
 deriving DecidableEq
def Pas.cells (p : Pas) : List Value := [vint p.grass,vint p.bears,vint p.dry,vint p.wet,vint p.stubble,vint p.sleep]
def SkyR.cells (s : SkyR) : List Value := [vint s.days,vint s.drought,vint s.flood]
def pasOk (p : Pas) : Prop := (1 ≤ p.bears ∧ p.bears ≤ 99) ∧ (0 ≤ p.grass ∧ p.grass ≤ p.bears) ∧ (0 ≤ p.dry ∧ p.dry ≤ 9) ∧ (p.dry ≤ p.wet ∧ p.wet ≤ 9) ∧ (0 ≤ p.stubble ∧ p.stubble ≤ p.bears) ∧ (0 ≤ p.sleep ∧ p.sleep ≤ 5)
instance (p : Pas) : Decidable (pasOk p) := by unfold pasOk; infer_instance
def pasE (p : Pas) : Int := if pasOk p then 0 else 1
def skyOk (s : SkyR) : Prop := (1 ≤ s.days ∧ s.days ≤ 8) ∧ (1 ≤ s.drought ∧ s.drought ≤ s.days) ∧ (1 ≤ s.flood ∧ s.flood ≤ s.days)
instance (s : SkyR) : Decidable (skyOk s) := by unfold skyOk; infer_instance
def skyE (s : SkyR) : Int := if skyOk s then 0 else 1
def cntE (n lo hi : Int) : Int := if n < lo then 7 else if n > hi then 6 else 0
def fst2 (a b : Int) : Int := if a ≠ 0 then a else b
abbrev Std := Int × Int
def leftR (x : Std) (heads : Int) : Int := x.1 - min heads x.1
def hungR (x : Std) (heads : Int) : Bool := decide (heads > x.1)
def shortR (p : Pas) (x : Std) (heads : Int) : Bool := decide (heads > 0) && decide (leftR x heads < p.stubble)
def dayR (p : Pas) (x : Std) (heads : Int) (wet : Bool) : Std :=
 if shortR p x heads = true then (leftR x heads,p.sleep) else if x.2 > 0 then (leftR x heads,x.2 - 1) else (min p.bears (leftR x heads + (if wet = true then p.wet else p.dry)),x.2)
def medC (p : Pas) (x : Std) : List Value := p.cells ++ [vint x.1,vint x.2]
structure StdOk (p : Pas) (x : Std) : Prop where
 g : 0 ≤ x.1 ∧ x.1 ≤ p.bears
 a : 0 ≤ x.2 ∧ x.2 ≤ 5
theorem leftR_bd {p : Pas} {x : Std} (o : StdOk p x) {n : Int} (hn : 0 ≤ n) : 0 ≤ leftR x n ∧ leftR x n ≤ x.1 := by
 have := o.g
 unfold leftR
 omega
theorem dayR_ok {p : Pas} {x : Std} (f : pasOk p) (o : StdOk p x) {n : Int} (hn : 0 ≤ n) {w : Bool} : StdOk p (dayR p x n w) := by
 have hl := leftR_bd o hn
 have hg := o.g
 have ha := o.a
 obtain ⟨f1,f2,f3,f4,f5,f6⟩ := f
 unfold dayR
 split
 ·exact ⟨by dsimp only; omega,by dsimp only; omega⟩
 ·split
  ·exact ⟨by dsimp only; omega,by dsimp only; omega⟩
  ·refine ⟨?_,by dsimp only; omega⟩
   dsimp only
   split <;> omega
theorem std0_ok {p : Pas} (f : pasOk p) : StdOk p (p.grass,0) := ⟨f.2.1,by dsimp only; omega⟩
def wetB (b : UInt8) : Bool := decide (b = 119)
def stdR (p : Pas) (heads : List Int) (rain : List UInt8) : Nat → Std
 | 0 => (p.grass,0)
 | k + 1 => dayR p (stdR p heads rain k) (heads.getD k 0) (wetB (rain.getD k 0))
def hungAt (p : Pas) (heads : List Int) (rain : List UInt8) (k : Nat) : Bool := hungR (stdR p heads rain k) (heads.getD k 0)
def headsOk (heads : List Int) : Prop := ∀ n ∈ heads,0 ≤ n ∧ n ≤ 40
theorem headsOk_getD {heads : List Int} (hh : headsOk heads) (k : Nat) : 0 ≤ heads.getD k 0 ∧ heads.getD k 0 ≤ 40 := by
 rw [List.getD_eq_getElem?_getD]
 cases e : heads[k]? with
 | none => exact ⟨Int.le_refl _,by decide⟩
 | some n => exact hh n (List.mem_of_getElem? e)
theorem stdR_ok {p : Pas} {heads : List Int} {rain : List UInt8} (f : pasOk p) (hh : headsOk heads) : ∀ k,StdOk p (stdR p heads rain k)
 | 0 => std0_ok f
 | k + 1 => dayR_ok f (stdR_ok f hh k) (headsOk_getD hh k).1
def fstH (q : Nat → Bool) : Nat → Int
 | 0 => -1
 | n + 1 => if fstH q n ≥ 0 then fstH q n else if q n = true then (n : Int) else -1
theorem fstH_none {q : Nat → Bool} : ∀ {n : Nat},(∀ i,i < n → q i = false) → fstH q n = -1
 | 0,_ => rfl
 | n + 1,h => by
  unfold fstH
  rw [fstH_none fun i hi => h i (by omega),if_neg (by decide),if_neg (by rw [h n (by omega)]; decide)]
theorem fstH_pos {q : Nat → Bool} {i : Nat} (hq : q i = true) : ∀ {n : Nat},i < n → 0 ≤ fstH q n
 | 0,h => absurd h (Nat.not_lt_zero _)
 | n + 1,h => by
  unfold fstH
  by_cases x : fstH q n ≥ 0
  ·rw [if_pos x]
   exact x
  ·rw [if_neg x]
   by_cases y : i = n
   ·subst y
    rw [if_pos hq]
    omega
   ·exact absurd (fstH_pos hq (by omega)) x
theorem fstH_iff {q : Nat → Bool} : ∀ {n : Nat},0 ≤ fstH q n → (fstH q n).toNat < n ∧ q (fstH q n).toNat = true ∧ ∀ i,i < (fstH q n).toNat → q i = false
  | 0,h => absurd h (by show ¬ (0 : Int) ≤ -1; decide)
  | n + 1,h => by
    by_cases e : fstH q n ≥ 0
    · have e1 : fstH q (n + 1) = fstH q n := by conv => lhs; unfold fstH
                                                rw [if_pos e]
      rw [e1]
      obtain ⟨a,b,c⟩ := fstH_iff e
      exact ⟨by omega,b,c⟩
    · by_cases e2 : q n = true
      · have e1 : fstH q (n + 1) = (n : Int) := by conv => lhs; unfold fstH
                                                   rw [if_neg e,if_pos e2]
        rw [e1]
        refine ⟨by simp,by simpa using e2,fun i hi => ?_⟩
        cases hq : q i with
        | false => rfl
        | true =>
          exact absurd (fstH_pos hq (by simpa using hi)) e
      · have e1 : fstH q (n + 1) = -1 := by conv => lhs; unfold fstH
                                            rw [if_neg e,if_neg e2]
        omega
def starvR (p : Pas) (heads : List Int) (rain : List UInt8) : Int := fstH (hungAt p heads rain) rain.length
abbrev Spl := UInt8 × Int
def spC (x : Spl) : List Value := [.int .u8 x.1.toNat,vint x.2]
def nextX (x : Spl) (c : UInt8) : Spl := if x.1 ≠ c then (c,1) else (c,x.2 + 1)
def nextOk (s : SkyR) (x : Spl) (c : UInt8) : Bool := if x.1 ≠ c then true else decide (x.2 < if c = 119 then s.flood else s.drought)
def growB (s : SkyR) : Nat → List UInt8 → Spl → List (List UInt8)
 | 0,w,_ => [w]
 | n + 1,w,x => (if nextOk s x 100 = true then growB s n (w ++ [100]) (nextX x 100) else []) ++ (if nextOk s x 119 = true then growB s n (w ++ [119]) (nextX x 119) else [])
def rainsB (s : SkyR) : List (List UInt8) := growB s s.days.toNat [] (0,0)
theorem growB_len {s : SkyR} : ∀ {n : Nat} {w : List UInt8} {x : Spl},∀ u ∈ growB s n w x,u.length = w.length + n
 | 0,w,x,u,hu => by
  rw [List.mem_singleton.1 hu]
  rfl
 | n + 1,w,x,u,hu => by
  unfold growB at hu
  rcases List.mem_append.1 hu with hu | hu
  ·split at hu
   ·rw [growB_len u hu,List.length_append]
    simp
    omega
   ·cases hu
  ·split at hu
   ·rw [growB_len u hu,List.length_append]
    simp
    omega
   ·cases hu
theorem rainsB_len {s : SkyR} {u : List UInt8} (h : u ∈ rainsB s) : u.length = s.days.toNat := by
 have := growB_len u h
 simpa using this
section
variable {main : Bool} {J : JT} {h H : List AObj} {K : Value → List AObj → Prop} {KV : Value → Prop} {HL : List AObj → Prop} {n0 : Nat}
theorem good29 (hJ : Closed prog main J) {n lo hi : Int} (hK : K (.bool (decide (lo ≤ n ∧ n ≤ hi))) h) : Good prog J 29 [vint n,vint lo,vint hi] h K := by
 refine g29 hJ fun ok => ?_
 rw [e29]
 refine leqI (cndI (fun h1 => leqI (retL_same (by simp [unk]) ?_)) fun h1 => retL_same (by simp [unk]) ?_)
 ·simpa [pack,h1] using hK
 ·simpa [pack,h1] using hK
theorem good26 (hJ : Closed prog main J) {n lo hi : Int} (hK : K (vint (cntE n lo hi)) h) : Good prog J 26 [vint n,vint lo,vint hi] h K := by
 refine g26 hJ fun ok => ?_
 rw [e26]
 refine lssI (cndI (fun h1 => retL_same (by simp [unk]) ?_) fun h1 => gtrI (cndI (fun h2 => retL_same (by simp [unk]) ?_) fun h2 => retL_same (by simp [unk]) ?_))
 ·simpa [cntE,h1,pack] using hK
 ·simpa [cntE,h1,h2,pack] using hK
 ·simpa [cntE,h1,h2,pack] using hK
theorem good27 (hJ : Closed prog main J) {p : Pas} (hK : K (vint (pasE p)) h) : Good prog J 27 [.agg ⟨p.cells⟩] h K := by
 refine g27 hJ fun ok => ?_
 rw [e27]
 refine qBox (l := p.cells) rfl fun H1 p1 e1 S1 c1 l1 => ?_
 have fin : ∀ e : Int,pasE p = e → retL h.length K [] [vint e] H1 := fun e he => by
  subst he
  exact retX ok (Nat.le_refl _) S1 (by simp) (by simp [unk]) (by simp [pack,VOk]) hK
 have no : ∀ {q : Prop},(pasOk p → q) → ¬ q → retL h.length K [] [vint 1] H1 := fun a b => fin 1 (by unfold pasE; rw [if_neg fun x => b (a x)])
 refine offI (ldI (v := vint p.bears) c1 rfl rfl (good29 hJ (cndI (fun h1 => ?_) fun h1 => hold.2 ?_)))
 rotate_left
 ·rw [s27_1]
  exact cnd_false.2 (no (fun x => x.1) h1)
 refine offI (ldI (v := vint p.grass) c1 rfl rfl (offI (ldI (v := vint p.bears) c1 rfl rfl (good29 hJ (cndI (fun h2 => ?_) fun h2 => hold.2 ?_)))))
 rotate_left
 ·rw [s27_1]
  exact cnd_false.2 (no (fun x => x.2.1) h2)
 refine offI (ldI (v := vint p.dry) c1 rfl rfl (good29 hJ (cndI (fun h3 => ?_) fun h3 => hold.2 ?_)))
 rotate_left
 ·rw [s27_1]
  exact cnd_false.2 (no (fun x => x.2.2.1) h3)
 refine offI (ldI (v := vint p.wet) c1 rfl rfl (offI (ldI (v := vint p.dry) c1 rfl rfl (good29 hJ (cndI (fun h4 => ?_) fun h4 => hold.2 ?_)))))
 rotate_left
 ·rw [s27_1]
  exact cnd_false.2 (no (fun x => x.2.2.2.1) h4)
 refine offI (ldI (v := vint p.stubble) c1 rfl rfl (offI (ldI (v := vint p.bears) c1 rfl rfl (good29 hJ (cndI (fun h5 => ?_) fun h5 => hold.2 ?_)))))
 rotate_left
 ·rw [s27_1]
  exact cnd_false.2 (no (fun x => x.2.2.2.2.1) h5)
 refine offI (ldI (v := vint p.sleep) c1 rfl rfl (good29 hJ (hold.2 ?_)))
 rw [s27_1]
 refine cndI (fun h6 => fin 0 ?_) fun h6 => no (fun x => x.2.2.2.2.2) h6
 unfold pasE
 rw [if_pos ⟨h1,h2,h3,h4,h5,h6⟩]
theorem good28 (hJ : Closed prog main J) {s : SkyR} (hK : K (vint (skyE s)) h) : Good prog J 28 [.agg ⟨s.cells⟩] h K := by
 refine g28 hJ fun ok => ?_
 rw [e28]
 refine qBox (l := s.cells) rfl fun H1 p1 e1 S1 c1 l1 => ?_
 have fin : ∀ e : Int,skyE s = e → retL h.length K [] [vint e] H1 := fun e he => by
  subst he
  exact retX ok (Nat.le_refl _) S1 (by simp) (by simp [unk]) (by simp [pack,VOk]) hK
 have no : ∀ {q : Prop},(skyOk s → q) → ¬ q → retL h.length K [] [vint 1] H1 := fun a b => fin 1 (by unfold skyE; rw [if_neg fun x => b (a x)])
 refine offI (ldI (v := vint s.days) c1 rfl rfl (good29 hJ (cndI (fun h1 => ?_) fun h1 => hold.2 ?_)))
 rotate_left
 ·rw [s28_1]
  exact cnd_false.2 (no (fun x => x.1) h1)
 refine offI (ldI (v := vint s.drought) c1 rfl rfl (offI (ldI (v := vint s.days) c1 rfl rfl (good29 hJ (cndI (fun h2 => ?_) fun h2 => hold.2 ?_)))))
 rotate_left
 ·rw [s28_1]
  exact cnd_false.2 (no (fun x => x.2.1) h2)
 refine offI (ldI (v := vint s.flood) c1 rfl rfl (offI (ldI (v := vint s.days) c1 rfl rfl (good29 hJ (hold.2 ?_)))))
 rw [s28_1]
 refine cndI (fun h3 => fin 0 ?_) fun h3 => no (fun x => x.2.2) h3
 unfold skyE
 rw [if_pos ⟨h1,h2,h3⟩]
theorem good42 (hJ : Closed prog main J) {v : Value} {a b : Int} (hs : Sli H v 1 2 [vint a,vint b]) (hK : K (vint (fst2 a b)) H) : Good prog J 42 [v] H K := by
 refine g42 hJ fun ok => ?_
 rw [e42]
 have hs' : Sli H v 1 ([a,b] : List Int).length (([a,b] : List Int).map vint) := hs
 refine lenI hs ?_
 refine l42_1 hJ (fun i : Nat => 2 - i) (fun i F H' => H' = H ∧ i ≤ 2 ∧ (1 ≤ i → a = 0) ∧ (2 ≤ i → b = 0) ∧ F.ds = [] ∧ F.r 5 = v ∧ F.r 6 = vint (2 : Nat) ∧ F.r 7 = vint (i : Nat)) ?_ (s := 0)
  (.inl ⟨rfl,by omega,by omega,by omega,rfl,rfl,rfl,rfl⟩)
 rintro i F H' ⟨rfl,hi,ha,hb,ds,r5,r6,r7⟩ okc hnc
 rw [s42_1,r5,r6,r7,ds]
 refine lssI (cndI (fun hlt => ?_) fun hge => ?_)
 rotate_left
 ·have h1 := ha (by omega)
  have h2 := hb (by omega)
  refine retL_same (by simp [unk]) ?_
  unfold fst2 at hK
  rw [if_neg (by omega),h2] at hK
  exact hK
 have hil : i < 2 := by omega
 by_cases e : i = 0
 ·subst e
  refine sliN hs' (i := 0) (x := a) rfl fun q => neqI (cndI (fun hne => retL_same (by simp [unk]) ?_) fun heq => addI (by omega) ⟨1,by decide,.inl ⟨rfl,by omega,fun _ => by omega,by omega,ds,r5,r6,rfl⟩⟩)
  unfold fst2 at hK
  rw [if_pos hne] at hK
  exact hK
 ·have : i = 1 := by omega
  subst this
  have h1 := ha (by omega)
  refine sliN hs' (i := 1) (x := b) rfl fun q => neqI (cndI (fun hne => retL_same (by simp [unk]) ?_) fun heq => addI (by omega) ⟨2,by decide,.inl ⟨rfl,by omega,fun _ => h1,fun _ => by omega,ds,r5,r6,rfl⟩⟩)
  unfold fst2 at hK
  rw [if_neg (by omega)] at hK
  exact hK
theorem fillM {p : Pas} {a b : Int} {KL : List Value → Prop} (hk : KL (medC p (a,b))) : aFill [(vint 0),(vint 0),(vint 0),(vint 0),(vint 0),(vint 0),(vint 0),(vint 0)] [(0,6,.agg ⟨p.cells⟩),(6,2,.agg ⟨[vint a,vint b]⟩)] KL := by
 refine fillO (l := p.cells) rfl rfl rfl (by decide) (fillO (l := [vint a,vint b]) rfl rfl rfl (by rw [wrAt_length]; decide) (fillI hk))
theorem good66 (hJ : Closed prog main J) {p : Pas} (hK : ∀ H' m,m = H'.length - 1 → SameX [] H H' → H'[m]? = some (.cells (medC p (p.grass,0)) true 0) → H.length ≤ m → K (ptr m 0) H') : Good prog J 66 [.agg ⟨p.cells⟩] H K := by
 refine g66 hJ fun ok => ?_
 rw [e66]
 refine qBox (l := p.cells) rfl fun H1 p1 e1 S1 c1 l1 => load_part (c := p.cells) c1 (by simp [Pas.cells]) rfl rfl (offI (ldI (v := vint p.grass) c1 rfl rfl ?_))
 refine fillO (l := [vint p.grass]) rfl rfl rfl (by decide) (fillI (fillM (qBox (l := medC p (p.grass,0)) rfl fun H2 p2 e2 S2 c2 l2 => retL_same (by simp [unk]) (hK H2 p2 (by omega) (S1.trans S2) c2 (by omega)))))
theorem good67 (hJ : Closed prog main J) {p : Pas} {x : Std} {n : Int} {w : Bool} {m : Nat} (hm : H[m]? = some (.cells (medC p x) true 0)) (f : pasOk p) (o : StdOk p x) (hn : 0 ≤ n ∧ n ≤ 1000000)
  (hK : ∀ H',SameX [m] H H' → H'[m]? = some (.cells (medC p (dayR p x n w)) true 0) → K (.tuple ⟨[.bool (hungR x n),.bool (shortR p x n)]⟩) H') : Good prog J 67 [ptr m 0,vint n,.bool w] H K := by
 refine g67 hJ fun ok => ?_
 rw [e67]
 have og := o.g
 have oa := o.a
 have hb := leftR_bd o hn.1
 obtain ⟨f1,f2,f3,f4,f5,f6⟩ := f
 have mc : ∀ (a b : Int),medC p (a,b) = [vint p.grass,vint p.bears,vint p.dry,vint p.wet,vint p.stubble,vint p.sleep,vint a,vint b] := fun a b => rfl
 obtain ⟨xa,xb⟩ := x
 dsimp only at og oa
 rw [mc] at hm
 refine nilI (offI (offI (ldI (v := vint xa) hm rfl rfl (gtrI ?_))))
 refine nilI (offI (offI (ldI (v := vint xa) hm rfl rfl ?_)))
 refine nilI (offI (offI (ldI (v := vint xa) hm rfl rfl (minI (subI (by omega) ?_)))))
 refine nilI (offI (offI (qSt hm (by simp) rfl rfl fun H1 S1 c1 l1 => ?_)))
 have el : xa - min n xa = leftR (xa,xb) n := rfl
 rw [el] at c1 ⊢
 have c1 : H1[m]? = some (.cells (medC p (leftR (xa,xb) n,xb)) true 0) := c1
 -- behind the eating
 have post : ∀ {F : RG},F.ds = [] → F.r 0 = ptr m 0 → F.r 2 = .bool w → F.r 6 = .bool (hungR (xa,xb) n) → F.r 7 = .bool (shortR p (xa,xb) n) →
   W prog J 119 H.length 67 (subC [1,1,1,1] (codeOf f67)) F H1 (contX pl67 prog J 119 H.length 67 ct67 [1,1,1,1] (codeOf f67) [] (RetQ prog [.tmp 6,.tmp 7] H.length K)) := by
  intro F ds r0 r2 r6 r7
  rw [s67_1,r0,r2,r6,r7,ds]
  have fin : ∀ {y : Std} {H2 : List AObj},dayR p (xa,xb) n w = y → SameX [m] H1 H2 → H2[m]? = some (.cells (medC p y) true 0) → retL H.length K [] [.bool (hungR (xa,xb) n),.bool (shortR p (xa,xb) n)] H2 := fun hy S2 c2 => by
   subst hy
   exact retL_same (by simp [unk]) (hK _ (S1.trans S2) c2)
  rw [mc] at c1
  refine cndB (fun hs => ?_) fun hs => ?_
  ·refine nilI (offI (offI (ldI (v := vint p.sleep) c1 rfl rfl (nilI (offI (offI (qSt c1 (by simp) rfl rfl fun H2 S2 c2 l2 => ?_)))))))
   refine fin (y := (leftR (xa,xb) n,p.sleep)) ?_ S2 c2
   unfold dayR
   rw [if_pos hs]
  ·have hs' : ¬ shortR p (xa,xb) n = true := by rw [hs]; decide
   refine nilI (offI (offI (ldI (v := vint xb) c1 rfl rfl (gtrI (cndI (fun h0 => ?_) fun h0 => ?_)))))
   ·refine nilI (offI (offI (ldI (v := vint xb) c1 rfl rfl (subI (by omega) (nilI (offI (offI (qSt c1 (by simp) rfl rfl fun H2 S2 c2 l2 => ?_))))))))
    refine fin (y := (leftR (xa,xb) n,xb - 1)) ?_ S2 c2
    unfold dayR
    rw [if_neg hs',if_pos h0]
   ·refine cndB (fun hw => ?_) fun hw => ?_
    ·refine nilI (offI (offI (ldI (v := vint p.bears) c1 rfl rfl (nilI (offI (offI (ldI (v := vint (leftR (xa,xb) n)) c1 rfl rfl (nilI (offI (offI (ldI (v := vint p.wet) c1 rfl rfl (addI (by omega) (minI (nilI (offI (offI (qSt c1 (by simp) rfl rfl fun H2 S2 c2 l2 => ?_)))))))))))))))))
     refine fin (y := (min p.bears (leftR (xa,xb) n + p.wet),xb)) ?_ S2 c2
     unfold dayR
     rw [if_neg hs',if_neg h0,if_pos hw]
    ·refine nilI (offI (offI (ldI (v := vint p.bears) c1 rfl rfl (nilI (offI (offI (ldI (v := vint (leftR (xa,xb) n)) c1 rfl rfl (nilI (offI (offI (ldI (v := vint p.dry) c1 rfl rfl (addI (by omega) (minI (nilI (offI (offI (qSt c1 (by simp) rfl rfl fun H2 S2 c2 l2 => ?_)))))))))))))))))
     refine fin (y := (min p.bears (leftR (xa,xb) n + p.dry),xb)) ?_ S2 c2
     unfold dayR
     rw [if_neg hs',if_neg h0,if_neg (by rw [hw]; decide)]
 refine gtrI (cndI (fun h0 => ?_) fun h0 => hold.2 ?_)
 ·rw [mc] at c1
  refine nilI (offI (offI (ldI (v := vint (leftR (xa,xb) n)) c1 rfl rfl (nilI (offI (offI (ldI (v := vint p.stubble) c1 rfl rfl (lssI (hold.2 ?_)))))))))
  refine post rfl rfl rfl rfl ?_
  show Value.bool _ = Value.bool _
  unfold shortR
  rw [decide_eq_true h0]
  rfl
 ·refine post rfl rfl rfl rfl ?_
  show Value.bool _ = Value.bool _
  unfold shortR
  rw [decide_eq_false h0]
  rfl
theorem good57 (hJ : Closed prog main J) {s : SkyR} {x : Spl} {c : UInt8} (hx : -1 ≤ x.2 ∧ x.2 ≤ 1000000) (hK : ∀ H',SameX [] H H' → K (.tuple ⟨[.agg ⟨spC (nextX x c)⟩,.bool (nextOk s x c)]⟩) H') : Good prog J 57 [.agg ⟨spC x⟩,.agg ⟨s.cells⟩,.int .u8 c.toNat] H K := by
 refine g57 hJ fun ok => ?_
 rw [e57]
 refine qBox (l := spC x) rfl fun H1 p1 e1 S1 c1 l1 => qBox (l := s.cells) rfl fun H2 p2 e2 S2 c2 l2 => qAl fun H3 p3 e3 S3 c3 l3 => ?_
 have c13 := S3.get (S2.get c1 (by simp)) (by simp)
 have c23 := S3.get c2 (by simp)
 have T3 := (S1.trans S2).trans S3
 refine offI (ldI (v := .int .u8 x.1.toNat) c13 rfl rfl (neqU (cndI (fun hne => ?_) fun heq => ?_)))
 ·refine fillO (l := [.int .u8 c.toNat]) rfl rfl rfl (by decide) (fillO (l := [vint 1]) rfl rfl rfl (by rw [wrAt_length]; decide) (fillI ?_))
  refine qStA (c := spC (c,1)) c3 rfl rfl rfl fun H4 S4 c4 l4 => ?_
  refine retQs rfl (resW_cell (gg := true) (s := 2) (by kernel_rfl) (load_part (c := spC (c,1)) c4 (by simp [spC]) rfl rfl (resW_tmp (by simp [unk,RG.p]) (resW_nil ?_))))
  have := hK H4 (T3.thru S4 (by simp; omega))
  unfold nextX nextOk at this
  rw [if_pos hne,if_pos hne] at this
  exact this
 ·have heq : x.1 = c := Classical.not_not.1 heq
  have post : ∀ {F : RG} {most : Int},most = (if c = 119 then s.flood else s.drought) → F.ds = [] → F.r 2 = .int .u8 c.toNat → F.r 3 = ptr p1 0 → F.r 6 = ptr p3 0 → F.r 8 = vint most →
    W prog J 30 H.length 57 (subC [1,1,1,1] (codeOf f57)) F H3 (contX pl57 prog J 30 H.length 57 ct57 [1,1,1,1] (codeOf f57) [] (RetQ prog [.cell 6 91,.tmp 7] H.length K)) := by
   intro F most hm ds r2 r3 r6 r8
   rw [s57_1,r2,r3,r6,r8]
   refine ⟨[p1],offI (ldI (v := vint x.2) c13 rfl rfl ⟨by simp [RdOk,ptrBlk],addI (by omega) ?_⟩)⟩
   refine fillO (l := [.int .u8 c.toNat]) rfl rfl rfl (by decide) (fillO (l := [vint (x.2 + 1)]) rfl rfl rfl (by rw [wrAt_length]; decide) (fillI ?_))
   refine offI (ldI (v := vint x.2) c13 rfl rfl ⟨by simp [RdOk,ptrBlk],lssI ?_⟩)
   refine qStA (c := spC (c,x.2 + 1)) c3 rfl rfl rfl fun H4 S4 c4 l4 => ⟨sbOne S4 (lt_of_get c13) (by simp; omega),?_⟩
   refine retQs ds (resW_cell (gg := true) (s := 2) (by kernel_rfl) ?_)
   show aLoad true 2 (F.r 6) H4 _
   rw [r6]
   refine load_part (c := spC (c,x.2 + 1)) c4 (by simp [spC]) rfl rfl (resW_tmp (by simp [unk,RG.p]) (resW_nil ?_))
   have := hK H4 (T3.thru S4 (by simp; omega))
   unfold nextX nextOk at this
   rw [if_neg (not_not_intro heq),if_neg (not_not_intro heq),← hm] at this
   exact this
  refine offI (ldI (v := vint s.drought) c23 rfl rfl ?_)
  have e119 : (Value.int .u8 119) = .int .u8 (119 : UInt8).toNat := rfl
  rw [e119]
  refine eqlU (cndI (fun hw => ?_) fun hw => hold.2 ?_)
  ·exact offI (ldI (v := vint s.flood) c23 rfl rfl (hold.2 (post (most := s.flood) (by rw [if_pos hw]) rfl rfl rfl rfl rfl)))
  ·exact post (most := s.drought) (by rw [if_neg hw]) rfl rfl rfl rfl rfl
end
def pas0 : Pas := ⟨0,0,0,0,0,0⟩
structure Wd where
 a : Std
 b : Std
 c : Std
 sp : Spl
 deriving DecidableEq
def Wd.cells (w : Wd) : List Value := [vint w.a.1,vint w.a.2,vint w.b.1,vint w.b.2,vint w.c.1,vint w.c.2,.int .u8 w.sp.1.toNat,vint w.sp.2]
def Wd.val (w : Wd) : Value := .agg ⟨w.cells⟩
def Wd.st (w : Wd) : Nat → Std
 | 0 => w.a
 | 1 => w.b
 | _ => w.c
def Wd.lay (w : Wd) : Nat → Std → Wd
 | 0,x => { w with a := x }
 | 1,x => { w with b := x }
 | _,x => { w with c := x }
theorem Wd.st_lay (w : Wd) {k j : Nat} (x : Std) (hk : k < 3) (hj : j < 3) : (w.lay k x).st j = if j = k then x else w.st j := by
 match k,hk with
 | 0,_ => match j,hj with
  | 0,_ => rfl
  | 1,_ => rfl
  | 2,_ => rfl
 | 1,_ => match j,hj with
  | 0,_ => rfl
  | 1,_ => rfl
  | 2,_ => rfl
 | 2,_ => match j,hj with
  | 0,_ => rfl
  | 1,_ => rfl
  | 2,_ => rfl
theorem Wd.sp_lay (w : Wd) (k : Nat) (x : Std) : (w.lay k x).sp = w.sp := by
 match k with
 | 0 => rfl
 | 1 => rfl
 | _ + 2 => rfl
structure WdOk (ls : List Pas) (w : Wd) : Prop where
 std : ∀ k,k < ls.length → StdOk (ls.getD k pas0) (w.st k)
 sp : 0 ≤ w.sp.2 ∧ w.sp.2 ≤ 8
structure LsOk (ls : List Pas) : Prop where
 few : 1 ≤ ls.length ∧ ls.length ≤ 3
 ok : ∀ p ∈ ls,pasOk p
theorem LsOk.get {ls : List Pas} (L : LsOk ls) {k : Nat} (hk : k < ls.length) : pasOk (ls.getD k pas0) := by
 rw [List.getD_eq_getElem?_getD,List.getElem?_eq_getElem hk]
 exact L.ok _ (List.getElem_mem hk)
def startK (ls : List Pas) : Nat → Wd
 | 0 => ⟨(0,0),(0,0),(0,0),(0,0)⟩
 | k + 1 => (startK ls k).lay k ((ls.getD k pas0).grass,0)
def startW (ls : List Pas) : Wd := startK ls ls.length
theorem startK_sp {ls : List Pas} : ∀ k,(startK ls k).sp = (0,0)
 | 0 => rfl
 | k + 1 => by rw [startK,Wd.sp_lay,startK_sp]
theorem startK_st {ls : List Pas} (L : LsOk ls) : ∀ k,k ≤ ls.length → ∀ j,j < k → StdOk (ls.getD j pas0) ((startK ls k).st j)
 | 0,_,j,hj => absurd hj (Nat.not_lt_zero _)
 | k + 1,hk,j,hj => by
  have := L.few
  rw [startK,Wd.st_lay _ _ (by omega) (by omega)]
  by_cases e : j = k
  ·subst e
   rw [if_pos rfl]
   exact std0_ok (L.get (by omega))
  ·rw [if_neg e]
   exact startK_st L k (by omega) j (by omega)
theorem startW_ok {ls : List Pas} (L : LsOk ls) : WdOk ls (startW ls) := ⟨fun k hk => startK_st L _ (Nat.le_refl _) k hk,by
 unfold startW
 rw [startK_sp]
 decide⟩
def nAt (at_ : Nat) (heads : Int) (k : Nat) : Int := if k = at_ then heads else 0
def gzK (ls : List Pas) (at_ : Nat) (heads : Int) (wet : Bool) (w : Wd) : Nat → Wd × Bool
 | 0 => (w,true)
 | k + 1 => ((gzK ls at_ heads wet w k).1.lay k (dayR (ls.getD k pas0) ((gzK ls at_ heads wet w k).1.st k) (nAt at_ heads k) wet),(gzK ls at_ heads wet w k).2 && !hungR ((gzK ls at_ heads wet w k).1.st k) (nAt at_ heads k))
def gzW (ls : List Pas) (at_ : Nat) (heads : Int) (w : Wd) (x : Spl) : Wd := { (gzK ls at_ heads (wetB x.1) w ls.length).1 with sp := x }
def gzB (ls : List Pas) (at_ : Nat) (heads : Int) (w : Wd) (x : Spl) : Bool := (gzK ls at_ heads (wetB x.1) w ls.length).2
theorem gzK_rest {ls : List Pas} {at_ : Nat} {heads : Int} {wet : Bool} {w : Wd} : ∀ k,k ≤ 3 → ∀ j,k ≤ j → j < 3 → (gzK ls at_ heads wet w k).1.st j = w.st j
 | 0,_,j,_,_ => rfl
 | k + 1,h3,j,hk,hj => by
  show ((gzK ls at_ heads wet w k).1.lay k _).st j = _
  rw [Wd.st_lay _ _ (by omega) hj,if_neg (by omega)]
  exact gzK_rest k (by omega) j (by omega) hj
theorem nAt_bd {at_ : Nat} {heads : Int} {k : Nat} (h : 0 ≤ heads ∧ heads ≤ 40) : 0 ≤ nAt at_ heads k ∧ nAt at_ heads k ≤ 1000000 := by
 unfold nAt
 split <;> omega
theorem gzK_ok {ls : List Pas} (L : LsOk ls) {at_ : Nat} {heads : Int} (hh : 0 ≤ heads ∧ heads ≤ 40) {wet : Bool} {w : Wd} (o : WdOk ls w) : ∀ k,k ≤ ls.length → ∀ j,j < ls.length → StdOk (ls.getD j pas0) ((gzK ls at_ heads wet w k).1.st j)
 | 0,_,j,hj => o.std j hj
 | k + 1,hk,j,hj => by
  have hf := L.few
  show StdOk _ (((gzK ls at_ heads wet w k).1.lay k _).st j)
  rw [Wd.st_lay _ _ (by omega) (by omega)]
  by_cases e : j = k
  ·subst e
   rw [if_pos rfl]
   exact dayR_ok (L.get hj) (gzK_ok L hh o j (by omega) j hj) (nAt_bd hh).1
  ·rw [if_neg e]
   exact gzK_ok L hh o k (by omega) j hj
theorem gzW_ok {ls : List Pas} (L : LsOk ls) {at_ : Nat} {heads : Int} (hh : 0 ≤ heads ∧ heads ≤ 40) {w : Wd} (o : WdOk ls w) {x : Spl} (hx : 0 ≤ x.2 ∧ x.2 ≤ 8) : WdOk ls (gzW ls at_ heads w x) := by
 refine ⟨fun k hk => ?_,hx⟩
 have := gzK_ok L hh (wet := wetB x.1) (at_ := at_) o ls.length (Nat.le_refl _) k hk
 have e : (gzW ls at_ heads w x).st k = (gzK ls at_ heads (wetB x.1) w ls.length).1.st k := by
  match k with
  | 0 => rfl
  | 1 => rfl
  | _ + 2 => rfl
 rw [e]
 exact this
def letters : List UInt8 := [100,119]
def afters (ls : List Pas) (s : SkyR) (at_ : Nat) (heads : Int) (w : Wd) : List (Wd × Bool) := letters.flatMap fun c => if nextOk s w.sp c = true then [(gzW ls at_ heads w (nextX w.sp c),gzB ls at_ heads w (nextX w.sp c))] else []
def dawnB (ls : List Pas) (s : SkyR) (at_ : Nat) (heads : Int) (L : List Wd) : Bool := L.all fun w => (afters ls s at_ heads w).all fun y => y.2
def dawnL (ls : List Pas) (s : SkyR) (at_ : Nat) (heads : Int) (L : List Wd) : List Wd := L.flatMap fun w => (afters ls s at_ heads w).map fun y => y.1
def turnA (ls : List Pas) (s : SkyR) (heads : Int) (L : List Wd) (rest : List Wd → Option (List Int)) : Nat → Option (List Int)
 | 0 => none
 | k + 1 =>
  let at_ := ls.length - (k + 1)
  if dawnB ls s at_ heads L = true then
   match rest (dawnL ls s at_ heads L) with
   | some r => some ((at_ : Int) :: r)
   | none => turnA ls s heads L rest k
  else turnA ls s heads L rest k
def turnR (ls : List Pas) (s : SkyR) (heads : Int) : Nat → List Wd → Option (List Int)
 | 0,L => turnA ls s heads L (fun _ => some []) ls.length
 | d + 1,L => turnA ls s heads L (turnR ls s heads d) ls.length
def SameW (L L' : List Wd) : Prop := ∀ w,w ∈ L ↔ w ∈ L'
theorem dawnB_same {ls : List Pas} {s : SkyR} {at_ : Nat} {heads : Int} {L L' : List Wd} (h : SameW L L') : dawnB ls s at_ heads L = dawnB ls s at_ heads L' := by
 unfold dawnB
 rw [Bool.eq_iff_iff,List.all_eq_true,List.all_eq_true]
 exact ⟨fun a w hw => a w ((h w).2 hw),fun a w hw => a w ((h w).1 hw)⟩
theorem dawnL_same {ls : List Pas} {s : SkyR} {at_ : Nat} {heads : Int} {L L' : List Wd} (h : SameW L L') : SameW (dawnL ls s at_ heads L) (dawnL ls s at_ heads L') := fun w => by
 unfold dawnL
 rw [List.mem_flatMap,List.mem_flatMap]
 exact ⟨fun ⟨a,h1,h2⟩ => ⟨a,(h a).1 h1,h2⟩,fun ⟨a,h1,h2⟩ => ⟨a,(h a).2 h1,h2⟩⟩
theorem turnA_same {ls : List Pas} {s : SkyR} {heads : Int} {L L' : List Wd} (h : SameW L L') {rest : List Wd → Option (List Int)} (hr : ∀ M M',SameW M M' → rest M = rest M') : ∀ k,turnA ls s heads L rest k = turnA ls s heads L' rest k
 | 0 => rfl
 | k + 1 => by
  simp only [turnA]
  rw [dawnB_same h,hr _ _ (dawnL_same h),turnA_same h hr k]
theorem turnR_same {ls : List Pas} {s : SkyR} {heads : Int} : ∀ (d : Nat) (L L' : List Wd),SameW L L' → turnR ls s heads d L = turnR ls s heads d L'
 | 0,_L,_L',h => turnA_same h (fun _ _ _ => rfl) _
 | d + 1,_L,_L',h => turnA_same h (fun M M' => turnR_same d M M') _
theorem nextX_bd {s : SkyR} (f : skyOk s) {x : Spl} {c : UInt8} (h : nextOk s x c = true) (hx : 0 ≤ x.2 ∧ x.2 ≤ 8) : 0 ≤ (nextX x c).2 ∧ (nextX x c).2 ≤ 8 := by
 obtain ⟨f1,f2,f3⟩ := f
 unfold nextX
 unfold nextOk at h
 split
 ·exact ⟨by show (0 : Int) ≤ 1; decide,by show (1 : Int) ≤ 8; decide⟩
 ·rename_i e
  rw [if_neg e] at h
  have h := of_decide_eq_true h
  dsimp only
  split at h <;> omega
theorem afters_ok {ls : List Pas} (L : LsOk ls) {s : SkyR} (f : skyOk s) {at_ : Nat} {heads : Int} (hh : 0 ≤ heads ∧ heads ≤ 40) {w : Wd} (o : WdOk ls w) : ∀ y ∈ afters ls s at_ heads w,WdOk ls y.1 := fun y hy => by
 unfold afters at hy
 rw [List.mem_flatMap] at hy
 obtain ⟨c,_,hy⟩ := hy
 split at hy
 ·rename_i hc
  rw [List.mem_singleton.1 hy]
  exact gzW_ok L hh o (nextX_bd f hc o.sp)
 ·cases hy
section
variable {main : Bool} {J : JT} {h H : List AObj} {K : Value → List AObj → Prop} {KV : Value → Prop} {HL : List AObj → Prop} {n0 : Nat}
theorem store2 {b k sz : Nat} {w : Wd} {x : Std} (hb : H[b]? = some (.cells w.cells true sz)) (hk : k < 3) (h1 : ∀ H',SameX [b] H H' → H'[b]? = some (.cells (w.lay k x).cells true sz) → H'.length = H.length → HL H') : aStore 2 (ptr b (k * 2)) (.agg ⟨[vint x.1,vint x.2]⟩) H HL := by
 have hlt := lt_of_get hb
 have fin : HL (H.set b (.cells (w.lay k x).cells true sz)) := h1 _ ⟨by simp,fun i hi hn => by rw [List.getElem?_set_ne (fun e => hn (by simp [e]))]⟩ (by simp [hlt]) (by simp)
 unfold aStore
 simp only [hb]
 refine ⟨rfl,rfl,?_,?_⟩
 ·simp [Wd.cells]
  omega
 ·match k,hk with
  | 0,_ => exact fin
  | 1,_ => exact fin
  | 2,_ => exact fin
theorem load2 {b k sz : Nat} {w : Wd} {wr : Bool} (hb : H[b]? = some (.cells w.cells wr sz)) (hk : k < 3) (h1 : KV (.agg ⟨[vint (w.st k).1,vint (w.st k).2]⟩)) : aLoad true 2 (ptr b (k * 2)) H KV := by
 refine load_part (c := [vint (w.st k).1,vint (w.st k).2]) hb (by simp [Wd.cells]; omega) ?_ rfl h1
 match k,hk with
 | 0,_ => rfl
 | 1,_ => rfl
 | 2,_ => rfl
theorem storeS {b sz : Nat} {w : Wd} {x : Spl} (hb : H[b]? = some (.cells w.cells true sz)) (h1 : ∀ H',SameX [b] H H' → H'[b]? = some (.cells ({ w with sp := x } : Wd).cells true sz) → H'.length = H.length → HL H') : aStore 2 (ptr b 6) (.agg ⟨spC x⟩) H HL := by
 have hlt := lt_of_get hb
 have fin : HL (H.set b (.cells ({ w with sp := x } : Wd).cells true sz)) := h1 _ ⟨by simp,fun i hi hn => by rw [List.getElem?_set_ne (fun e => hn (by simp [e]))]⟩ (by simp [hlt]) (by simp)
 unfold aStore
 simp only [hb]
 exact ⟨rfl,rfl,by simp [Wd.cells],fin⟩
theorem good34 (hJ : Closed prog main J) {ls : List Pas} {lv : Value} (L : LsOk ls) (hl : SliE H lv 6 Pas.cells ls) (hK : ∀ H',SameX [] H H' → K (startW ls).val H') : Good prog J 34 [lv] H K := by
 refine g34 hJ fun ok => ?_
 rw [e34]
 have few := L.few
 refine qAl fun H1 p1 e1 S1 c1 l1 => qAl fun H2 p2 e2 S2 c2 l2 => ?_
 rw [sliE_len hl]
 have c1' := S2.get c1 (by simp)
 refine l34_1 hJ (fun k : Nat => ls.length - k) (fun k F H' => k ≤ ls.length ∧ SameX [] H H' ∧ H'[p1]? = some (.cells [vint 0,vint 0,vint 0,vint 0,vint 0,vint 0,.int .u8 0,vint 0] true 0) ∧ H'[p2]? = some (.cells (startK ls k).cells true 0) ∧ F.ds = [] ∧ F.r 2 = ptr p1 0 ∧ F.r 3 = ptr p2 0 ∧ F.r 6 = lv ∧ F.r 7 = vint (ls.length : Nat) ∧ F.r 8 = vint (k : Nat)) ?_ (s := 0)
  (.inl ⟨by omega,S1.trans S2,c1',c2,rfl,rfl,rfl,rfl,rfl,rfl⟩)
 rintro k F H' ⟨hk,S,d1,d2,ds,r2,r3,r6,r7,r8⟩ okc hnc
 rw [s34_1,r2,r3,r6,r7,r8]
 refine lssI (cndI (fun hlt => ?_) fun hge => ?_)
 rotate_left
 ·have : k = ls.length := by omega
  subst this
  refine load_part (c := (startW ls).cells) d2 (by simp [Wd.cells]) rfl rfl ?_
  refine qStA (c := (startW ls).cells) d1 rfl rfl rfl fun H4 S4 c4 l4 => ?_
  refine retQs ds (resW_cell (gg := true) (s := 8) (by kernel_rfl) ?_)
  show aLoad true 8 (F.r 2) H4 _
  rw [r2]
  refine load_part (c := (startW ls).cells) c4 (by simp [Wd.cells]) rfl rfl (resW_nil ?_)
  exact hK H4 (S.thru S4 (by simp; omega))
 have hkl : k < ls.length := by omega
 have hl' := S.sli hl (by simp)
 obtain ⟨b,o,cs,wr,sz,hidx,hb,hos,htk,hkn⟩ := sliE_elem (s := 6) (fun _ => rfl) (by decide) hl' hkl
 have eg : ls[k] = ls.getD k pas0 := by
  rw [List.getD_eq_getElem?_getD,List.getElem?_eq_getElem hkl]
  rfl
 rw [eg] at htk
 generalize hp : ls.getD k pas0 = p at htk
 refine hidx _ (load_part (c := p.cells) hb hos htk rfl (qAl fun H4 p4 e4 S4 c4 l4 => qStA (c := p.cells) c4 rfl rfl rfl fun H5 S5 c5 l5 => ?_))
 have d2' := S5.get (S4.get d2 (by simp)) (by have := lt_of_get d2; simp; omega)
 have d1' := S5.get (S4.get d1 (by simp)) (by have := lt_of_get d1; simp; omega)
 have S' := (S.trans S4).thru S5 (by have := S.1; simp; omega)
 refine offI (ldI (v := vint p.grass) c5 rfl rfl (fillO (l := [vint p.grass]) rfl rfl rfl (by decide) (fillI (offI (idxAz (by omega) (store2 (x := (p.grass,0)) d2' (by omega) fun H6 S6 c6 l6 => ?_))))))
 refine addI (by omega) ⟨k + 1,by dsimp only; omega,.inl ⟨by omega,S'.thru S6 (by simp; omega),S6.get d1' (by simp; omega),?_,ds,r2,r3,r6,r7,by show vint _ = vint _; congr 1⟩⟩
 rw [c6,startK,hp]
theorem good58 (hJ : Closed prog main J) {ls : List Pas} {lv : Value} {w : Wd} {x : Spl} {at_ : Nat} {heads : Int} (L : LsOk ls) (hl : SliE H lv 6 Pas.cells ls) (o : WdOk ls w) (hh : 0 ≤ heads ∧ heads ≤ 40) (hK : ∀ H',SameX [] H H' → K (.tuple ⟨[(gzW ls at_ heads w x).val,.bool (gzB ls at_ heads w x)]⟩) H') : Good prog J 58 [w.val,lv,vint (at_ : Nat),vint heads,.agg ⟨spC x⟩] H K := by
 refine g58 hJ fun ok => ?_
 rw [e58]
 have few := L.few
 refine qBox (l := w.cells) rfl fun H1 p1 e1 S1 c1 l1 => qBox (l := spC x) rfl fun H2 p2 e2 S2 c2 l2 => qAl fun H3 p3 e3 S3 c3 l3 => ?_
 rw [sliE_len hl]
 have c1' := S3.get (S2.get c1 (by simp)) (by simp)
 have c2' := S3.get c2 (by simp)
 refine l58_1 hJ (fun k : Nat => ls.length - k) (fun k F H' => k ≤ ls.length ∧ SameX [] H H' ∧ H'[p1]? = some (.cells (gzK ls at_ heads (wetB x.1) w k).1.cells true 0) ∧ H'[p2]? = some (.cells (spC x) true 0) ∧ H'[p3]? = some (.cells [vint 0,vint 0,vint 0,vint 0,vint 0,vint 0,.int .u8 0,vint 0] true 0) ∧ F.ds = [] ∧ F.r 2 = vint (at_ : Nat) ∧ F.r 3 = vint heads ∧ F.r 5 = ptr p1 0 ∧ F.r 9 = ptr p2 0 ∧ F.r 10 = ptr p3 0 ∧ F.r 12 = .bool (gzK ls at_ heads (wetB x.1) w k).2 ∧ F.r 19 = lv ∧ F.r 20 = vint (ls.length : Nat) ∧ F.r 21 = vint (k : Nat)) ?_ (s := 0)
  (.inl ⟨by omega,(S1.trans S2).trans S3,c1',c2',c3,rfl,rfl,rfl,rfl,rfl,rfl,rfl,rfl,rfl,rfl⟩)
 rintro k F H' ⟨hk,S,d1,d2,d3,ds,r2,r3,r5,r9,r10,r12,r19,r20,r21⟩ okc hnc
 rw [s58_1,r2,r3,r5,r9,r10,r12,r19,r20,r21]
 refine lssI (cndI (fun hlt => ?_) fun hge => ?_)
 rotate_left
 ·have : k = ls.length := by omega
  subst this
  refine load_part (c := spC x) d2 (by simp [spC]) rfl rfl (offI (storeS d1 fun H4 S4 c4 l4 => ?_))
  have d3' := S4.get d3 (by simp; omega)
  refine load_part (c := (gzW ls at_ heads w x).cells) c4 (by simp [Wd.cells]) rfl rfl ?_
  refine qStA (c := (gzW ls at_ heads w x).cells) d3' rfl rfl rfl fun H5 S5 c5 l5 => ?_
  refine retQs ds (resW_cell (gg := true) (s := 8) (by kernel_rfl) ?_)
  show aLoad true 8 (F.r 10) H5 _
  rw [r10]
  refine load_part (c := (gzW ls at_ heads w x).cells) c5 (by simp [Wd.cells]) rfl rfl (resW_tmp (by simp [unk,RG.p]) (resW_nil ?_))
  exact hK H5 ((S.thru S4 (by simp; omega)).thru S5 (by simp; omega))
 have hkl : k < ls.length := by omega
 have hl' := S.sli hl (by simp)
 obtain ⟨b,oo,cs,wr,sz,hidx,hb,hos,htk,hkn⟩ := sliE_elem (s := 6) (fun _ => rfl) (by decide) hl' hkl
 have eg : ls[k] = ls.getD k pas0 := by
  rw [List.getD_eq_getElem?_getD,List.getElem?_eq_getElem hkl]
  rfl
 rw [eg] at htk
 have fp := L.get hkl
 have fo := gzK_ok L hh (at_ := at_) (wet := wetB x.1) o k hk k hkl
 generalize hp : ls.getD k pas0 = p at htk fp fo
 refine hidx _ (load_part (c := p.cells) hb hos htk rfl (qAl fun H4 p4 e4 S4 c4 l4 => qStA (c := p.cells) c4 rfl rfl rfl fun H5 S5 c5 l5 => eqlI ?_))
 have n4 : p4 = H'.length := e4
 have l1' := lt_of_get d1
 have l2' := lt_of_get d2
 have l3' := lt_of_get d3
 have d1' := S5.get (S4.get d1 (by simp)) (by simp; omega)
 have d2' := S5.get (S4.get d2 (by simp)) (by simp; omega)
 have d3' := S5.get (S4.get d3 (by simp)) (by simp; omega)
 have S' := (S.trans S4).thru S5 (by have := S.1; simp; omega)
 have post : ∀ {F' : RG},F'.ds = [] → F'.r 2 = vint (at_ : Nat) → F'.r 3 = vint heads → F'.r 5 = ptr p1 0 → F'.r 9 = ptr p2 0 → F'.r 10 = ptr p3 0 → F'.r 12 = .bool (gzK ls at_ heads (wetB x.1) w k).2 → F'.r 19 = lv → F'.r 20 = vint (ls.length : Nat) → F'.r 21 = vint (k : Nat) → F'.r 13 = vint (k : Nat) → F'.r 14 = ptr p4 0 → F'.r 15 = vint (nAt at_ heads k) → 
   W prog J 55 H.length 58 (subC [1,1,0,1,0,0,1,1,0,0,1,1,1] (codeOf f58)) F' H5 (contX pl58 prog J 55 H.length 58 ct58 [1,1,0,1,0,0,1,1,0,0,1,1,1] (codeOf f58) [Nx H.length (fun k : Nat => ls.length - k) (fun k F H' => k ≤ ls.length ∧ SameX [] H H' ∧ H'[p1]? = some (.cells (gzK ls at_ heads (wetB x.1) w k).1.cells true 0) ∧ H'[p2]? = some (.cells (spC x) true 0) ∧ H'[p3]? = some (.cells [vint 0,vint 0,vint 0,vint 0,vint 0,vint 0,.int .u8 0,vint 0] true 0) ∧ F.ds = [] ∧ F.r 2 = vint (at_ : Nat) ∧ F.r 3 = vint heads ∧ F.r 5 = ptr p1 0 ∧ F.r 9 = ptr p2 0 ∧ F.r 10 = ptr p3 0 ∧ F.r 12 = .bool (gzK ls at_ heads (wetB x.1) w k).2 ∧ F.r 19 = lv ∧ F.r 20 = vint (ls.length : Nat) ∧ F.r 21 = vint (k : Nat)) k] (RetQ prog [.cell 10 93,.tmp 11] H.length K)) := by
  intro F' ds r2 r3 r5 r9 r10 r12 r19 r20 r21 r13 r14 r15
  rw [s58_2,r5,r9,r13,r14,r15,r21]
  generalize hW : (gzK ls at_ heads (wetB x.1) w k).1 = W at *
  refine ⟨[p4,p1],load_part (c := p.cells) c5 (by simp [Pas.cells]) rfl rfl ⟨by simp [RdOk,ptrBlk],offI (idxAz (by omega) (load2 d1' (by omega) ⟨by simp [RdOk,ptrBlk],fillM (qAl fun H6 p6 e6 S6 c6 l6 => ⟨sbTwo S6 (lt_of_get c5) (lt_of_get d1') (by simp) (by simp),?_⟩)⟩))⟩⟩
  refine qStA (c := medC p (W.st k)) c6 rfl rfl rfl fun H7 S7 c7 l7 => ?_
  have d17 := S7.get (S6.get d1' (by simp)) (by have := lt_of_get d1'; simp; omega)
  have d27 := S7.get (S6.get d2' (by simp)) (by have := lt_of_get d2'; simp; omega)
  have d37 := S7.get (S6.get d3' (by simp)) (by have := lt_of_get d3'; simp; omega)
  have S7' := (S'.trans S6).thru S7 (by have := S'.1; simp; omega)
  refine offI (ldI (v := .int .u8 x.1.toNat) d27 rfl rfl ?_)
  have e119 : (Value.int .u8 119) = .int .u8 (119 : UInt8).toNat := rfl
  rw [e119]
  refine eqlU (good67 hJ c7 fp fo (nAt_bd hh) fun H8 S8 c8 => ext0 (ext1 ?_))
  have n6 : p6 = H5.length := e6
  have l5' := S5.1
  have l4' := S4.1
  have l15 := lt_of_get d1'
  have l25 := lt_of_get d2'
  have l35 := lt_of_get d3'
  have d18 := S8.get d17 (by simp; omega)
  have d28 := S8.get d27 (by simp; omega)
  have d38 := S8.get d37 (by simp; omega)
  have S8' := S7'.thru S8 (by have := S'.1; simp; omega)
  have nxt : ∀ {F2 : RG} {H9 : List AObj},SameX [p1] H8 H9 → H9[p1]? = some (.cells (W.lay k (dayR p (W.st k) (nAt at_ heads k) (wetB x.1))).cells true 0) → F2.ds = [] → F2.r 2 = vint (at_ : Nat) → F2.r 3 = vint heads → F2.r 5 = ptr p1 0 → F2.r 9 = ptr p2 0 → F2.r 10 = ptr p3 0 → F2.r 12 = .bool ((gzK ls at_ heads (wetB x.1) w k).2 && !hungR (W.st k) (nAt at_ heads k)) → F2.r 19 = lv → F2.r 20 = vint (ls.length : Nat) → F2.r 21 = vint ((k : Int) + 1) → 
    Nx H.length (fun k : Nat => ls.length - k) (fun k F H' => k ≤ ls.length ∧ SameX [] H H' ∧ H'[p1]? = some (.cells (gzK ls at_ heads (wetB x.1) w k).1.cells true 0) ∧ H'[p2]? = some (.cells (spC x) true 0) ∧ H'[p3]? = some (.cells [vint 0,vint 0,vint 0,vint 0,vint 0,vint 0,.int .u8 0,vint 0] true 0) ∧ F.ds = [] ∧ F.r 2 = vint (at_ : Nat) ∧ F.r 3 = vint heads ∧ F.r 5 = ptr p1 0 ∧ F.r 9 = ptr p2 0 ∧ F.r 10 = ptr p3 0 ∧ F.r 12 = .bool (gzK ls at_ heads (wetB x.1) w k).2 ∧ F.r 19 = lv ∧ F.r 20 = vint (ls.length : Nat) ∧ F.r 21 = vint (k : Nat)) k F2 H9 := by
   intro F2 H9 S9 c9 ds r2 r3 r5 r9 r10 r12 r19 r20 r21
   refine ⟨k + 1,by dsimp only; omega,.inl ⟨by omega,S8'.thru S9 (by simp; omega),?_,S9.get d28 (by simp; omega),S9.get d38 (by simp; omega),ds,r2,r3,r5,r9,r10,?_,r19,r20,by rw [r21]; congr 1⟩⟩
   ·rw [c9,gzK,hW,hp]
   ·rw [r12,gzK,hW]
  have c8' : H8[p6]? = some (.cells (medC p (dayR p (W.st k) (nAt at_ heads k) (wetB x.1))) true 0) := c8
  have ld : ∀ {KV : Value → Prop},KV (.agg ⟨[vint (dayR p (W.st k) (nAt at_ heads k) (wetB x.1)).1,vint (dayR p (W.st k) (nAt at_ heads k) (wetB x.1)).2]⟩) → aLoad true 2 (ptr p6 (0 + 6)) H8 KV := fun hk => load_part (c := [vint (dayR p (W.st k) (nAt at_ heads k) (wetB x.1)).1,vint (dayR p (W.st k) (nAt at_ heads k) (wetB x.1)).2]) c8' (by simp [medC,Pas.cells]) rfl rfl hk
  refine cndB (fun hy => ?_) fun hn => ?_
  ·refine offI (ld (offI (idxAz (by omega) (store2 (x := dayR p (W.st k) (nAt at_ heads k) (wetB x.1)) d18 (by omega) fun H9 S9 c9 l9 => addI (by omega) (nxt S9 c9 ds r2 r3 r5 r9 r10 ?_ r19 r20 rfl)))))
   rw [hy,Bool.not_true,Bool.and_false]
   rfl
  ·refine offI (ld (offI (idxAz (by omega) (store2 (x := dayR p (W.st k) (nAt at_ heads k) (wetB x.1)) d18 (by omega) fun H9 S9 c9 l9 => addI (by omega) (nxt S9 c9 ds r2 r3 r5 r9 r10 ?_ r19 r20 rfl)))))
   rw [hn,Bool.not_false,Bool.and_true]
   exact r12
 refine cndI (fun he => hold.2 ?_) fun he => hold.2 ?_
 ·refine post ds r2 r3 r5 r9 r10 r12 r19 r20 r21 rfl rfl ?_
  show vint heads = _
  rw [nAt,if_pos (by omega)]
 ·refine post ds r2 r3 r5 r9 r10 r12 r19 r20 r21 rfl rfl ?_
  show vint 0 = _
  rw [nAt,if_neg (by omega)]
end
def mB (x y : Option Bool) : Option Bool := match x with
 | some true => y
 | some false => some false
 | none => none
theorem mB_some (a b : Bool) : mB (some a) (some b) = some (a && b) := by cases a <;> rfl
def mF (a b c d : Int) : Option Bool := mB (some (a == b)) (mB (some (c == d)) (some true))
theorem teqW (w w' : Wd) : teq prog 10000 93 w.val w'.val = mB (mB (mF w.a.1 w'.a.1 w.a.2 w'.a.2) (mB (mF w.b.1 w'.b.1 w.b.2 w'.b.2) (mB (mF w.c.1 w'.c.1 w.c.2 w'.c.2) (some true)))) (mB (mF (w.sp.1.toNat : Int) (w'.sp.1.toNat : Int) w.sp.2 w'.sp.2) (some true)) := by kernel_rfl
theorem val_inj {w w' : Wd} (h : w.val = w'.val) : w = w' := by
 obtain ⟨⟨a1,a2⟩,⟨b1,b2⟩,⟨c1,c2⟩,⟨s1,s2⟩⟩ := w
 obtain ⟨⟨a1',a2'⟩,⟨b1',b2'⟩,⟨c1',c2'⟩,⟨s1',s2'⟩⟩ := w'
 simp only [Wd.val,Wd.cells,vint,Value.agg.injEq,Array.mk.injEq,List.cons.injEq,Value.int.injEq,true_and,and_true] at h
 obtain ⟨rfl,rfl,rfl,rfl,rfl,rfl,e,rfl⟩ := h
 have : s1 = s1' := UInt8.toNat_inj.1 (by omega)
 rw [this]
theorem teq_val {w w' : Wd} [i : Decidable (w.val = w'.val)] : teq prog 10000 93 (Wd.val w) (Wd.val w') = some (decide (w.val = w'.val)) := by
 rw [teqW]
 simp only [mF,mB_some,Option.some.injEq]
 rw [Bool.eq_iff_iff]
 simp only [Bool.and_eq_true,beq_iff_eq,decide_eq_true_eq,and_true]
 constructor
 ·rintro ⟨⟨⟨h1,h2⟩,⟨h3,h4⟩,h5,h6⟩,h7,h8⟩
  simp only [Wd.val,Wd.cells,h1,h2,h3,h4,h5,h6,h7,h8]
 ·intro h
  rw [val_inj h]
  simp
theorem kOk_val (w : Wd) : kOk prog 10000 93 w.val = true := by kernel_rfl
theorem same_val (w : Wd) : Instr.sameBits 10000 w.val w.val = true := by
 simp [Instr.sameBits,Wd.val,Wd.cells,vint]
def entW (w : Wd) : Value × Value := (w.val,.bool true)
theorem updL_val {w : Wd} : ∀ N : List Wd,updL w.val (.bool true) (N.map entW) = (if w ∈ N then N else N ++ [w]).map entW
 | [] => by simp [updL,entW]
 | x :: N => by
  simp only [List.map_cons,entW,updL]
  by_cases e : w = x
  ·subst e
   simp [entW]
  ·rw [if_neg fun h => e (val_inj h)]
   have := updL_val (w := w) N
   unfold entW at this ⊢
   rw [this]
   by_cases hm : w ∈ N
   ·simp [hm,e]
   ·simp [hm,e]
section
variable {main : Bool} {J : JT} {h H : List AObj} {K : Value → List AObj → Prop} {KV : Value → Prop} {HL : List AObj → Prop} {n0 : Nat}
theorem updW {b : Nat} {N : List Wd} {w : Wd} (hb : H[b]? = some (.map (N.map entW) true)) (nd : N.Nodup) (hk : ∀ (H' : List AObj) (N' : List Wd),SameX [b] H H' → H'[b]? = some (.map (N'.map entW) true) → N'.Nodup → (∀ y,y ∈ N' ↔ y ∈ N ∨ y = w) → H'.length = H.length → HL H') : aUpdX prog 84 (.map (some b)) w.val (.bool true) H HL := by
 have hlt := lt_of_get hb
 unfold aUpdX
 rw [show prog.underlying 84 = some (.map 93 4) by kernel_rfl]
 simp only [hb]
 refine ⟨kOk_val w,by simp [Wd.val,Wd.cells,vint,VOk,AOk,LOk],same_val w,fun e he => ?_,?_⟩
 ·obtain ⟨x,_,rfl⟩ := List.mem_map.1 he
  exact @teq_val _ _ (Classical.propDecidable _)
 ·rw [updL_val]
  refine hk _ (if w ∈ N then N else N ++ [w]) ⟨by simp,fun i hi hn => by rw [List.getElem?_set_ne (fun e => hn (by simp [e]))]⟩ (by simp [hlt]) ?_ (fun y => ?_) (by simp)
  ·split
   ·exact nd
   ·rename_i hn
    rw [List.nodup_append]
    exact ⟨nd,by simp,fun a ha b hb => by
     rw [List.mem_singleton.1 hb]
     exact fun e => hn (e ▸ ha)⟩
  ·split
   ·rename_i hm
    exact ⟨.inl,fun h => h.elim id fun e => e ▸ hm⟩
   ·simp
def MapW (h : List AObj) (v : Value) (L : List Wd) : Prop := ∃ b wr,v = .map (some b) ∧ h[b]? = some (.map (L.map entW) wr) ∧ L.Nodup
theorem nextW {b m : Nat} {M : List Wd} {wr : Bool} {sn : List Nat} (hb : H[b]? = some (.iter m M.length sn)) (hm : H[m]? = some (.map (M.map entW) wr)) (hne : b ≠ m)
  (h1 : ∀ (i : Nat) (w : Wd) (H' : List AObj),M[i]? = some w → i ∉ sn → SameX [b] H H' → H'[b]? = some (.iter m M.length (sn ++ [i])) → H'[m]? = some (.map (M.map entW) wr) → H'.length = H.length → K (.tuple ⟨[.bool true,w.val,.bool true]⟩) H') (h2 : (∀ i,i < M.length → i ∈ sn) → K (.tuple ⟨[.bool false]⟩) H) : aNext (ptr b 0) H K := by
 have hlt := lt_of_get hb
 unfold aNext
 simp only [ptr,hb,hm]
 refine ⟨by simp,fun i a u hi hn => ?_,h2⟩
 rw [List.getElem?_map] at hi
 obtain ⟨w,hw,e⟩ := Option.map_eq_some_iff.1 hi
 cases e
 exact h1 i w _ hw hn ⟨by simp,fun j hj hx => by rw [List.getElem?_set_ne (fun e => hx (by simp [e]))]⟩ (by simp [hlt]) (by rw [List.getElem?_set_ne hne]; exact hm) (by simp)
theorem entryW {b m i : Nat} {M : List Wd} {wr : Bool} {sn : List Nat} {w : Wd} (hb : H[b]? = some (.iter m M.length (sn ++ [i]))) (hm : H[m]? = some (.map (M.map entW) wr)) (hw : M[i]? = some w) (hk : KV (.tuple ⟨[w.val,.bool true]⟩)) : aEntry (ptr b 0) H KV := by
 unfold aEntry
 have e : (M.map entW)[i]? = some (w.val,.bool true) := by
  rw [List.getElem?_map,hw]
  rfl
 simp only [ptr,hb,hm,List.getLast?_append,List.getLast?_singleton,Option.some_or,e]
 exact ⟨by simp,hk⟩
theorem rangeW {m : Nat} {M : List Wd} {wr : Bool} (hm : H[m]? = some (.map (M.map entW) wr)) (hk : ∀ H' p,p = H.length → SameX [] H H' → H'[p]? = some (.iter m M.length []) → H'.length = p + 1 → K (ptr p 0) H') : aRange prog 84 (.map (some m)) H K := by
 unfold aRange
 rw [show prog.underlying 84 = some (.map 93 4) by kernel_rfl]
 simp only [hm,List.length_map]
 exact hk _ H.length rfl SameX.refl.app (by simp) (by simp)
end
theorem nodup_le : ∀ (n : Nat) (l : List Nat),l.Nodup → (∀ i ∈ l,i < n) → l.length ≤ n
 | 0,l,_,h => by
  cases l with
  | nil => simp
  | cons x l => exact absurd (h x (by simp)) (Nat.not_lt_zero _)
 | n + 1,l,nd,h => by
  by_cases hm : n ∈ l
  ·have h1 := List.length_erase_of_mem hm
   have h2 := nodup_le n (l.erase n) (nd.erase n) fun i hi => by
    obtain ⟨hne,hi⟩ := nd.mem_erase_iff.1 hi
    have := h i hi
    omega
   omega
  ·have := nodup_le n l nd fun i hi => by
    have := h i hi
    have : i ≠ n := fun e => hm (e ▸ hi)
    omega
   omega
def afC (ls : List Pas) (s : SkyR) (at_ : Nat) (heads : Int) (w : Wd) (c : UInt8) : List (Wd × Bool) := if nextOk s w.sp c = true then [(gzW ls at_ heads w (nextX w.sp c),gzB ls at_ heads w (nextX w.sp c))] else []
def afJ (ls : List Pas) (s : SkyR) (at_ : Nat) (heads : Int) (w : Wd) (j : Nat) : List (Wd × Bool) := (letters.take j).flatMap (afC ls s at_ heads w)
theorem afJ_all {ls : List Pas} {s : SkyR} {at_ : Nat} {heads : Int} {w : Wd} : afJ ls s at_ heads w 2 = afters ls s at_ heads w := rfl
theorem afJ_step {ls : List Pas} {s : SkyR} {at_ : Nat} {heads : Int} {w : Wd} {j : Nat} {c : UInt8} (hc : letters[j]? = some c) : afJ ls s at_ heads w (j + 1) = afJ ls s at_ heads w j ++ afC ls s at_ heads w c := by
 unfold afJ
 rw [List.take_add_one,hc]
 simp
structure Dawned (ls : List Pas) (s : SkyR) (at_ : Nat) (heads : Int) (M : List Wd) (sn : List Nat) (E : List (Wd × Bool)) (N : List Wd) : Prop where
 mem : ∀ y,y ∈ N ↔ (∃ i w0,i ∈ sn ∧ M[i]? = some w0 ∧ ∃ z ∈ afters ls s at_ heads w0,z.1 = y) ∨ ∃ z ∈ E,z.1 = y
 fed : ∀ i ∈ sn,∀ w0,M[i]? = some w0 → ∀ z ∈ afters ls s at_ heads w0,z.2 = true
 fedE : ∀ z ∈ E,z.2 = true
theorem Dawned.more {ls : List Pas} {s : SkyR} {at_ : Nat} {heads : Int} {M : List Wd} {sn : List Nat} {w : Wd} {i : Nat} {N : List Wd} (D : Dawned ls s at_ heads M sn (afters ls s at_ heads w) N) (hi : M[i]? = some w) : Dawned ls s at_ heads M (sn ++ [i]) [] N := by
 refine ⟨fun y => ?_,fun j hj w0 hw => ?_,fun z hz => by cases hz⟩
 ·rw [D.mem y]
  constructor
  ·rintro (⟨j,w0,h1,h2,h3⟩ | h)
   ·exact .inl ⟨j,w0,by simp [h1],h2,h3⟩
   ·exact .inl ⟨i,w,by simp,hi,h⟩
  ·rintro (⟨j,w0,h1,h2,h3⟩ | ⟨z,hz,_⟩)
   ·rcases List.mem_append.1 h1 with h1 | h1
    ·exact .inl ⟨j,w0,h1,h2,h3⟩
    ·rw [List.mem_singleton.1 h1,hi] at h2
     cases h2
     exact .inr h3
   ·cases hz
 ·rcases List.mem_append.1 hj with h1 | h1
  ·exact D.fed j h1 w0 hw
  ·rw [List.mem_singleton.1 h1,hi] at hw
   cases hw
   exact D.fedE
theorem Dawned.done {ls : List Pas} {s : SkyR} {at_ : Nat} {heads : Int} {M : List Wd} {sn : List Nat} {N : List Wd} (D : Dawned ls s at_ heads M sn [] N) (hs : ∀ i,i < M.length → i ∈ sn) : dawnB ls s at_ heads M = true ∧ SameW N (dawnL ls s at_ heads M) := by
 constructor
 ·unfold dawnB
  rw [List.all_eq_true]
  intro w hw
  rw [List.all_eq_true]
  intro z hz
  obtain ⟨i,hi⟩ := List.getElem?_of_mem hw
  exact D.fed i (hs i (List.getElem?_eq_some_iff.1 hi).1) w hi z hz
 ·intro y
  rw [D.mem y]
  unfold dawnL
  rw [List.mem_flatMap]
  constructor
  ·rintro (⟨j,w0,h1,h2,z,hz,rfl⟩ | ⟨z,hz,_⟩)
   ·exact ⟨w0,List.mem_of_getElem? h2,List.mem_map.2 ⟨z,hz,rfl⟩⟩
   ·cases hz
  ·rintro ⟨w0,hw,hy⟩
   obtain ⟨z,hz,e⟩ := List.mem_map.1 hy
   obtain ⟨i,hi⟩ := List.getElem?_of_mem hw
   exact .inl ⟨i,w0,hs i (List.getElem?_eq_some_iff.1 hi).1,hi,z,hz,e⟩
section
variable {main : Bool} {J : JT} {h H : List AObj} {K : Value → List AObj → Prop} {KV : Value → Prop} {HL : List AObj → Prop} {n0 : Nat}
theorem extO {b : Bool} (hk : KV (.bool b)) : aExt (.tuple ⟨[.bool b]⟩) 0 KV := ⟨rfl,hk⟩
def lettersV : Value := .agg ⟨[.int .u8 100,.int .u8 119]⟩
theorem letterI {j : Nat} {c : UInt8} (hc : letters[j]? = some c) (hk : KV (.int .u8 c.toNat)) : aIdxV 2 1 false lettersV (vint (j : Nat)) KV := by
 match j,hc with
 | 0,hc =>
  cases hc
  exact ⟨by decide,hk⟩
 | 1,hc =>
  cases hc
  exact ⟨by decide,hk⟩
theorem good33 (hJ : Closed prog main J) {ls : List Pas} {lv mv : Value} {s : SkyR} {M : List Wd} {at_ : Nat} {heads : Int} (L : LsOk ls) (_f : skyOk s) (hl : SliE H lv 6 Pas.cells ls) (hh : 0 ≤ heads ∧ heads ≤ 40) (hm : MapW H mv M) (o : ∀ w ∈ M,WdOk ls w)
  (hK1 : dawnB ls s at_ heads M = true → ∀ H' mv' M',SameX [] H H' → MapW H' mv' M' → SameW M' (dawnL ls s at_ heads M) → K (.tuple ⟨[mv',.bool true]⟩) H')
  (hK0 : dawnB ls s at_ heads M = false → ∀ H',SameX [] H H' → K (.tuple ⟨[.map none,.bool false]⟩) H') : Good prog J 33 [mv,lv,.agg ⟨s.cells⟩,vint (at_ : Nat),vint heads] H K := by
 obtain ⟨m,wr,rfl,hm,ndM⟩ := hm
 have hml := lt_of_get hm
 refine g33 hJ fun ok => ?_
 rw [e33]
 refine qBox (l := s.cells) rfl fun H1 ps e1 S1 c1 l1 => qNewM fun H2 po e2 S2 c2 l2 => rangeW (M := M) (wr := wr) (S2.get (S1.get hm (by simp)) (by simp)) fun H3 pi e3 S3 c3 l3 => ?_
 have c13 := S3.get (S2.get c1 (by simp)) (by simp)
 have c23 := S3.get c2 (by simp)
 have b1 := S1.1
 have b2 := S2.1
 have b3 := S3.1
 refine l33_1 hJ (fun sn : List Nat => M.length - sn.length) (fun sn F H' => sn.Nodup ∧ (∀ i ∈ sn,i < M.length) ∧ SameX [] H H' ∧ H'[ps]? = some (.cells s.cells true 0) ∧ H'[pi]? = some (.iter m M.length sn) ∧ (∃ N,H'[po]? = some (.map (N.map entW) true) ∧ N.Nodup ∧ Dawned ls s at_ heads M sn [] N) ∧ F.ds = [] ∧ F.r 1 = lv ∧ F.r 3 = vint (at_ : Nat) ∧ F.r 4 = vint heads ∧ F.r 7 = ptr ps 0 ∧ F.r 12 = .map (some po) ∧ F.r 22 = ptr pi 0) ?_ (s := [])
  (.inl ⟨List.nodup_nil,by simp,(S1.trans S2).trans S3,c13,c3,⟨[],c23,List.nodup_nil,⟨fun y => by simp,by simp,by simp⟩⟩,rfl,rfl,rfl,rfl,rfl,rfl,rfl⟩)
 rintro sn F H' ⟨nd,hb,S,d1,d3,⟨N,d2,ndN,D⟩,ds,r1,r3,r4,r7,r12,r22⟩ okc hnc
 rw [s33_1,r22,r12,ds]
 have dm := S.get hm (by simp)
 refine nextW d3 dm (by omega) (fun i w H4 hw hi S4 c4 m4 l4 => ext30 (cnd_true.2 ?_)) fun hall => extO (cnd_false.2 ?_)
 rotate_left
 ·obtain ⟨hB,hS⟩ := D.done hall
  exact retL_same (by simp [unk]) (hK1 hB H' _ N S ⟨po,true,rfl,d2,ndN⟩ hS)
 have ow := o w (List.mem_of_getElem? hw)
 refine entryW c4 m4 hw (ext0 (qAl fun H5 pw e5 S5 c5 l5 => qStA (c := w.cells) c5 rfl rfl rfl fun H6 S6 c6 l6 => fillO (l := [.int .u8 100]) rfl rfl rfl (by decide) (fillO (l := [.int .u8 119]) rfl rfl rfl (by decide) (fillI ?_))))
 have g1 := lt_of_get d1
 have g2 := lt_of_get d2
 have g3 := lt_of_get d3
 have g4 := S4.1
 have g5 := S5.1
 have t1 := S6.get (S5.get (S4.get d1 (by simp; omega)) (by simp)) (by simp; omega)
 have t2 := S6.get (S5.get (S4.get d2 (by simp; omega)) (by simp)) (by simp; omega)
 have t3 := S6.get (S5.get c4 (by simp)) (by simp; omega)
 have T := ((S.thru S4 (by simp; omega)).trans S5).thru S6 (by have := S.1; simp; omega)
 -- the letters
 refine l33_2 hJ (fun j : Nat => 2 - j) (fun j F H' => j ≤ 2 ∧ SameX [] H H' ∧ H'[ps]? = some (.cells s.cells true 0) ∧ H'[pi]? = some (.iter m M.length (sn ++ [i])) ∧ H'[pw]? = some (.cells w.cells true 0) ∧ (∃ N,H'[po]? = some (.map (N.map entW) true) ∧ N.Nodup ∧ Dawned ls s at_ heads M sn (afJ ls s at_ heads w j) N) ∧ F.ds = [] ∧ F.r 1 = lv ∧ F.r 3 = vint (at_ : Nat) ∧ F.r 4 = vint heads ∧ F.r 7 = ptr ps 0 ∧ F.r 12 = .map (some po) ∧ F.r 22 = ptr pi 0 ∧ F.r 13 = ptr pw 0 ∧ F.r 27 = lettersV ∧ F.r 28 = vint (j : Nat)) ?_ (s := 0)
  (.inl ⟨by omega,T,t1,t3,c6,⟨N,t2,ndN,D⟩,ds,r1,r3,r4,r7,r12,r22,rfl,rfl,rfl⟩)
 clear t1 t2 t3 T D ndN d2 N d1 d3
 rintro j F2 H7 ⟨hj,T,t1,t3,t4,⟨N,t2,ndN,D⟩,ds,r1,r3,r4,r7,r12,r22,r13,r27,r28⟩ okc2 hnc2
 rw [s33_2,r1,r3,r4,r7,r12,r13,r27,r28,ds]
 refine lssI (cndI (fun hlt => ?_) fun hge => ?_)
 rotate_left
 ·have : j = 2 := by omega
  subst this
  rw [afJ_all] at D
  have nd' : (sn ++ [i]).Nodup := by
   rw [List.nodup_append]
   exact ⟨nd,by simp,fun a ha b hb e => hi (by rw [List.mem_singleton.1 hb] at e; exact e ▸ ha)⟩
  have hb' : ∀ x ∈ sn ++ [i],x < M.length := fun x hx => by
   rcases List.mem_append.1 hx with hx | hx
   ·exact hb x hx
   ·rw [List.mem_singleton.1 hx]
    exact (List.getElem?_eq_some_iff.1 hw).1
  have hle := nodup_le M.length _ nd' hb'
  rw [List.length_append] at hle
  exact ⟨sn ++ [i],by dsimp only; rw [List.length_append]; simp at hle ⊢; omega,.inl ⟨nd',hb',T,t1,t3,⟨N,t2,ndN,D.more hw⟩,ds,r1,r3,r4,r7,r12,r22⟩⟩
 obtain ⟨c,hc⟩ : ∃ c,letters[j]? = some c := ⟨_,List.getElem?_eq_getElem (show j < letters.length by show j < 2; omega)⟩
 have hstep := afJ_step (ls := ls) (s := s) (at_ := at_) (heads := heads) (w := w) hc
 refine letterI hc (offI (load_part (c := spC w.sp) t4 (by simp [Wd.cells]) rfl rfl (load_part (c := s.cells) t1 (by simp [SkyR.cells]) rfl rfl ?_)))
 have q1 := lt_of_get t1
 have q2 := lt_of_get t2
 have q3 := lt_of_get t3
 have q4 := lt_of_get t4
 refine good57 hJ (by have := ow.sp; omega) fun H8 S8 => ext0 (ext1 (qAl fun H9 px e9 S9 c9 l9 => qStA (c := spC (nextX w.sp c)) c9 rfl rfl rfl fun H10 S10 c10 l10 => notI ?_))
 have v8 := S8.1
 have u1 := S10.get (S9.get (S8.get t1 (by simp)) (by simp)) (by simp; omega)
 have u2 := S10.get (S9.get (S8.get t2 (by simp)) (by simp)) (by simp; omega)
 have u3 := S10.get (S9.get (S8.get t3 (by simp)) (by simp)) (by simp; omega)
 have u4 := S10.get (S9.get (S8.get t4 (by simp)) (by simp)) (by simp; omega)
 have U := ((T.trans S8).trans S9).thru S10 (by have := T.1; simp; omega)
 have k1 := lt_of_get u1
 have k2 := lt_of_get u2
 have k3 := lt_of_get u3
 have k4 := lt_of_get u4
 cases hnx : nextOk s w.sp c with
 | false =>
  have e0 : afJ ls s at_ heads w (j + 1) = afJ ls s at_ heads w j := by
   rw [hstep,afC,hnx]
   simp
  refine cnd_true.2 (addI (by omega) ⟨j + 1,by dsimp only; omega,.inl ⟨by omega,U,u1,u3,u4,⟨N,u2,ndN,by rw [e0]; exact D⟩,ds,r1,r3,r4,r7,r12,r22,r13,r27,rfl⟩⟩)
 | true =>
  have e0 : afJ ls s at_ heads w (j + 1) = afJ ls s at_ heads w j ++ [(gzW ls at_ heads w (nextX w.sp c),gzB ls at_ heads w (nextX w.sp c))] := by
   rw [hstep,afC,hnx]
   simp
  refine cnd_false.2 (load_part (c := w.cells) u4 (by simp [Wd.cells]) rfl rfl (load_part (c := spC (nextX w.sp c)) c10 (by simp [spC]) rfl rfl ?_))
  refine good58 hJ L (U.sli hl (by simp)) ow hh fun H11 S11 => ext0 (ext1 (qAl fun H12 py e12 S12 c12 l12 => qStA (c := (gzW ls at_ heads w (nextX w.sp c)).cells) c12 rfl rfl rfl fun H13 S13 c13 l13 => notI ?_))
  have v11 := S11.1
  have w1 := S13.get (S12.get (S11.get u1 (by simp)) (by simp)) (by simp; omega)
  have w2 := S13.get (S12.get (S11.get u2 (by simp)) (by simp)) (by simp; omega)
  have w3 := S13.get (S12.get (S11.get u3 (by simp)) (by simp)) (by simp; omega)
  have w4 := S13.get (S12.get (S11.get u4 (by simp)) (by simp)) (by simp; omega)
  have Wt := ((U.trans S11).trans S12).thru S13 (by have := U.1; simp; omega)
  cases hfd : gzB ls at_ heads w (nextX w.sp c) with
  | false =>
   refine cnd_true.2 (retL_same (by simp [unk]) (hK0 ?_ H13 Wt))
   rw [← Bool.not_eq_true]
   intro hB
   unfold dawnB at hB
   rw [List.all_eq_true] at hB
   have h1 := hB w (List.mem_of_getElem? hw)
   rw [List.all_eq_true] at h1
   have h2 := h1 (gzW ls at_ heads w (nextX w.sp c),gzB ls at_ heads w (nextX w.sp c)) (List.mem_flatMap.2 ⟨c,List.mem_of_getElem? hc,by rw [hnx]; simp⟩)
   rw [hfd] at h2
   cases h2
  | true =>
   refine cnd_false.2 (load_part (c := (gzW ls at_ heads w (nextX w.sp c)).cells) c13 (by simp [Wd.cells]) rfl rfl ⟨⟨by simp [VOk],rfl⟩,updW w2 ndN fun H14 N' S14 c14 nd14 m14 l14 => ?_⟩)
   refine addI (by omega) ⟨j + 1,by dsimp only; omega,.inl ⟨by omega,Wt.thru S14 (by simp; omega),S14.get w1 (by simp; omega),S14.get w3 (by simp; omega),S14.get w4 (by simp; omega),⟨N',c14,nd14,⟨fun y => ?_,D.fed,fun z hz => ?_⟩⟩,ds,r1,r3,r4,r7,r12,r22,r13,r27,rfl⟩⟩
   ·rw [m14,D.mem y,e0]
    simp only [List.mem_append,List.mem_singleton]
    constructor
    ·rintro ((h | ⟨z,hz,e⟩) | rfl)
     ·exact .inl h
     ·exact .inr ⟨z,.inl hz,e⟩
     ·exact .inr ⟨_,.inr rfl,rfl⟩
    ·rintro (h | ⟨z,hz | rfl,e⟩)
     ·exact .inl (.inl h)
     ·exact .inl (.inr ⟨z,hz,e⟩)
     ·exact .inr e.symm
   ·rw [e0] at hz
    rcases List.mem_append.1 hz with hz | hz
    ·exact D.fedE z hz
    ·rw [List.mem_singleton.1 hz]
     exact hfd
end
theorem turnA_len {ls : List Pas} {s : SkyR} {heads : Int} {L : List Wd} {rest : List Wd → Option (List Int)} {n : Nat} (hr : ∀ M l,rest M = some l → l.length = n) : ∀ k l,turnA ls s heads L rest k = some l → l.length = n + 1
 | 0,l,h => by cases h
 | k + 1,l,h => by
  simp only [turnA] at h
  split at h
  ·split at h
   ·rename_i r hr'
    cases h
    rw [List.length_cons,hr _ _ hr']
   ·exact turnA_len hr k l h
  ·exact turnA_len hr k l h
theorem turnR_len {ls : List Pas} {s : SkyR} {heads : Int} : ∀ (d : Nat) (L : List Wd) (l : List Int),turnR ls s heads d L = some l → l.length = d + 1
 | 0,L,l,h => turnA_len (n := 0) (fun _ _ h => by cases h; rfl) _ _ h
 | d + 1,L,l,h => turnA_len (n := d + 1) (fun M l h => turnR_len d M l h) _ _ h
def restR (ls : List Pas) (s : SkyR) (heads : Int) : Nat → List Wd → Option (List Int)
 | 0 => fun _ => some []
 | d + 1 => turnR ls s heads d
theorem turnR_is {ls : List Pas} {s : SkyR} {heads : Int} (d : Nat) (L : List Wd) : turnR ls s heads d L = turnA ls s heads L (restR ls s heads d) ls.length := by cases d <;> rfl
section
variable {main : Bool} {J : JT} {h H : List AObj} {K : Value → List AObj → Prop} {KV : Value → Prop} {HL : List AObj → Prop} {n0 : Nat}
theorem sli_kn {v : Value} {s n : Nat} {cs : List Value} (h1 : Sli H v s n cs) : kn cs = true := by
 obtain ⟨_,_,_,⟨_,h⟩,_⟩ := h1
 exact h
theorem sli_ln {v : Value} {s n : Nat} {cs : List Value} (h1 : Sli H v s n cs) : cs.length = n * s := by
 obtain ⟨_,_,_,⟨h,_⟩,_⟩ := h1
 exact h
theorem appF {m p : Nat} {x y : Value} {ys : List Value} (hp : H[p]? = some (.cells [x] true 0)) (hx : kn1 x = true) (hm : 1 ≤ m ∧ m < 1000000) (hy : Sli H y 1 m ys)
  (hk : OwnX (H ++ [.cells (x :: ys) true 1]) 1 (x :: ys) (1 + m) (.slice (some ⟨H.length,0,none⟩) (1 + m) fz) (some H.length) → K (.slice (some ⟨H.length,0,none⟩) (1 + m) fz) (H ++ [.cells (x :: ys) true 1])) : aApp 1 (.slice (some ⟨p,0,none⟩) 1 1) y H K := by
 have hr : room = 1073741824 := rfl
 have hf : fz = 1180591620717411303424 := rfl
 have hkn := sli_kn hy
 have hln := sli_ln hy
 have hy' := hy
 obtain ⟨yb,yc,rfl,_⟩ := hy
 unfold aApp
 simp only [hp]
 refine ⟨by omega,src_sli hy' (by decide) ⟨⟨by simp,by simp [kn,hx]⟩,fun _ => ⟨fun h => absurd h (by omega),fun _ => ?_⟩,fun h => absurd h (by omega)⟩⟩
 refine hk ⟨by simp [hln]; omega,?_,.inr ⟨H.length,fz,1,rfl,rfl,by simp,.inl ⟨rfl,rfl⟩⟩⟩
 unfold kn at hkn ⊢
 simp [hx,hkn]
def TurnV (H : List AObj) (v : Value) : Option (List Int) → Prop
 | none => v = .slice none 0 0
 | some l => ∃ o,OwnX H 1 (l.map vint) l.length v (some o)
theorem turn_step (hJ : Closed prog main J) {ls : List Pas} {lv : Value} {s : SkyR} {heads : Int} (L : LsOk ls) (f : skyOk s) (hh : 0 ≤ heads ∧ heads ≤ 40) (d : Nat)
  (hrec : ∀ d',d = d' + 1 → ∀ {H : List AObj} {mv : Value} {M : List Wd} {K : Value → List AObj → Prop},SliE H lv 6 Pas.cells ls → MapW H mv M → (∀ w ∈ M,WdOk ls w) → (∀ H' v,SameX [] H H' → TurnV H' v (turnR ls s heads d' M) → K v H') → Good prog J 35 [mv,lv,.agg ⟨s.cells⟩,vint heads,vint ((d' : Int) + 1)] H K)
  {H : List AObj} {mv : Value} {M : List Wd} {K : Value → List AObj → Prop} (hd : d ≤ 100) (hl : SliE H lv 6 Pas.cells ls) (hm : MapW H mv M) (o : ∀ w ∈ M,WdOk ls w)
  (hK : ∀ H' v,SameX [] H H' → TurnV H' v (turnR ls s heads d M) → K v H') : Good prog J 35 [mv,lv,.agg ⟨s.cells⟩,vint heads,vint ((d : Int) + 1)] H K := by
 refine g35 hJ fun ok => ?_
 rw [e35]
 have few := L.few
 refine qBox (l := s.cells) rfl fun H1 ps e1 S1 c1 l1 => ?_
 rw [sliE_len hl]
 rw [turnR_is] at hK
 refine l35_1 hJ (fun k : Nat => ls.length - k) (fun k F H' => k ≤ ls.length ∧ SameX [] H H' ∧ H'[ps]? = some (.cells s.cells true 0) ∧ turnA ls s heads M (restR ls s heads d) ls.length = turnA ls s heads M (restR ls s heads d) (ls.length - k) ∧ F.ds = [] ∧ F.r 0 = mv ∧ F.r 1 = lv ∧ F.r 3 = vint heads ∧ F.r 4 = vint ((d : Int) + 1) ∧ F.r 7 = ptr ps 0 ∧ F.r 16 = vint (ls.length : Nat) ∧ F.r 17 = vint (k : Nat)) ?_ (s := 0)
  (.inl ⟨by omega,S1,c1,rfl,rfl,rfl,rfl,rfl,rfl,rfl,rfl,rfl⟩)
 rintro k F H' ⟨hk,S,d1,ht,ds,r0,r1,r3,r4,r7,r16,r17⟩ okc hnc
 rw [s35_1,r0,r1,r3,r4,r7,r16,r17,ds]
 refine lssI (cndI (fun hlt => ?_) fun hge => ?_)
 rotate_left
 ·have : k = ls.length := by omega
  subst this
  rw [Nat.sub_self] at ht
  refine retL_same (by simp [unk]) (hK H' _ S ?_)
  rw [ht]
  rfl
 have hkl : k < ls.length := by omega
 have hat : ls.length - k = (ls.length - k - 1) + 1 := by omega
 have hak : ls.length - ((ls.length - k - 1) + 1) = k := by omega
 rw [hat] at ht
 simp only [turnA] at ht
 rw [hak] at ht
 have hk1 : ls.length - k - 1 = ls.length - (k + 1) := by omega
 rw [hk1] at ht
 have q1 := lt_of_get d1
 refine load_part (c := s.cells) d1 (by simp [SkyR.cells]) rfl rfl ?_
 have hm' : MapW H' mv M := by
  obtain ⟨m,wr,e,h1,h2⟩ := hm
  exact ⟨m,wr,e,S.get h1 (by simp),h2⟩
 refine good33 hJ L f (S.sli hl (by simp)) hh hm' o (fun hB H4 mv' M' S4 hmv hsame => ?_) fun hB H4 S4 => ?_
 rotate_left
 ·refine ext0 (ext1 (notI (cnd_true.2 (addI (by omega) ⟨k + 1,by dsimp only; omega,.inl ⟨by omega,S.trans S4,S4.get d1 (by simp),?_,ds,r0,r1,r3,r4,r7,r16,rfl⟩⟩))))
  rw [hB] at ht
  simpa using ht
 have oM : ∀ w ∈ M',WdOk ls w := fun w hw => by
  have := (hsame w).1 hw
  unfold dawnL at this
  rw [List.mem_flatMap] at this
  obtain ⟨w0,h0,h1⟩ := this
  obtain ⟨z,hz,rfl⟩ := List.mem_map.1 h1
  exact afters_ok L f hh (o w0 h0) z hz
 rw [hB,if_pos rfl] at ht
 have ST := S.trans S4
 refine ext0 (ext1 (notI (cnd_false.2 (eqlI (cndI (fun h1 => ?_) fun h1 => ?_)))))
 ·have : d = 0 := by omega
  subst this
  refine ⟨⟨by decide,by decide,rfl⟩,fillO (l := [vint (k : Nat)]) rfl rfl rfl (by decide) (fillI (qNew fun H5 p5 e5 S5 c5 l5 => retL_same (by simp [unk]) (hK H5 _ (ST.trans S5) ?_)))⟩
  rw [ht]
  exact ⟨p5,ownX_new (l := [vint (k : Nat)]) c5 rfl rfl⟩
 ·obtain ⟨d',rfl⟩ : ∃ d',d = d' + 1 := ⟨d - 1,by omega⟩
  refine load_part (c := s.cells) (S4.get d1 (by simp)) (by simp [SkyR.cells]) rfl rfl (subI (by omega) ?_)
  have e : ((d' + 1 : Nat) : Int) + 1 - 1 = (d' : Int) + 1 := by omega
  rw [e]
  refine hrec d' rfl (ST.sli hl (by simp)) hmv oM fun H5 v S5 hv => ?_
  have hr : restR ls s heads (d' + 1) (dawnL ls s k heads M) = turnR ls s heads d' M' := (turnR_same d' _ _ hsame).symm
  rw [hr] at ht
  cases hR : turnR ls s heads d' M' with
  | none =>
   rw [hR] at hv ht
   have hv : v = .slice none 0 0 := hv
   subst hv
   refine neqNilZ (e := 3) (by kernel_rfl) (by kernel_rfl) (cnd_false.2 (addI (by omega) ⟨k + 1,by dsimp only; omega,.inl ⟨by omega,ST.trans S5,S5.get (S4.get d1 (by simp)) (by simp),ht,ds,r0,r1,r3,r4,r7,r16,rfl⟩⟩))
  | some l =>
   rw [hR] at hv ht
   have hlen := turnR_len _ _ _ hR
   obtain ⟨ob,O⟩ := hv
   obtain ⟨_,_,hO | ⟨i,c,sz,hi,rfl,_,_⟩⟩ := id O
   ·cases hO.2.2
   refine neqNilZ (e := 3) (by kernel_rfl) (by kernel_rfl) (cnd_true.2 ⟨⟨by decide,by decide,rfl⟩,fillO (l := [vint (k : Nat)]) rfl rfl rfl (by decide) (fillI (qNew fun H6 p6 e6 S6 c6 l6 => ?_))⟩)
   refine ⟨⟨rfl,by decide,by decide,by decide⟩,appF c6 rfl (by omega) (S6.sli (ownX_sli O) (by simp)) fun O7 => retL_same (by simp [unk]) (hK _ _ (((ST.trans S5).trans S6).trans SameX.refl.app) ?_)⟩
   rw [ht]
   refine ⟨H6.length,?_⟩
   have : l.length + 1 = 1 + l.length := by omega
   show OwnX _ 1 (((k : Int) :: l).map vint) ((k : Int) :: l).length _ _
   rw [List.length_cons,this]
   exact O7
theorem good35 (hJ : Closed prog main J) {ls : List Pas} {lv : Value} {s : SkyR} {heads : Int} (L : LsOk ls) (f : skyOk s) (hh : 0 ≤ heads ∧ heads ≤ 40) : ∀ (d : Nat) {H : List AObj} {mv : Value} {M : List Wd} {K : Value → List AObj → Prop},d ≤ 100 → SliE H lv 6 Pas.cells ls → MapW H mv M → (∀ w ∈ M,WdOk ls w) →
  (∀ H' v,SameX [] H H' → TurnV H' v (turnR ls s heads d M) → K v H') → Good prog J 35 [mv,lv,.agg ⟨s.cells⟩,vint heads,vint ((d : Int) + 1)] H K
 | 0,H,mv,M,K,hd,hl,hm,o,hK => turn_step hJ L f hh 0 (fun d' e => by omega) hd hl hm o hK
 | d + 1,H,mv,M,K,hd,hl,hm,o,hK => turn_step hJ L f hh (d + 1) (fun d' e => by
  cases e
  intro H mv M K hl hm o hK
  exact good35 hJ L f hh d (by omega) hl hm o hK) hd hl hm o hK
end
end Go.Proofs.Yteoenhhmcpipoaa
namespace Go.Proofs.Yteoenhhmcpipoaa
open Go.Conc
section
variable {α β : Type} {P : Program} {w w1 w2 : World}
variable {main : Bool} {J : JT} {g : FuncId} {cargs : List Value} {b : FB} {a : Act} {ops : Array Oper} {i : Nat} {rest : List Nat} {o : Oper} {k : List Item} {cs : List Frame} {w' : World} {fn : Func}
theorem HRel.tell {ρ : Env} {h : List AObj} {FC : Frm} {ft : Foot} (H : HRel ρ h FC w ft) {p x y : Nat} (hp : h[p]? = some (.group x)) (hone : ∀ (q z : Nat),h[q]? = some (.group z) → q = p) : HRel ρ (h.set p (.group y)) FC w { ft with tag := y + 32 * ρ.blk p } := by
 have get : ∀ {i : Nat} {o : AObj},(h.set p (.group y))[i]? = some o → o.live = true → h[i]? = some o := by
  intro i o hi hl
  rcases set_get hi with ⟨rfl,rfl,_⟩ | ⟨_,hi⟩
  ·cases hl
  ·exact hi
 have wl : ∀ {o : AObj},o.wrt = true → o.live = true := fun {o} hw => by cases o <;> first | rfl | cases hw
 refine ⟨fun i o hi => ?_,fun i j o o' hi hj l1 l2 e => H.inj i j o o' (get hi l1) (get hj l2) l1 l2 e,fun i o hi hl => H.rd i o (get hi hl) hl,fun i o hi hw => H.wr i o (get hi (wl hw)) hw,H.lt,H.sub,fun b o hb => ?_,H.keptW,fun i z hi => ?_⟩
 ·rw [List.length_set]
  rcases set_get hi with ⟨rfl,rfl,_⟩ | ⟨_,hi⟩
  ·trivial
  ·exact H.obj i o hi
 ·obtain ⟨a1,a2,a3⟩ := H.kept b o hb
  exact ⟨a1,a2,fun a oa ha hw => a3 a oa (get ha (wl hw)) hw⟩
 ·rcases set_get hi with ⟨rfl,e,_⟩ | ⟨hne,hi⟩
  ·cases e
   rfl
  ·exact absurd (hone i z hi) hne
end
end Go.Proofs.Yteoenhhmcpipoaa
namespace Go.Proofs.Yteoenhhmcpipoaa
open Go.Conc
open Go.ConcR (Bk KK)
def nilS : Value := .slice none 0 0
structure Grp where
 ty : TypeId
 wg : Nat
 C : Nat
 F : Nat
 R : Nat → Option (List Int)
def leftV (R : Option (List Int)) (v : Value) (w : World) (fi : Foot) : Prop :=
 match R with
 | none => v = nilS
 | some l => ∃ b c ds ty fr,fi.rd b ∧ fi.wr b ∧ v = .slice (some ⟨b,0,none⟩) l.length c ∧ w.heap[b]? = some (.cells ds ty fr) ∧ ds.size = c ∧ (∀ (i : Nat) (x : Int),l[i]? = some x → ds[i]? = some (vint x)) ∧ l.length ≤ c
theorem leftV_keep {R : Option (List Int)} {v : Value} {w w' : World} {fi fi' : Foot} (hk : ∀ b,fi.rd b → w'.heap[b]? = w.heap[b]?) (hr : ∀ b,fi.rd b → fi'.rd b) (hw : ∀ b,fi.wr b → fi'.wr b) (h : leftV R v w fi) : leftV R v w' fi' := by
 cases R with
 | none => exact h
 | some l =>
  obtain ⟨b,c,ds,ty,fr,h1,h2,h3,h4,h5⟩ := h
  exact ⟨b,c,ds,ty,fr,hr b h1,hw b h2,h3,(hk b h1).trans h4,h5⟩
def noPl : Nat → Loc → Prop := fun _ _ => False
abbrev Grp.sit (P : Program) (G : Grp) (v : Value) (s m d : Nat) (g : Goroutine) (w : World) : Prop := @ConcN.WSit ⟨0⟩ P G.ty G.wg G.C 0 noPl noPl 0 1 v s m d g w
def Grp.has (G : Grp) (v : Value) (w : World) : Prop := w.cell? ⟨G.C,0,none⟩ = some v
def Grp.at_ (G : Grp) (w : World) (st sm : Int) : Prop := ConcR.WgAt G.ty G.wg w st sm
abbrev Grp.cel (G : Grp) (a : Nat) : Addr := ⟨G.F,a,none⟩
def Grp.fok (G : Grp) (w : World) : Prop := ∃ cs ty fr,w.heap[G.F]? = some (.cells cs ty fr) ∧ cs.size = 3 ∧ ∀ a,a < 3 → w.frozen? (G.cel a) = false
def Grp.phi (G : Grp) (a : Nat) (w : World) (fi : Foot) : Prop := ∃ v,w.cell? (G.cel a) = some v ∧ leftV (G.R a) v w fi
def AtR (P : Program) (G : Grp) (v : Value) (g : Goroutine) (w : World) : Prop := g.status = .running ∧ ∃ g',stepG P false g w = .go g' w #[Go.ConcR.mk (.releaseMerge (ConcR.stA G.wg))] ∧ ∃ m,G.sit P v 6 m 0 g' w
abbrev Grp.rw (G : Grp) : World → World → Prop := @ConcN.RW ⟨0⟩ G.ty G.wg G.C 0 0 0
def Grp.sitx (P : Program) (G : Grp) (v : Value) (s m d : Nat) (g : Goroutine) (w : World) : Prop := (s = 7 ∧ d = 0 ∧ Goes P false G.rw ConcR.DC0 (AtR P G v) m g w) ∨ (s ≤ 6 ∧ G.sit P v s m d g w)
theorem Grp.sitx.rely {P : Program} {G : Grp} {v : Value} {s m d : Nat} {g : Goroutine} {w w₁ : World} (h : G.sitx P v s m d g w) (hr : G.rw w w₁) : G.sitx P v s m d g w₁ :=
 by
 have tr : ∀ a b c,G.rw a b → G.rw b c → G.rw a c := fun a b c h1 h2 => @ConcN.RW.trans ⟨0⟩ _ _ _ _ _ _ _ _ _ h1 h2
 exact h.imp (fun ⟨a,b,c⟩ => ⟨a,b,Goes.rely tr c hr⟩) fun ⟨a,c⟩ => ⟨a,@ConcN.WSit.rely ⟨0⟩ _ _ _ _ _ _ _ _ _ _ _ _ _ _ _ _ c hr⟩
theorem Grp.sitx.status {P : Program} {G : Grp} {v : Value} {s m d : Nat} {g : Goroutine} {w : World} (h : G.sitx P v s m d g w) : g.status = .running ∨ g.status = .finished := by
 letI pl : ConcR.Payload := ⟨0⟩
 rcases h with ⟨_,_,h⟩ | ⟨_,h⟩
 ·exact .inl (Goes.running (fun _ _ x => x.1) w (ConcN.RW.refl w) h)
 ·exact ConcN.WSit.status h
theorem Grp.sitx.woken {P : Program} {G : Grp} {v : Value} {s m d : Nat} {g : Goroutine} {w : World} (h : G.sitx P v s m d g w) (a a' : Goroutine) (w' : World) : woken P a a' w' g = g := by
 unfold Go.Conc.woken
 split
 ·exact again_running _ h.status
 ·rfl
def AtDone (P : Program) (G : Grp) : JT := fun g w fi => g.status = .running ∧ fi.rd G.C ∧ ∃ v,G.has v w ∧ ∀ w₁,(∃ st sm,G.at_ w₁ st sm) → G.has v w₁ → ∃ m,Goes P false G.rw ConcR.DC0 (AtR P G v) m g w₁
def AtLast (P : Program) (G : Grp) (a : Nat) (v : Value) : JT := fun g w fi => AtDone P G g w fi ∧ leftV (G.R a) v w fi
def depE (G : Grp) (a : Nat) : Event := ⟨.cell (G.cel a),true,false⟩
def AtDep (P : Program) (G : Grp) (a : Nat) : JT := fun g w fi => g.status = .running ∧ ((G.R a = none ∧ AtDone P G g w fi) ∨
 ∃ v,∀ w₁,RelyW fi w w₁ → G.fok w₁ → ¬ fi.rd G.F → ∃ g',stepG P false g w₁ = .go g' (w₁.setCell (G.cel a) v) #[depE G a] ∧ Toward P (AtLast P G a v) g' (w₁.setCell (G.cel a) v) fi)
inductive WkS where
 | none
 | way (d : Option Value) (a : Nat) (w : World) (fi : Foot) (stop : Bool)
 | sit (a s m : Nat) (v : Value) (fi : Foot)
 | gone (a q : Nat) (fi : Foot)
def WkS.stage : WkS → Nat
 | .none => 9
 | .way .. => 8
 | .sit _ s _ _ _ => s
 | .gone .. => 1
def WkS.slot : WkS → Option Nat
 | .none => Option.none
 | .way _ a _ _ _ => some a
 | .sit a _ _ _ _ => some a
 | .gone a _ _ => some a
def WkS.foot : WkS → Option Foot
 | .none => Option.none
 | .way _ _ _ fi _ => some fi
 | .sit _ _ _ _ fi => some fi
 | .gone _ _ fi => some fi
def WkS.cnt (x : WkS) : Bool := decide (5 ≤ x.stage ∧ x.stage ≤ 8)
theorem WkS.ne_slot {x : WkS} (h : x ≠ .none) : ∃ a,x.slot = some a := by
 cases x with
 | none => exact absurd rfl h
 | way d a w fi b => exact ⟨a,rfl⟩
 | sit a s m v fi => exact ⟨a,rfl⟩
 | gone a q fi => exact ⟨a,rfl⟩
theorem WkS.slot_ne {x : WkS} {a : Nat} (h : x.slot = some a) : x ≠ .none := fun e => by rw [e] at h; cases h
def cntW (ws : Nat → WkS) (n : Nat) : Nat := (List.range n).countP fun i => (ws i).cnt
def seenX (x : Nat) : Nat := if x = 18 then 1 else if x = 20 then 2 else if x = 22 then 3 else if x = 19 then 0 else if x = 21 then 1 else if x = 23 then 2 else 3
def idleX (x : Nat) : Prop := x = 1 ∨ x = 2 ∨ x = 5 ∨ x = 6 ∨ (18 ≤ x ∧ x ≤ 23)
inductive Phase : Nat → Nat → Option (Nat × Nat) → Int → Int → Prop
 | idle {x c : Nat} : idleX x → c ≤ seenX x → Phase x c none (c * KK) 0
 | added {x c : Nat} : x = 3 ∨ x = 4 → Phase x c none ((c + 1 : Nat) * KK) 0
 | out {x : Nat} : x = 8 ∨ (10 ≤ x ∧ x ≤ 12) → Phase x 0 none 0 0
 | reg {c : Nat} : 1 ≤ c → Phase 9 c none (c * KK + 1) 0
 | low {i s : Nat} : s = 4 ∨ s = 3 → Phase 9 0 (some (i,s)) 1 0
 | last {i : Nat} : Phase 9 0 (some (i,2)) 0 0
 | freed : Phase 9 0 none 0 1
def deafX (x : Nat) : Nat := if x = 2 ∨ x = 3 ∨ (6 ≤ x ∧ x ≤ 10) ∨ 18 ≤ x then 1 else 0
def TW (P : Program) (Stop : JT) (stop : Bool) (g : Goroutine) (w : World) (ft : Foot) : Prop :=
 g.status = .running ∧ match stop with
  | true => ∀ w₁,RelyW ft w w₁ → Stop g w₁ ft
  | false => ¬ (∀ w₁,RelyW ft w w₁ → Stop g w₁ ft) ∧ (∀ w₁,RelyW ft w w₁ → ∃ g' w' es,stepG P false g w₁ = .go g' w' es ∧ g'.status = .running ∧ GuarW ft w₁ w' es) ∧
   ∀ w₁ g' w' es,RelyW ft w w₁ → stepG P false g w₁ = .go g' w' es → Toward P Stop g' w' (ft.ext w₁.heap.size w'.heap.size)
theorem toward_tw {P : Program} {Stop : JT} {g : Goroutine} {w : World} {ft : Foot} (h : Toward P Stop g w ft) : ∃ b,TW P Stop b g w ft := by
 by_cases hs : ∀ w₁,RelyW ft w w₁ → Stop g w₁ ft
 ·exact ⟨true,h.running,hs⟩
 ·cases h with
  | stop h1 h2 => exact absurd h2 hs
  | step h1 h2 h3 => exact ⟨false,h1,hs,h2,h3⟩
def stopD (P : Program) (G : Grp) (a : Nat) : Option Value → JT
 | none => AtDep P G a
 | some v => AtLast P G a v
structure OwnF (G : Grp) (ft fi : Foot) (w : World) (t : Trace) (S : Nat → Prop) : Prop where
 lt : ∀ b,fi.rd b → b < w.heap.size
 sub : ∀ b,fi.wr b → fi.rd b
 grp : ¬ fi.rd G.wg
 ans : ¬ fi.rd G.F
 d1 : ∀ b,fi.wr b → ¬ ft.rd b
 d2 : ∀ b,ft.wr b → ¬ fi.rd b
 sh : ∀ b,S b → ¬ fi.rd b
 nr : ∀ a : Addr,fi.rd a.block → NoRelease a t
def WkOk (P : Program) (G : Grp) (ft : Foot) (gs : Array Goroutine) (w : World) (t : Trace) (i r : Nat) (S : Nat → Prop) : WkS → Prop
 | .none => True
 | .way d a wi fi b => ∃ g,gs[i]? = some g ∧ Deaf t i = 0 ∧ TW P (stopD P G a d) b g wi fi ∧ RelyW fi wi w ∧ OwnF G ft fi w t S ∧ KnowsOk t i fi ∧ w.cell? (G.cel a) = some (d.getD nilS)
 | .sit a s m v fi => 2 ≤ s ∧ s ≤ 7 ∧ ∃ g,gs[i]? = some g ∧ G.sitx P v s m (Deaf t i) g w ∧ OwnF G ft fi w t S ∧ fi.rd G.C ∧ G.phi a w fi ∧ (s ≤ 6 → ConcN.RelBy (ConcR.stA G.wg) t i r)
 | .gone a q fi => ∃ g,gs[i]? = some g ∧ QuitsD P q (Deaf t i) g ∧ OwnF G ft fi w t S ∧ G.phi a w fi ∧ ConcN.RelBy (ConcR.stA G.wg) t i r
def Acqd (G : Grp) (t : Trace) (r : Nat) : Prop := ∃ k,t.act? k = some (.mark (.acquire (ConcR.stA G.wg))) ∧ t.g? k = some 0 ∧ t.heard k ∧ r < k
theorem Acqd.app {G : Grp} {t : Trace} {r : Nat} (h : Acqd G t r) (u : Trace) : Acqd G (t ++ u) r := by
 obtain ⟨k,h1,h2,h3,h4⟩ := h
 have hk := lt_of_act? h1
 exact ⟨k,by rw [act?_old hk]; exact h1,by rw [g?_old hk]; exact h2,(heard_old hk).2 h3,h4⟩
def LowOk (ws : Nat → WkS) (l : Option (Nat × Nat)) : Prop := (∀ i,2 ≤ (ws i).stage → (ws i).stage ≤ 4 → l = some (i,(ws i).stage)) ∧ ∀ i s,l = some (i,s) → (ws i).stage = s
structure GInv (P : Program) (W0 : World) (G : Grp) (k : List Nat) (ft : Foot) (gs : Array Goroutine) (w : World) (t : Trace) (r : Nat → Nat) (q : Nat → Nat) (ws : Nat → WkS) (S : Nat → Prop) : Prop where
 base : Base W0 w
 lt : ∀ b,ft.rd b → b < w.heap.size
 sub : ∀ b,ft.wr b → ft.rd b
 nwg : ¬ ft.rd G.wg
 nans : ¬ ft.rd G.F
 ne : G.F ≠ G.wg
 tagw : ft.tag / 32 = G.wg
 k3 : ∀ a ∈ k,a < 3
 few : ∀ i a,(ws i).slot = some a → a ∈ k
 all : ∀ a ∈ k,∃ i,(ws i).slot = some a
 inj : ∀ i j a,(ws i).slot = some a → (ws j).slot = some a → i = j
 in_ : ∀ i,ws i ≠ .none → i < gs.size
 zero : ws 0 = .none
 grp : ∃ st sm l,G.at_ w st sm ∧ Phase (ft.tag % 32) (cntW ws gs.size) l st sm ∧ LowOk ws l
 hears : Deaf t 0 = deafX (ft.tag % 32)
 wk : ∀ i,WkOk P G ft gs w t i (r i) S (ws i)
 sep : ∀ i j fi fj,i ≠ j → (ws i).foot = some fi → (ws j).foot = some fj → ∀ b,fi.wr b → ¬ fj.rd b
 old : ∀ j g,0 < j → gs[j]? = some g → ws j = .none → QuitsD P (q j) (Deaf t j) g
 above : ∀ j,gs.size ≤ j → Deaf t j = 0
 clean : ∀ said,¬ Race said t
 known : KnowsOk t 0 ft
 done : ∀ j a,touchAt t j = some a → a.loc.isMemory = true → Knows t 0 j ∨ (∃ i,ws i ≠ .none ∧ t.g? j = some i) ∨ (InBlk S a.loc ∧ a.kind = .atomic)
 over : ∀ j x,t.g? j = some x → x ≠ 0 → t.counts j → (∃ k,t.g? k = some 0 ∧ HappensBefore t j k) ∨ ws x ≠ .none
 quiet : ∀ j a,touchAt t j = some a → locBlk a.loc = some G.wg → a.kind ≠ .atomic → Knows t 0 j ∧ (a.kind = .plain → ∀ i,ws i ≠ .none → Knows t i j)
 ftouch : ∀ j a,touchAt t j = some a → locBlk a.loc = some G.F → (Knows t 0 j ∧ ∀ i,ws i ≠ .none → Knows t i j) ∨ ∃ i s,ws i ≠ .none ∧ t.g? j = some i ∧ (ws i).slot = some s ∧ a.loc = .cell (G.cel s)
 late : ∀ i j a,ws i ≠ .none → r i < j → t.g? j = some i → touchAt t j = some a → (ws i).stage ≤ 6 → locBlk a.loc = some G.wg ∧ a.kind = .atomic
 seen : ∀ op ∈ t,op.act.low w.heap.size
 shun : ∀ b,S b → ¬ ft.rd b ∧ b < w.heap.size ∧ b ≠ G.wg ∧ b ≠ G.F
 norel : ∀ a : Addr,(ft.rd a.block ∨ a.block = G.wg ∨ a.block = G.F) → NoRelease a t
 acq : ft.tag % 32 = 12 → ∀ i,ws i ≠ .none → Acqd G t (r i)
 fok : G.fok w
 bare : ∀ a,a < 3 → (∀ i,(ws i).slot ≠ some a) → w.cell? (G.cel a) = some nilS
def JG (P : Program) (W0 : World) (Post : Value → World → Prop) (G : Grp) (k : List Nat) (g : Goroutine) (w : World) (ft : Foot) : Prop :=
 ∀ (gs : Array Goroutine) (w₁ : World) (sl : Option (Nat × Nat)) (t : Trace) (r : Nat → Nat) (q : Nat → Nat) (ws : Nat → WkS) (S : Nat → Prop),RelyW ft w w₁ → gs[0]? = some g → GInv P W0 G k ft gs w₁ t r q ws S → Ends P Post (crowd gs w₁ sl) t
theorem over_app {t u : Trace} {Q : Nat → Prop} (h : ∀ j x,t.g? j = some x → x ≠ 0 → t.counts j → (∃ k,t.g? k = some 0 ∧ HappensBefore t j k) ∨ Q x)
  (hu : ∀ op ∈ u,op.act.touch? = none ∨ op.g = 0 ∨ Q op.g) : ∀ j x,(t ++ u).g? j = some x → x ≠ 0 → (t ++ u).counts j → (∃ k,(t ++ u).g? k = some 0 ∧ HappensBefore (t ++ u) j k) ∨ Q x := by
 intro j x hg hne hc
 obtain ⟨y,hy,hk⟩ := hc
 obtain ⟨op,hop,hox⟩ := touch_of hy
 rcases getElem?_append_cases hop with ⟨hi,hop'⟩ | ⟨_,hopu⟩
 ·refine (h j x (by simpa [Trace.g?,getElem?_append_old hi] using hg) hne ((counts_old hi).1 ⟨y,hy,hk⟩)).imp (fun ⟨k,h1,h2⟩ => ⟨k,?_,hb_app u h2⟩) id
  have hkl : k < t.size := by
   unfold Trace.g? at h1
   obtain ⟨z,hz,_⟩ := Option.map_eq_some_iff.1 h1
   exact lt_size_of_getElem? hz
  simpa [Trace.g?,getElem?_append_old hkl] using h1
 ·have e : op.g = x := by simpa [Trace.g?,hop] using hg
  rcases hu op hopu with h0 | h0 | h0
  ·rw [h0] at hox; cases hox
  ·omega
  ·exact .inr (e ▸ h0)
theorem countP_upd {f f' : Nat → Bool} {i : Nat} : ∀ n,(∀ j,j ≠ i → f' j = f j) → i < n → (List.range n).countP f' + (bif f i then 1 else 0) = (List.range n).countP f + (bif f' i then 1 else 0)
 | 0,_,h => by omega
 | n + 1,hj,h => by
  rw [List.range_succ,List.countP_append,List.countP_append]
  by_cases e : i = n
  ·subst e
   have : (List.range i).countP f' = (List.range i).countP f := List.countP_congr fun x hx => by rw [hj x (by have := List.mem_range.1 hx; omega)]
   rw [this]
   cases hf : f i <;> cases hf' : f' i <;> simp [hf,hf']
  ·have ih := countP_upd (f := f) (f' := f') n hj (by omega)
   have : f' n = f n := hj n (fun h => e h.symm)
   simp only [List.countP_cons,List.countP_nil,this]
   omega
theorem cntW_upd {ws : Nat → WkS} {i n : Nat} {x : WkS} (h : i < n) : cntW (putAt ws i x) n + (bif (ws i).cnt then 1 else 0) = cntW ws n + (bif x.cnt then 1 else 0) := by
 have := countP_upd (f := fun j => (ws j).cnt) (f' := fun j => (putAt ws i x j).cnt) (i := i) n (fun j hj => by rw [putAt_ne _ _ hj]) h
 simpa [cntW,putAt_self] using this
theorem cntW_same {ws : Nat → WkS} {i n : Nat} {x : WkS} (h : i < n) (e : x.cnt = (ws i).cnt) : cntW (putAt ws i x) n = cntW ws n := by
 have := cntW_upd (ws := ws) (x := x) h
 rw [e] at this
 omega
theorem cntW_pos {ws : Nat → WkS} {i n : Nat} (h : i < n) (hc : (ws i).cnt = true) : 0 < cntW ws n := List.countP_pos_iff.2 ⟨i,List.mem_range.2 h,hc⟩
theorem cntW_zero {ws : Nat → WkS} {n : Nat} (h : cntW ws n = 0) : ∀ i,i < n → (ws i).cnt = false := fun i hi => by
 cases e : (ws i).cnt with
 | false => rfl
 | true => have := cntW_pos hi e; omega
section
variable {P : Program} {W0 : World} {Post : Value → World → Prop} {G : Grp} {k : List Nat} {g : Goroutine} {w w₁ w' : World} {ft ft' : Foot} {gs gs' : Array Goroutine} {t u : Trace} {i j0 : Nat} {r q : Nat → Nat} {ws : Nat → WkS} {S : Nat → Prop}
theorem at_of_block {st sm : Int} (h : G.at_ w st sm) (e : w'.heap[G.wg]? = w.heap[G.wg]?) : G.at_ w' st sm := by
 unfold Grp.at_ ConcR.WgAt at *
 rw [e]
 exact h
theorem at_lt {st sm : Int} (h : G.at_ w st sm) : G.wg < w.heap.size := by
 unfold Grp.at_ ConcR.WgAt at h
 exact (Array.getElem?_eq_some_iff.1 h).1
theorem fok_of_block (h : G.fok w) (e : w'.heap[G.F]? = w.heap[G.F]?) : G.fok w' := by
 obtain ⟨cs,ty,fr,h1,h2,h3⟩ := h
 refine ⟨cs,ty,fr,e.trans h1,h2,fun a ha => ?_⟩
 have := h3 a ha
 unfold World.frozen? at this ⊢
 rw [show w'.heap[(G.cel a).block]? = w.heap[(G.cel a).block]? from e]
 exact this
theorem fok_lt (h : G.fok w) : G.F < w.heap.size := by
 obtain ⟨cs,ty,fr,h1,_⟩ := h
 exact (Array.getElem?_eq_some_iff.1 h1).1
theorem cel_of_block (e : w'.heap[G.F]? = w.heap[G.F]?) (a : Nat) : w'.cell? (G.cel a) = w.cell? (G.cel a) := by
 unfold World.cell?
 rw [show w'.heap[(G.cel a).block]? = w.heap[(G.cel a).block]? from e]
theorem phi_keep {a : Nat} {fi fi' : Foot} (hk : ∀ b,fi.rd b → w'.heap[b]? = w.heap[b]?) (hc : w'.cell? (G.cel a) = w.cell? (G.cel a)) (hr : ∀ b,fi.rd b → fi'.rd b) (hw : ∀ b,fi.wr b → fi'.wr b) (h : G.phi a w fi) : G.phi a w' fi' := by
 obtain ⟨v,h1,h2⟩ := h
 exact ⟨v,hc.trans h1,leftV_keep hk hr hw h2⟩
theorem OwnF.app {fi : Foot} {u : Trace} (O : OwnF G ft fi w t S) (hs : w.heap.size ≤ w'.heap.size) (hu : ∀ a : Addr,∀ op ∈ u,op.act ≠ .mark (.release a)) : OwnF G ft fi w' (t ++ u) S :=
 ⟨fun b hb => Nat.lt_of_lt_of_le (O.lt b hb) hs,O.sub,O.grp,O.ans,O.d1,O.d2,O.sh,fun a ha => (O.nr a ha).app (hu a)⟩
theorem WkOk.own {x : WkS} {fi : Foot} {ri : Nat} (h : WkOk P G ft gs w t i ri S x) (e : x.foot = some fi) : OwnF G ft fi w t S := by
 cases x with
 | none => cases e
 | way d a wi fi b => cases e; exact h.choose_spec.2.2.2.2.1
 | sit a s m v fi => cases e; exact h.2.2.choose_spec.2.2.1
 | gone a n fi => cases e; exact h.choose_spec.2.2.1
theorem WkOk.here {x : WkS} {ri : Nat} (h : WkOk P G ft gs w t i ri S x) (hne : x ≠ .none) : ∃ y,gs[i]? = some y ∧ (y.status = .running ∨ (∃ v s m,G.sitx P v s m (Deaf t i) y w) ∨ ∃ n,QuitsD P n (Deaf t i) y) := by
 cases x with
 | none => exact absurd rfl hne
 | way d a wi fi b => obtain ⟨y,h1,_,h3,_⟩ := h; exact ⟨y,h1,.inl h3.1⟩
 | sit a s m v fi => obtain ⟨_,_,y,h1,h3,_⟩ := h; exact ⟨y,h1,.inr (.inl ⟨v,s,m,h3⟩)⟩
 | gone a n fi => obtain ⟨y,h1,h3,_⟩ := h; exact ⟨y,h1,.inr (.inr ⟨n,h3⟩)⟩
theorem WkOk.byAll {x : WkS} {ri : Nat} (h : WkOk P G ft gs w t i ri S x)
  (hheap : ∀ fi,x.foot = some fi → ∀ b,fi.rd b → w'.heap[b]? = w.heap[b]?) (hcell : ∀ a,x.slot = some a → w'.cell? (G.cel a) = w.cell? (G.cel a))
  (hsz : w.heap.size ≤ w'.heap.size) (htape : w'.tape = w.tape) (hos : w'.os = w.os) (hout : w'.output = w.output) (hwg : ∃ st sm,G.at_ w' st sm)
  (hu : x ≠ .none → ConcN.RelBy (ConcR.stA G.wg) t i ri → ConcN.RelBy (ConcR.stA G.wg) (t ++ u) i ri) (hd : x ≠ .none → Deaf (t ++ u) i = Deaf t i) (hkn : ∀ fi,x.foot = some fi → KnowsOk t i fi → KnowsOk (t ++ u) i fi)
  (hg : x ≠ .none → ∀ y,gs[i]? = some y → (y.status = .running ∨ (∃ v s m,G.sitx P v s m (Deaf t i) y w) ∨ ∃ n,QuitsD P n (Deaf t i) y) → gs'[i]? = some y)
  (own : ∀ fi,x.foot = some fi → OwnF G ft fi w t S → OwnF G ft' fi w' (t ++ u) S) : WkOk P G ft' gs' w' (t ++ u) i ri S x := by
 letI pl : ConcR.Payload := ⟨0⟩
 cases x with
 | none => trivial
 | way d a wi fi b =>
  obtain ⟨y,h1,h2,h3,h4,h5,h6,h7⟩ := h
  have hh := hheap fi rfl
  exact ⟨y,hg (by simp) y h1 (.inl h3.1),by rw [hd (by simp)]; exact h2,h3,h4.trans ⟨hh,hsz,htape,hos,hout⟩,own fi rfl h5,hkn fi rfl h6,(hcell a rfl).trans h7⟩
 | sit a s m v fi =>
  obtain ⟨h0,h0',y,h1,h2,h3,h4,h5,h6⟩ := h
  have hh := hheap fi rfl
  refine ⟨h0,h0',y,hg (by simp) y h1 (.inr (.inl ⟨v,s,m,h2⟩)),?_,own fi rfl h3,h4,phi_keep hh (hcell a rfl) (fun _ x => x) (fun _ x => x) h5,fun e => hu (by simp) (h6 e)⟩
  rw [hd (by simp)]
  exact h2.rely ⟨fun b hb => by omega,fun _ => hwg,fun h => (by obtain ⟨cs,hc,hz⟩ := h; exact ⟨cs,(hh _ h4).trans hc,hz⟩),ConcN.cell_of_block (hh _ h4) _⟩
 | gone a n fi =>
  obtain ⟨y,h1,h2,h3,h4,h5⟩ := h
  have hh := hheap fi rfl
  exact ⟨y,hg (by simp) y h1 (.inr (.inr ⟨n,h2⟩)),by rw [hd (by simp)]; exact h2,own fi rfl h3,phi_keep hh (hcell a rfl) (fun _ x => x) (fun _ x => x) h4,hu (by simp) h5⟩
theorem WkOk.by {x : WkS} {ri : Nat} (h : WkOk P G ft gs w t i ri S x) (hne : x ≠ .none → j0 ≠ i)
  (hheap : ∀ fi,x.foot = some fi → ∀ b,fi.rd b → w'.heap[b]? = w.heap[b]?) (hcell : ∀ a,x.slot = some a → w'.cell? (G.cel a) = w.cell? (G.cel a))
  (hsz : w.heap.size ≤ w'.heap.size) (htape : w'.tape = w.tape) (hos : w'.os = w.os) (hout : w'.output = w.output) (hwg : ∃ st sm,G.at_ w' st sm)
  (hu : ∀ op ∈ u,op.g = j0) (hd : j0 ≠ i → Deaf (t ++ u) i = Deaf t i) (hkn : ∀ fi,x.foot = some fi → KnowsOk t i fi → KnowsOk (t ++ u) i fi)
  (hg : x ≠ .none → ∀ y,gs[i]? = some y → (y.status = .running ∨ (∃ v s m,G.sitx P v s m (Deaf t i) y w) ∨ ∃ n,QuitsD P n (Deaf t i) y) → gs'[i]? = some y)
  (own : ∀ fi,x.foot = some fi → OwnF G ft fi w t S → OwnF G ft' fi w' (t ++ u) S) : WkOk P G ft' gs' w' (t ++ u) i ri S x :=
 h.byAll hheap hcell hsz htape hos hout hwg (fun hn h => h.appOther hu (hne hn)) (fun hn => hd (hne hn)) hkn hg own
theorem moved_keep {x g' y : Goroutine} (hne : j0 ≠ i) (h1 : gs[i]? = some y) (hs : y.status = .running ∨ (∃ v s m,G.sitx P v s m (Deaf t i) y w) ∨ ∃ n,QuitsD P n (Deaf t i) y) : ((gs.map (woken P x g' w')).setIfInBounds j0 g')[i]? = some y := by
 refine moved_put hne h1 ?_
 rcases hs with h | ⟨v,s,m,h⟩ | ⟨n,h⟩
 ·exact woken_run h
 ·exact h.woken _ _ _
 ·exact woken_quitsD h
theorem slot_put {y : WkS} (hsl : y.slot = (ws i).slot) (j : Nat) : (putAt ws i y j).slot = (ws j).slot := by
 by_cases e : j = i
 ·subst e
  rw [putAt_self,hsl]
 ·rw [putAt_ne _ _ e]
theorem none_slot {x : WkS} : x = .none ↔ x.slot = none := by cases x <;> simp [WkS.slot]
theorem ne_put {y : WkS} (hsl : y.slot = (ws i).slot) (j : Nat) : putAt ws i y j = .none ↔ ws j = .none := by
 rw [none_slot,none_slot,slot_put hsl]
theorem low_put {y : WkS} {l : Option (Nat × Nat)} (h : LowOk ws l) (h1 : ¬ (2 ≤ y.stage ∧ y.stage ≤ 4)) (h2 : ¬ (2 ≤ (ws i).stage ∧ (ws i).stage ≤ 4)) (hl : ∀ i s,l = some (i,s) → 2 ≤ s ∧ s ≤ 4) : LowOk (putAt ws i y) l := by
 refine ⟨fun j a b => ?_,fun j s e => ?_⟩
 ·by_cases e : j = i
  ·subst e
   rw [putAt_self] at a b
   exact absurd ⟨a,b⟩ h1
  ·rw [putAt_ne _ _ e] at a b ⊢
   exact h.1 j a b
 ·have := h.2 j s e
  by_cases e' : j = i
  ·subst e'
   have := hl _ _ e
   omega
  ·rw [putAt_ne _ _ e']
   exact this
theorem Phase.lows {x c : Nat} {l : Option (Nat × Nat)} {st sm : Int} (h : Phase x c l st sm) : ∀ i s,l = some (i,s) → 2 ≤ s ∧ s ≤ 4 := fun i s e => by
 cases h with
 | low h => cases e; omega
 | last => cases e; omega
 | _ => cases e
theorem GInv.move (I : GInv P W0 G k ft gs w t r q ws S) (hne : ws i ≠ .none) {y : WkS} (hsl : y.slot = (ws i).slot) {x g' : Goroutine} {es : Array Event} {ri : Nat} (hx : gs[i]? = some x)
  (hsz : w.heap.size ≤ w'.heap.size) (htape : w'.tape = w.tape) (hos : w'.os = w.os) (hout : w'.output = w.output)
  (hoth : ∀ j fj,j ≠ i → (ws j).foot = some fj → OwnF G ft fj w t S → ∀ b,fj.rd b → w'.heap[b]? = w.heap[b]?)
  (hcell : ∀ a,a < 3 → (ws i).slot ≠ some a → w'.cell? (G.cel a) = w.cell? (G.cel a)) (hfok : G.fok w')
  {st sm : Int} {l : Option (Nat × Nat)} (hat : G.at_ w' st sm) (hph : Phase (ft.tag % 32) (cntW (putAt ws i y) gs.size) l st sm) (hlow : LowOk (putAt ws i y) l)
  (hwk : WkOk P G ft ((gs.map (woken P x g' w')).setIfInBounds i g') w' (t ++ MemOp.ofEvents i x.frame.fn x.frame.place es) i ri S y)
  (hsep : ∀ fy,y.foot = some fy → ∀ j fj,j ≠ i → (ws j).foot = some fj → OwnF G ft fj w t S → (∀ b,fy.wr b → ¬ fj.rd b) ∧ ∀ b,fj.wr b → ¬ fy.rd b)
  (hclean : ∀ said,¬ Race said (t ++ MemOp.ofEvents i x.frame.fn x.frame.place es)) (hknown : KnowsOk (t ++ MemOp.ofEvents i x.frame.fn x.frame.place es) 0 ft)
  (hkn : ∀ j fj,j ≠ i → (ws j).foot = some fj → OwnF G ft fj w t S → KnowsOk t j fj → KnowsOk (t ++ MemOp.ofEvents i x.frame.fn x.frame.place es) j fj)
  (hnr : ∀ a : Addr,∀ op ∈ MemOp.ofEvents i x.frame.fn x.frame.place es,op.act ≠ .mark (.release a))
  (hq : ∀ op ∈ MemOp.ofEvents i x.frame.fn x.frame.place es,∀ a,op.act.touch? = some a → locBlk a.loc = some G.wg → a.kind = .atomic)
  (hf : ∀ op ∈ MemOp.ofEvents i x.frame.fn x.frame.place es,∀ a,op.act.touch? = some a → locBlk a.loc = some G.F → ∃ s,(ws i).slot = some s ∧ a.loc = .cell (G.cel s))
  (hlate : y.stage ≤ 6 → ∀ j a,ri < j → (t ++ MemOp.ofEvents i x.frame.fn x.frame.place es).g? j = some i → touchAt (t ++ MemOp.ofEvents i x.frame.fn x.frame.place es) j = some a → locBlk a.loc = some G.wg ∧ a.kind = .atomic)
  (hlo : ∀ op ∈ MemOp.ofEvents i x.frame.fn x.frame.place es,op.act.low w'.heap.size) (h12 : ft.tag % 32 = 12 → ri = r i) :
  GInv P W0 G k ft ((gs.map (woken P x g' w')).setIfInBounds i g') w' (t ++ MemOp.ofEvents i x.frame.fn x.frame.place es) (putAt r i ri) q (putAt ws i y) S := by
 have hi0 : i ≠ 0 := fun e => hne (e ▸ I.zero)
 have hsize : ((gs.map (woken P x g' w')).setIfInBounds i g').size = gs.size := by simp
 have hdo : ∀ j,i ≠ j → Deaf (t ++ MemOp.ofEvents i x.frame.fn x.frame.place es) j = Deaf t j := fun j hj => Deaf_other t hj _ (fun op hop => mem_g hop)
 have hn : ∀ j,putAt ws i y j ≠ .none ↔ ws j ≠ .none := fun j => not_congr (ne_put hsl j)
 have hyn : y ≠ .none := fun e => hne (none_slot.2 (by rw [← hsl,e]; rfl))
 have hlt : i < gs.size := I.in_ i hne
 refine { base := ⟨htape.trans I.base.tape,hos.trans I.base.os,hout.trans I.base.output,Nat.le_trans I.base.size hsz⟩,lt := fun b hb => Nat.lt_of_lt_of_le (I.lt b hb) hsz,sub := I.sub,nwg := I.nwg,nans := I.nans,ne := I.ne,tagw := I.tagw,k3 := I.k3,few := fun j a e => I.few j a (by rw [← slot_put hsl]; exact e),all := fun a ha => (I.all a ha).imp fun j hj => by rw [slot_put hsl]; exact hj,inj := fun j j' a e e' => I.inj j j' a (by rw [← slot_put hsl]; exact e) (by rw [← slot_put hsl]; exact e'),in_ := fun j hj => by rw [hsize]; exact I.in_ j ((hn j).1 hj),zero := (ne_put hsl 0).2 I.zero,grp := ⟨st,sm,l,hat,by rw [hsize]; exact hph,hlow⟩,hears := by rw [hdo _ hi0]; exact I.hears,wk := fun j => ?_,sep := fun j j' fj fj' hjj e e' b hb => ?_,old := fun j z hj hz hnone => ?_,above := fun j hj => ?_,clean := hclean,known := hknown,done := fun j a ha hm => ?_,over := over_app (Q := fun x => putAt ws i y x ≠ .none) (fun j x h1 h2 h3 => (I.over j x h1 h2 h3).imp id (hn x).2) fun op hop => .inr (.inr (by rw [mem_g hop]; exact (hn i).2 hne)),quiet := fun j a ha hb hk => ?_,ftouch := fun j a ha hb => ?_,late := fun j j' a hj hlt' hg ha hs => ?_,seen := seen_app (fun op hop => MemAct.low_mono hsz (I.seen op hop)) hlo,shun := fun b hS => ⟨(I.shun b hS).1,Nat.lt_of_lt_of_le (I.shun b hS).2.1 hsz,(I.shun b hS).2.2⟩,norel := fun a ha => (I.norel a ha).app (hnr a),acq := fun h j hj => ?_,fok := hfok,bare := fun a ha hno => ?_ }
 ·by_cases e : j = i
  ·subst e
   rw [putAt_self,putAt_self]
   exact hwk
  ·rw [putAt_ne _ _ e,putAt_ne _ _ e]
   have hj := I.wk j
   exact hj.by (j0 := i) (fun _ h => e h.symm) (fun fi hfi => hoth j fi e hfi (hj.own hfi)) (fun a ha => hcell a (I.k3 a (I.few j a ha)) fun h => e (I.inj j i a ha h)) hsz htape hos hout ⟨st,sm,hat⟩ (fun op hop => mem_g hop) (fun h => hdo j h) (fun fi hfi => hkn j fi e hfi (hj.own hfi)) (fun _ y hy hs => moved_keep (fun h => e h.symm) hy hs) fun fi hfi O => O.app hsz hnr
 ·by_cases e1 : j = i
  ·subst e1
   rw [putAt_self] at e
   rw [putAt_ne _ _ (fun h => hjj h.symm)] at e'
   exact (hsep fj e j' fj' (fun h => hjj h.symm) e' ((I.wk j').own e')).1 b hb
  ·rw [putAt_ne _ _ e1] at e
   by_cases e2 : j' = i
   ·subst e2
    rw [putAt_self] at e'
    exact (hsep fj' e' j fj e1 e ((I.wk j).own e)).2 b hb
   ·rw [putAt_ne _ _ e2] at e'
    exact I.sep j j' fj fj' hjj e e' b hb
 ·have hnone := (ne_put hsl j).1 hnone
  have hji : i ≠ j := fun e => hne (e ▸ hnone)
  obtain ⟨z',hz',rfl⟩ := moved_get hji hz
  have hqz := I.old j z' hj hz' hnone
  rw [woken_quitsD hqz,hdo _ hji]
  exact hqz
 ·rw [hsize] at hj
  rw [hdo _ (by omega)]
  exact I.above j hj
 ·rcases touch_app ha with ⟨_,h⟩ | ⟨op,hop,hg,h⟩
  ·exact (I.done j a h hm).imp (·.app _) fun h => h.imp (fun ⟨x,h1,h2⟩ => ⟨x,(hn x).2 h1,g_app h2⟩) id
  ·refine .inr (.inl ⟨i,(hn i).2 hne,?_⟩)
   unfold Trace.g?
   rw [hg]
   simp [mem_g hop]
 ·rcases touch_app ha with ⟨_,h⟩ | ⟨op,hop,hg,h⟩
  ·obtain ⟨a1,a2⟩ := I.quiet j a h hb hk
   exact ⟨a1.app _,fun hp x hx => (a2 hp x ((hn x).1 hx)).app _⟩
  ·exact absurd (hq op hop a h hb) hk
 ·rcases touch_app ha with ⟨_,h⟩ | ⟨op,hop,hg,h⟩
  ·rcases I.ftouch j a h hb with ⟨a1,a2⟩ | ⟨x,s,a1,a2,a3,a4⟩
   ·exact .inl ⟨a1.app _,fun x hx => (a2 x ((hn x).1 hx)).app _⟩
   ·exact .inr ⟨x,s,(hn x).2 a1,g_app a2,by rw [slot_put hsl]; exact a3,a4⟩
  ·obtain ⟨s,hs,hloc⟩ := hf op hop a h hb
   refine .inr ⟨i,s,(hn i).2 hne,?_,by rw [slot_put hsl]; exact hs,hloc⟩
   unfold Trace.g?
   rw [hg]
   simp [mem_g hop]
 ·by_cases e : j = i
  ·subst e
   rw [putAt_self] at hlt' hs
   exact hlate hs j' a hlt' hg ha
  ·rw [putAt_ne _ _ e] at hlt' hs
   rcases touch_app ha with ⟨hlt2,h⟩ | ⟨op,hop,hg2,h⟩
   ·refine I.late j j' a ((hn j).1 hj) hlt' ?_ h hs
    unfold Trace.g? at hg ⊢
    rw [getElem?_append_old hlt2] at hg
    exact hg
   ·unfold Trace.g? at hg
    rw [hg2] at hg
    simp [mem_g hop] at hg
    exact absurd hg.symm e
 ·by_cases e : j = i
  ·subst e
   rw [putAt_self,h12 h]
   exact (I.acq h j hne).app _
  ·rw [putAt_ne _ _ e]
   exact (I.acq h j ((hn j).1 hj)).app _
 ·have hnoi : (ws i).slot ≠ some a := fun h => hno i (by rw [slot_put hsl]; exact h)
  rw [hcell a ha hnoi]
  exact I.bare a ha fun j h => hno j (by rw [slot_put hsl]; exact h)
theorem cnt_same_put {x y : WkS} (hi : i < gs.size) (hws : ws i = x) (h : x.cnt = y.cnt) : cntW (putAt ws i y) gs.size = cntW ws gs.size := cntW_same hi (by rw [hws]; exact h.symm)
theorem GInv.walk {d : Option Value} {a : Nat} {wi : World} {fi : Foot} {b b' : Bool} (hws : ws i = .way d a wi fi b) (I : GInv P W0 G k ft gs w t r q ws S) {x g' : Goroutine} {es : Array Event} (hx : gs[i]? = some x) (hgu : GuarW fi w w' es)
  (hto : TW P (stopD P G a d) b' g' w' (fi.ext w.heap.size w'.heap.size)) :
  GInv P W0 G k ft ((gs.map (woken P x g' w')).setIfInBounds i g') w' (t ++ MemOp.ofEvents i x.frame.fn x.frame.place es) (putAt r i (r i)) q (putAt ws i (.way d a w' (fi.ext w.heap.size w'.heap.size) b')) S := by
 have hwk := I.wk i
 rw [hws] at hwk
 obtain ⟨y,h1,h2,_,_,O,hkn,hans⟩ := hwk
 rw [hx] at h1
 cases h1
 have hne : ws i ≠ .none := by rw [hws]; simp
 have hsz := hgu.size
 have hdf := fun j => deaf_evs (t := t) (i := i) (fn := x.frame.fn) (pos := x.frame.place) hgu.evs O.lt j
 obtain ⟨st,sm,l,hat,hph,hlow⟩ := I.grp
 have hwl := at_lt hat
 have hfl := fok_lt I.fok
 have eF : w'.heap[G.F]? = w.heap[G.F]? := hgu.heap _ hfl fun hw => O.ans (O.sub _ hw)
 have eW : w'.heap[G.wg]? = w.heap[G.wg]? := hgu.heap _ hwl fun hw => O.grp (O.sub _ hw)
 have blk : ∀ {op : MemOp} {a : Touch},op ∈ MemOp.ofEvents i x.frame.fn x.frame.place es → op.act.touch? = some a → ∃ bl,locBlk a.loc = some bl ∧ fi.rd bl := fun hop ha => by
  obtain ⟨ev,he,rfl⟩ := Go.Conc.mem_ofEvents hop
  obtain ⟨bl,e1,e2,_⟩ := evOk_touch (hgu.evs ev he) ha
  exact ⟨bl,e1,e2⟩
 have hlt : i < gs.size := I.in_ i hne
 refine I.move hne (by rw [hws]; rfl) hx hsz hgu.tape hgu.os hgu.output (fun j fj hj hfj Oj b hb => hgu.heap b (Oj.lt b hb) fun hw => ?_) (fun a _ _ => cel_of_block eF a) (fok_of_block I.fok eF) (at_of_block hat eW) (by rw [cnt_same_put (y := .way d a w' (fi.ext w.heap.size w'.heap.size) b') hlt hws rfl]; exact hph)
  (low_put hlow (by show ¬ (2 ≤ 8 ∧ 8 ≤ 4); omega) (by rw [hws]; show ¬ (2 ≤ 8 ∧ 8 ≤ 4); omega) hph.lows) ?_ (fun fy hfy j fj hj hfj Oj => ?_) (fun said => hkn.noRace (I.clean said) hgu.evs) (I.known.other hgu.evs O.d1 O.d2) (fun j fj hj hfj Oj hkj => hkj.other hgu.evs (I.sep i j fi fj (fun h => hj h.symm) (by rw [hws]; rfl) hfj) (I.sep j i fj fi hj hfj (by rw [hws]; rfl))) (ok_norel hgu.evs)
  (fun op hop a ha hb => ?_) (fun op hop a ha hb => ?_) (fun h => ?_) (fun op hop => MemAct.low_mono hsz (low_events hgu.evs O.lt op hop)) (fun _ => rfl)
 ·exact I.sep i j fi fj (fun h => hj h.symm) (by rw [hws]; rfl) hfj b hw hb
 ·refine ⟨g',moved_own hx,by rw [hdf]; exact h2,hto,RelyW.refl _ _,⟨fun b hb => ?_,fun b hb => ?_,fun hb => ?_,fun hb => ?_,fun b hb hr => ?_,fun b hb hr => ?_,fun b hS hb => ?_,fun a ha => ?_⟩,hkn.own hgu.evs I.seen,(cel_of_block eF a).trans hans⟩
  ·rcases hb with hb | hb
   ·exact Nat.lt_of_lt_of_le (O.lt b hb) hsz
   ·exact hb.2
  ·rcases hb with hb | hb
   ·exact .inl (O.sub b hb)
   ·exact .inr hb
  ·rcases hb with hb | hb
   ·exact O.grp hb
   ·omega
  ·rcases hb with hb | hb
   ·exact O.ans hb
   ·omega
  ·rcases hb with hb | hb
   ·exact O.d1 b hb hr
   ·have := I.lt b hr
    omega
  ·rcases hr with hr | hr
   ·exact O.d2 b hb hr
   ·have := I.lt b (I.sub b hb)
    omega
  ·rcases hb with hb | hb
   ·exact O.sh b hS hb
   ·have := (I.shun b hS).2.1
    omega
  ·refine NoRelease.app ?_ (ok_norel hgu.evs a)
   rcases ha with ha | ha
   ·exact O.nr a ha
   ·exact norel_fresh I.seen ha.1
 ·cases hfy
  refine ⟨fun b hb hr => ?_,fun b hb hr => ?_⟩
  ·rcases hb with hb | hb
   ·exact I.sep i j fi fj (fun h => hj h.symm) (by rw [hws]; rfl) hfj b hb hr
   ·have := Oj.lt b hr
    omega
  ·rcases hr with hr | hr
   ·exact I.sep j i fj fi hj hfj (by rw [hws]; rfl) b hb hr
   ·have := Oj.lt b (Oj.sub b hb)
    omega
 ·obtain ⟨bl,e1,e2⟩ := blk hop ha
  rw [e1] at hb
  cases hb
  exact absurd e2 O.grp
 ·obtain ⟨bl,e1,e2⟩ := blk hop ha
  rw [e1] at hb
  cases hb
  exact absurd e2 O.ans
 ·have : (8 : Nat) ≤ 6 := h
  omega
end
section
variable {P : Program} {W0 : World} {Post : Value → World → Prop} {G : Grp} {k : List Nat} {g : Goroutine} {w w₁ w' : World} {ft ft' : Foot} {gs gs' : Array Goroutine} {t u : Trace} {i j0 : Nat} {r q : Nat → Nat} {ws : Nat → WkS} {S : Nat → Prop}
theorem GInv.quit (I : GInv P W0 G k ft gs w t r q ws S) {j0 m : Nat} {x g' : Goroutine} {es : Array Event} (hpos : 0 < j0) (hx : gs[j0]? = some x) (hn : ws j0 = .none) (hm : ∀ e ∈ es,Event.mute e = true)
  (hq : QuitsD P m (deafBehind (Deaf t j0) es) g') : GInv P W0 G k ft ((gs.map (woken P x g' w)).setIfInBounds j0 g') w (t ++ MemOp.ofEvents j0 x.frame.fn x.frame.place es) r (putAt q j0 m) ws S := by
 have htn : ∀ op ∈ MemOp.ofEvents j0 x.frame.fn x.frame.place es,op.act.touch? = none := fun op hop => by
  obtain ⟨e,he,rfl⟩ := Go.Conc.mem_ofEvents hop
  exact touch_mute (hm e he)
 have hdo : ∀ j,j0 ≠ j → Deaf (t ++ MemOp.ofEvents j0 x.frame.fn x.frame.place es) j = Deaf t j := fun j hj => Deaf_other t hj _ (fun op hop => mem_g hop)
 have hlt : j0 < gs.size := (Array.getElem?_eq_some_iff.1 hx).1
 have hsize : ((gs.map (woken P x g' w)).setIfInBounds j0 g').size = gs.size := by simp
 obtain ⟨st,sm,l,hat,hph,hlow⟩ := I.grp
 refine { base := I.base,lt := I.lt,sub := I.sub,nwg := I.nwg,nans := I.nans,ne := I.ne,tagw := I.tagw,k3 := I.k3,few := I.few,all := I.all,inj := I.inj,in_ := fun j hj => by rw [hsize]; exact I.in_ j hj,zero := I.zero,grp := ⟨st,sm,l,hat,by rw [hsize]; exact hph,hlow⟩,hears := by rw [hdo _ (by omega)]; exact I.hears,wk := fun j => ?_,sep := I.sep,old := fun j y hj hy hnj => ?_,above := fun j hj => ?_,clean := fun said => noRace_append (I.clean said) (fun op hop => mem_g hop) fun _ _ _ op hop b hb _ => (by rw [htn op hop] at hb; cases hb),known := I.known.mute htn,done := fun j a ha hmem => ?_,over := over_app I.over fun op hop => .inl (htn op hop),quiet := fun j a ha hb hk => ?_,ftouch := fun j a ha hb => ?_,late := fun i' j a hi' hj hg ha hs => ?_,seen := ?_,shun := I.shun,norel := fun a ha => (I.norel a ha).app (mute_norel hm a),acq := fun h j hj => (I.acq h j hj).app _,fok := I.fok,bare := I.bare }
 ·exact (I.wk j).by (j0 := j0) (fun h e => h (e ▸ hn)) (fun _ _ _ _ => rfl) (fun _ _ => rfl) (Nat.le_refl _) rfl rfl rfl ⟨st,sm,hat⟩ (fun op hop => mem_g hop) (fun h => hdo j h) (fun fi _ h => h.mute htn) (fun h y hy hs => moved_keep (fun e => h (e ▸ hn)) hy hs) fun fi _ O => O.app (Nat.le_refl _) (mute_norel hm)
 ·by_cases hji : j0 = j
  ·subst hji
   rw [moved_own hx] at hy
   cases hy
   rw [putAt_self,Deaf_own]
   exact hq
  ·obtain ⟨z,hz,rfl⟩ := moved_get hji hy
   have hqz := I.old j z hj hz hnj
   rw [woken_quitsD hqz,hdo _ hji,putAt_ne _ _ (fun e => hji e.symm)]
   exact hqz
 ·have : j0 ≠ j := by rw [hsize] at hj; omega
  rw [hdo _ this]
  exact I.above j (by simpa using hj)
 ·rcases touch_app ha with ⟨_,h⟩ | ⟨op,hop,_,h⟩
  ·exact (I.done j a h hmem).imp (·.app _) fun h => h.imp (fun ⟨x,h1,h2⟩ => ⟨x,h1,g_app h2⟩) id
  ·rw [htn op hop] at h; cases h
 ·rcases touch_app ha with ⟨_,h⟩ | ⟨op,hop,_,h⟩
  ·obtain ⟨a1,a2⟩ := I.quiet j a h hb hk
   exact ⟨a1.app _,fun hp i hi => (a2 hp i hi).app _⟩
  ·rw [htn op hop] at h; cases h
 ·rcases touch_app ha with ⟨_,h⟩ | ⟨op,hop,_,h⟩
  ·rcases I.ftouch j a h hb with ⟨a1,a2⟩ | ⟨x,s,a1,a2,a3⟩
   ·exact .inl ⟨a1.app _,fun x hx => (a2 x hx).app _⟩
   ·exact .inr ⟨x,s,a1,g_app a2,a3⟩
  ·rw [htn op hop] at h; cases h
 ·rcases touch_app ha with ⟨hlt',h⟩ | ⟨op,hop,_,h⟩
  ·refine I.late i' j a hi' hj ?_ h hs
   unfold Trace.g? at hg ⊢
   rw [getElem?_append_old hlt'] at hg
   exact hg
  ·rw [htn op hop] at h; cases h
 ·exact seen_app I.seen fun op hop => by
   obtain ⟨e,he,rfl⟩ := Go.Conc.mem_ofEvents hop
   exact low_mute (hm e he) _
end
def Bk2 (wg : Nat) (e : Event) : Prop := Bk wg e ∨ e = Go.ConcR.mk (.releaseMerge (ConcR.stA wg))
theorem bk2_norel {wg : Nat} {es : Array Event} (he : ∀ e ∈ es,Bk2 wg e) {g : Nat} {fn : FuncId} {pos : String} (a : Addr) : ∀ op ∈ MemOp.ofEvents g fn pos es,op.act ≠ .mark (.release a) := by
 intro op hop e
 obtain ⟨x,hx,rfl⟩ := Go.Conc.mem_ofEvents hop
 rcases he x hx with (h1 | h1 | ⟨y,wr,rfl,_⟩) | rfl
 ·simp only [Go.ConcR.ofEvent_loc_mark h1] at e
  cases e
 ·simp only [Go.ConcR.ofEvent_loc_mark h1] at e
  cases e
 ·cases e
 ·cases e
theorem bk2_touch {wg : Nat} {es : Array Event} (he : ∀ e ∈ es,Bk2 wg e) {g : Nat} {fn : FuncId} {pos : String} {op : MemOp} (hop : op ∈ MemOp.ofEvents g fn pos es) {b : Touch} (hb : op.act.touch? = some b) : locBlk b.loc = some wg ∧ b.kind = .atomic := by
 obtain ⟨x,hx,rfl⟩ := Go.Conc.mem_ofEvents hop
 rcases he x hx with (h1 | h1 | ⟨y,wr,rfl,hy⟩) | rfl
 ·simp only [Go.ConcR.ofEvent_loc_mark h1] at hb
  cases hb
 ·simp only [Go.ConcR.ofEvent_loc_mark h1] at hb
  cases hb
 ·simp only [Go.ConcR.ofEvent_cell,MemAct.touch?,Option.some.injEq] at hb
  subst hb
  exact ⟨by show some y.block = _; rw [hy],rfl⟩
 ·cases hb
theorem bk2_low {wg n : Nat} {es : Array Event} (he : ∀ e ∈ es,Bk2 wg e) (hn : wg < n) {g : Nat} {fn : FuncId} {pos : String} : ∀ op ∈ MemOp.ofEvents g fn pos es,op.act.low n := by
 intro op hop
 obtain ⟨x,hx,rfl⟩ := Go.Conc.mem_ofEvents hop
 rcases he x hx with (h1 | h1 | ⟨y,wr,rfl,hy⟩) | rfl
 ·simp only [Go.ConcR.ofEvent_loc_mark h1]
  trivial
 ·simp only [Go.ConcR.ofEvent_loc_mark h1]
  trivial
 ·simp only [Go.ConcR.ofEvent_cell]
  show y.block < n
  rw [hy]
  exact hn
 ·exact hn
theorem conf_plain {said : Bool} {a b : Touch} (h : a.conflicts said b) (hb : b.kind = .atomic) : a.kind = .plain := by
 obtain ⟨_,_,_,h | h | ⟨_,_,h⟩⟩ := h
 ·exact h
 ·rw [hb] at h; cases h
 ·rw [hb] at h; cases h
section
variable {P : Program} {W0 : World} {Post : Value → World → Prop} {G : Grp} {k : List Nat} {g : Goroutine} {w w₁ w' : World} {ft ft' : Foot} {gs gs' : Array Goroutine} {t u : Trace} {i j0 : Nat} {r q : Nat → Nat} {ws : Nat → WkS} {S : Nat → Prop}
theorem eq_of_aside (A : Aside G.wg w w') (hne : G.F ≠ G.wg) : w'.heap[G.F]? = w.heap[G.F]? := A.block _ hne
theorem GInv.turn (I : GInv P W0 G k ft gs w t r q ws S) (hne : ws i ≠ .none) {y : WkS} (hsl : y.slot = (ws i).slot) (hfo : y.foot = (ws i).foot) {x g' : Goroutine} {es : Array Event} {ri : Nat} (hx : gs[i]? = some x) (A : Aside G.wg w w') (hbk : ∀ e ∈ es,Bk2 G.wg e) (hr : (ri = r i ∧ (y.stage ≤ 6 → (ws i).stage ≤ 6)) ∨ ri = t.size) (h12 : ft.tag % 32 = 12 → ri = r i)
  {st sm : Int} {l : Option (Nat × Nat)} (hat : G.at_ w' st sm) (hph : Phase (ft.tag % 32) (cntW (putAt ws i y) gs.size) l st sm) (hlow : LowOk (putAt ws i y) l)
  (hwk : WkOk P G ft ((gs.map (woken P x g' w')).setIfInBounds i g') w' (t ++ MemOp.ofEvents i x.frame.fn x.frame.place es) i ri S y) :
  GInv P W0 G k ft ((gs.map (woken P x g' w')).setIfInBounds i g') w' (t ++ MemOp.ofEvents i x.frame.fn x.frame.place es) (putAt r i ri) q (putAt ws i y) S := by
 have eF := eq_of_aside A I.ne
 have hwl : G.wg < w'.heap.size := at_lt hat
 refine I.move hne hsl hx (Nat.le_of_eq A.size.symm) A.tape A.os A.output (fun j fj _ _ Oj b hb => A.block b fun e => Oj.grp (e ▸ hb)) (fun a _ _ => cel_of_block eF a) (fok_of_block I.fok eF) hat hph hlow hwk
  (fun fy hfy j fj hj hfj _ => ⟨I.sep i j fy fj (fun h => hj h.symm) (hfo ▸ hfy) hfj,I.sep j i fj fy hj hfj (hfo ▸ hfy)⟩)
  (fun said => noRace_append (I.clean said) (fun op hop => mem_g hop) fun n a ha op hop b hb hc => ?_) (fun j a ha hm => ?_) (fun j fj hj hfj Oj hkj n a ha hm => ?_) (bk2_norel hbk) (fun op hop a ha _ => (bk2_touch hbk hop ha).2) (fun op hop a ha hb => ?_) (fun hs n a hn hg ha => ?_) (bk2_low hbk hwl) h12
 ·obtain ⟨h1,h2⟩ := bk2_touch hbk hop hb
  have hp := conf_plain hc h2
  exact (I.quiet n a ha (by rw [hc.1]; exact h1) (by rw [hp]; simp)).2 hp i hne
 ·rcases touch_app ha with ⟨_,h⟩ | ⟨op,hop,_,h⟩
  ·exact (I.known j a h hm).imp (·.app _) id
  ·refine .inr fun b hb => ?_
   rw [(bk2_touch hbk hop h).1] at hb
   cases hb
   exact ⟨fun hw => I.nwg (I.sub _ hw),fun _ hr => I.nwg hr⟩
 ·rcases touch_app ha with ⟨_,h⟩ | ⟨op,hop,_,h⟩
  ·exact (hkj n a h hm).imp (·.app _) id
  ·refine .inr fun b hb => ?_
   rw [(bk2_touch hbk hop h).1] at hb
   cases hb
   exact ⟨fun hw => Oj.grp (Oj.sub _ hw),fun _ hr => Oj.grp hr⟩
 ·rw [(bk2_touch hbk hop ha).1] at hb
  exact absurd (Option.some.inj hb).symm I.ne
 ·rcases touch_app ha with ⟨hlt',h⟩ | ⟨op,hop,_,h⟩
  ·rcases hr with ⟨rfl,hr⟩ | rfl
   ·refine I.late i n a hne hn ?_ h (hr hs)
    unfold Trace.g? at hg ⊢
    rw [getElem?_append_old hlt'] at hg
    exact hg
   ·omega
  ·exact bk2_touch hbk hop h
theorem cell_set_ne {a b : Nat} {v : Value} (h : a ≠ b) : (w.setCell (G.cel a) v).cell? (G.cel b) = w.cell? (G.cel b) := by
 unfold World.cell? World.setCell
 simp only [Array.getElem?_modify,if_pos]
 cases w.heap[G.F]? with
 | none => rfl
 | some o =>
  cases o with
  | cells c ty fr => simp [Array.getElem?_setIfInBounds_ne h]
  | _ => rfl
theorem cell_set_eq {a : Nat} {v : Value} (h : G.fok w) (ha : a < 3) : (w.setCell (G.cel a) v).cell? (G.cel a) = some v := by
 obtain ⟨cs,ty,fr,h1,h2,_⟩ := h
 unfold World.cell? World.setCell
 simp only [Array.getElem?_modify,if_pos,h1,Option.map_some]
 simp [h2,ha]
theorem fok_set {a : Nat} {v : Value} (h : G.fok w) : G.fok (w.setCell (G.cel a) v) := by
 obtain ⟨cs,ty,fr,h1,h2,h3⟩ := h
 refine ⟨cs.setIfInBounds a v,ty,fr,?_,by simpa using h2,fun b hb => ?_⟩
 ·unfold World.setCell
  simp only [Array.getElem?_modify,if_pos,h1,Option.map_some]
  simp
 ·have := h3 b hb
  unfold World.frozen? World.setCell at *
  simp only [Array.getElem?_modify,if_pos,h1,Option.map_some] at this ⊢
  exact this
theorem dep_ops {a : Nat} {fn : FuncId} {pos : String} : MemOp.ofEvents i fn pos #[depE G a] = #[{ g := i,fn := fn,pos := pos,act := .access (depE G a) }] := by
 rw [ofEvents_eq]
 simp [depE,MemAct.ofEvent]
theorem GInv.dep {a : Nat} {wi : World} {fi : Foot} {b b' : Bool} {v : Value} (hws : ws i = .way none a wi fi b) (I : GInv P W0 G k ft gs w t r q ws S) {x g' : Goroutine} (hx : gs[i]? = some x)
  (hto : TW P (AtLast P G a v) b' g' (w.setCell (G.cel a) v) fi) :
  GInv P W0 G k ft ((gs.map (woken P x g' (w.setCell (G.cel a) v))).setIfInBounds i g') (w.setCell (G.cel a) v) (t ++ MemOp.ofEvents i x.frame.fn x.frame.place #[depE G a]) (putAt r i (r i)) q (putAt ws i (.way (some v) a (w.setCell (G.cel a) v) fi b')) S := by
 have hwk := I.wk i
 rw [hws] at hwk
 obtain ⟨y,h1,h2,_,_,O,hkn,hans⟩ := hwk
 rw [hx] at h1
 cases h1
 have hne : ws i ≠ .none := by rw [hws]; simp
 have hlt : i < gs.size := I.in_ i hne
 obtain ⟨st,sm,l,hat,hph,hlow⟩ := I.grp
 have hfl := fok_lt I.fok
 have Aw := aside_setCell w (G.cel a) v
 have heq : ∀ b,b ≠ G.F → (w.setCell (G.cel a) v).heap[b]? = w.heap[b]? := fun b hb => Aw.block b hb
 have ha3 : a < 3 := I.k3 a (I.few i a (by rw [hws]; rfl))
 rw [dep_ops]
 generalize hu : (#[{ g := i,fn := x.frame.fn,pos := x.frame.place,act := .access (depE G a) }] : Trace) = u
 have hop : ∀ op ∈ u,op = { g := i,fn := x.frame.fn,pos := x.frame.place,act := .access (depE G a) } := fun op h => by
  rw [← hu] at h
  simpa using h
 have htc : ∀ op ∈ u,∀ b,op.act.touch? = some b → b = ⟨.cell (G.cel a),true,.plain⟩ := fun op h b hb => by
  rw [hop op h] at hb
  simpa [MemAct.touch?,depE] using hb.symm
 have htb : ∀ op ∈ u,∀ b,op.act.touch? = some b → locBlk b.loc = some G.F := fun op h b hb => by rw [htc op h b hb]; rfl
 have hug : ∀ op ∈ u,op.g = i := fun op h => by rw [hop op h]
 have hnr : ∀ a : Addr,∀ op ∈ u,op.act ≠ .mark (.release a) := fun a op h e => by rw [hop op h] at e; cases e
 have hdeaf : ∀ j,Deaf (t ++ u) j = Deaf t j := fun j => Deaf_quiet fun op h d => by rw [hop op h]; rfl
 rw [show u = MemOp.ofEvents i x.frame.fn x.frame.place #[depE G a] by rw [dep_ops,hu]] at *
 have apart : ∀ {f : Foot} {z : Nat},¬ f.rd G.F → (∀ b,f.wr b → f.rd b) → KnowsOk t z f → KnowsOk (t ++ MemOp.ofEvents i x.frame.fn x.frame.place #[depE G a]) z f := fun hn hs hk n c hc hm => by
  rcases touch_app hc with ⟨_,h⟩ | ⟨op,hop',_,h⟩
  ·exact (hk n c h hm).imp (·.app _) id
  ·refine .inr fun b hb => ?_
   rw [htb op hop' c h] at hb
   cases hb
   exact ⟨fun hw => hn (hs _ hw),fun _ hr => hn hr⟩
 refine I.move hne (by rw [hws]; rfl) hx (Nat.le_of_eq Aw.size.symm) Aw.tape Aw.os Aw.output (fun j fj _ _ Oj b hb => heq b fun e => Oj.ans (e ▸ hb)) (fun c _ hc => cell_set_ne fun e => hc (by rw [hws,e]; rfl)) (fok_set I.fok) (at_of_block hat (heq _ (Ne.symm I.ne))) (by rw [cnt_same_put (y := .way (some v) a (w.setCell (G.cel a) v) fi b') hlt hws rfl]; exact hph)
  (low_put hlow (by show ¬ (2 ≤ 8 ∧ 8 ≤ 4); omega) (by rw [hws]; show ¬ (2 ≤ 8 ∧ 8 ≤ 4); omega) hph.lows) ⟨g',moved_own hx,by rw [hdeaf]; exact h2,hto,RelyW.refl _ _,O.app (Nat.le_of_eq Aw.size.symm) hnr,apart O.ans O.sub hkn,cell_set_eq I.fok ha3⟩
  (fun fy hfy j fj hj hfj _ => by cases hfy; exact ⟨I.sep i j fi fj (fun h => hj h.symm) (by rw [hws]; rfl) hfj,I.sep j i fj fi hj hfj (by rw [hws]; rfl)⟩)
  (fun said => noRace_append (I.clean said) hug fun n c hc op hop' d hd hcf => ?_) (apart I.nans I.sub I.known) (fun j fj _ _ Oj hkj => apart Oj.ans Oj.sub hkj) hnr (fun op hop' c hc hb => ?_) (fun op hop' c hc _ => ⟨a,by rw [hws]; rfl,by rw [htc op hop' c hc]⟩) (fun h => ?_) (fun op hop' => ?_) (fun _ => rfl)
 ·have hl : c.loc = .cell (G.cel a) := by rw [hcf.1,htc op hop' d hd]
  rcases I.ftouch n c hc (by rw [hl]; rfl) with ⟨_,a2⟩ | ⟨z,s,a1,a2,a3,a4⟩
  ·exact a2 i hne
  ·rw [hl] at a4
   have hs : s = a := by cases a4; rfl
   subst hs
   have hz : z = i := I.inj z i s a3 (by rw [hws]; rfl)
   subst hz
   unfold Trace.g? at a2
   obtain ⟨op2,h3,h4⟩ := Option.map_eq_some_iff.1 a2
   have := knows_own h3
   rw [h4] at this
   exact this
 ·rw [htb op hop' c hc] at hb
  exact absurd (Option.some.inj hb) I.ne
 ·have : (8 : Nat) ≤ 6 := h
  omega
 ·rw [hop op hop']
  show G.F < (w.setCell (G.cel a) v).heap.size
  rw [Aw.size]
  exact hfl
end
end Go.Proofs.Yteoenhhmcpipoaa
