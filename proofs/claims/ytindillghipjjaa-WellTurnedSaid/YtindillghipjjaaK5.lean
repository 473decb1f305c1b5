/- WellTurned answers true at every input, and its argument reads behind the call as it read before. No conditions. -/
import Derived.Test.YtindillghipjjaaK2
import Derived.Test.YtindillghipjjaaK4
import Derived.Test.YtindillghipjjaaK3
import Derived.Below
import Derived.Test.YtindillghipjjaaRows
import Derived.Conc.LeavingOf
import Derived.ChangeSlices
import Derived.OpenShut
import Derived.Carry

namespace Go.Proofs.Ytindillghipjjaa
open Go.Conc Go.Proofs.Try
set_option maxRecDepth 100000
set_option maxHeartbeats 4000000
set_option linter.unusedVariables false
section
variable {main : Bool} {J : JT} {n0 : Nat} {h : List AObj} {K : Value → List AObj → Prop}
theorem at122 : prog.funcs[122]? = some f122 := by kernel_rfl
theorem body122 : f122.body = some (codeOf f122) := by kernel_rfl
def pl122 : Plans := []
def ct122 : Cuts := .go
theorem pok122 : plansOk prog pl122 (codeOf f122) = true := by kernel_rfl
theorem e122 {a0 : Value} : W prog J 36 h.length 122 (codeOf f122) (RG.mk (regs [a0]) []) h (RetQ prog [.tmp 2] h.length K) =
(aLenS a0 fun v1 =>
Sem J 36 h.length 122 (subC [1, 1, 0, 1, 0] (codeOf f122)) (RG.put (RG.put (RG.put (RG.put (RG.put (RG.mk (regs [a0]) []) 2 (Value.slice none 0 0)) 3 (vint 0)) 9 a0) 10 v1) 11 (vint 0)) h (contX pl122 prog J 36 h.length 122 ct122 [1, 1, 0, 1, 0] (codeOf f122) [] (RetQ prog [.tmp 2] h.length K))) := top_eq pok122 ct122 (by kernel_rfl)
theorem g122 (hJ : Closed prog main J) {a0 : Value} (hs : heapOk h → W prog J 36 h.length 122 (codeOf f122) (RG.mk (regs [a0]) []) h (RetQ prog [.tmp 2] h.length K)) : Good prog J 122 [a0] h K :=
  good_of_W hJ mixed at122 body122 (by kernel_rfl) (Nat.le_of_ble_eq_true rfl) hs
theorem s122_1 {f : RG} {nx0 : RG → List AObj → Prop} : W prog J 36 n0 122 (subC [1, 1, 0, 1, 0, 0] (codeOf f122)) f h (thenK nx0 (contX pl122 prog J 36 n0 122 ct122 [1, 1, 0, 1, 0] (codeOf f122) [] (RetQ prog [.tmp 2] n0 K))) =
(aBin prog .lss 3 (f.r 11) (f.r 10) fun v1 =>
cnd v1
(aIdx 1 (f.r 9) (f.r 11) fun v2 =>
aLoad false 1 v2 h fun v3 =>
aLenS v3 fun v4 =>
aBin prog .add 3 (f.r 3) v4 fun v5 =>
aBin prog .lss 3 v5 (vint 0) fun v6 =>
cnd v6
(False)
(aBin prog .add 3 (f.r 11) (vint 1) fun v7 =>
nx0 (RG.put (RG.put (RG.put (RG.put (RG.put (RG.put (RG.put (RG.put (RG.put (RG.put (RG.put (RG.put (RG.put f 12 v1) 13 v2) 14 v3) 5 v3) 15 (f.r 3)) 16 v3) 17 v4) 18 v5) 3 v5) 19 v5) 20 v6) 22 v7) 11 v7) h))
(Good prog J 132 [(Value.slice none 0 0), (f.r 3)] h fun v8 h9 =>
aLenS (f.r 0) fun v10 =>
Sem J 36 n0 122 (subC [1, 1, 1, 1, 0, 1, 0] (codeOf f122)) (RG.put (RG.put (RG.put (RG.put (RG.put (RG.put (RG.put f 12 v1) 23 (f.r 3)) 24 v8) 6 v8) 25 (f.r 0)) 26 v10) 27 (vint 0)) h9 (contX pl122 prog J 36 n0 122 ct122 [1, 1, 1, 1, 0, 1, 0] (codeOf f122) [] (RetQ prog [.tmp 2] n0 K)))) := sub_eq pok122 ct122 (by kernel_rfl)
theorem l122_1 (hJ : Closed prog main J) {S : Type} (μ : S → Nat) (I : S → RG → List AObj → Prop) (hI : ∀ s f h, I s f h → heapOk h → n0 ≤ h.length → W prog J 36 n0 122 (subC [1, 1, 0, 1, 0, 0] (codeOf f122)) f h (thenK (Nx n0 μ I s) (contX pl122 prog J 36 n0 122 ct122 [1, 1, 0, 1, 0] (codeOf f122) [] (RetQ prog [.tmp 2] n0 K))))
  {s : S} {f : RG} (hi : Gets n0 I s f h) : Sem J 36 n0 122 (subC [1, 1, 0, 1, 0] (codeOf f122)) f h (contX pl122 prog J 36 n0 122 ct122 [1, 1, 0, 1, 0] (codeOf f122) [] (RetQ prog [.tmp 2] n0 K)) :=
  loop_rule hJ mixed (b := subC [1, 1, 0, 1, 0, 0] (codeOf f122)) (by kernel_rfl) μ I hI hi
theorem s122_2 {f : RG} {nx0 : RG → List AObj → Prop} : W prog J 36 n0 122 (subC [1, 1, 1, 1, 0, 1, 0, 0] (codeOf f122)) f h (thenK nx0 (contX pl122 prog J 36 n0 122 ct122 [1, 1, 1, 1, 0, 1, 0] (codeOf f122) [] (RetQ prog [.tmp 2] n0 K))) =
(aBin prog .lss 3 (f.r 27) (f.r 26) fun v1 =>
cnd v1
(aIdx 1 (f.r 25) (f.r 27) fun v2 =>
aLoad false 1 v2 h fun v3 =>
((List.length [(vint 0)] = 1 ∧ 0 < (1 : Nat) ∧ 0 < (8 : Nat) ∧ (8 : Nat) ≤ 1024) ∧ aApp 1 (f.r 6) v3 h fun v4 h5 =>
aBin prog .add 3 (f.r 27) (vint 1) fun v6 =>
nx0 (RG.put (RG.put (RG.put (RG.put (RG.put (RG.put (RG.put (RG.put (RG.put (RG.put f 28 v1) 29 v2) 30 v3) 8 v3) 31 (f.r 6)) 32 v3) 33 v4) 6 v4) 34 v6) 27 v6) h5))
(retL n0 K f.ds [(f.r 6)] h)) := sub_eq pok122 ct122 (by kernel_rfl)
theorem l122_2 (hJ : Closed prog main J) {S : Type} (μ : S → Nat) (I : S → RG → List AObj → Prop) (hI : ∀ s f h, I s f h → heapOk h → n0 ≤ h.length → W prog J 36 n0 122 (subC [1, 1, 1, 1, 0, 1, 0, 0] (codeOf f122)) f h (thenK (Nx n0 μ I s) (contX pl122 prog J 36 n0 122 ct122 [1, 1, 1, 1, 0, 1, 0] (codeOf f122) [] (RetQ prog [.tmp 2] n0 K))))
  {s : S} {f : RG} (hi : Gets n0 I s f h) : Sem J 36 n0 122 (subC [1, 1, 1, 1, 0, 1, 0] (codeOf f122)) f h (contX pl122 prog J 36 n0 122 ct122 [1, 1, 1, 1, 0, 1, 0] (codeOf f122) [] (RetQ prog [.tmp 2] n0 K)) :=
  loop_rule hJ mixed (b := subC [1, 1, 1, 1, 0, 1, 0, 0] (codeOf f122)) (by kernel_rfl) μ I hI hi
theorem at132 : prog.funcs[132]? = some f132 := by kernel_rfl
theorem body132 : f132.body = some (codeOf f132) := by kernel_rfl
def pl132 : Plans := []
def ct132 : Cuts := .go
theorem pok132 : plansOk prog pl132 (codeOf f132) = true := by kernel_rfl
theorem e132 {a0 a1 : Value} : W prog J 27 h.length 132 (codeOf f132) (RG.mk (regs [a0, a1]) []) h (RetQ prog [.tmp 4] h.length K) =
(aBin prog .lss 3 a1 (vint 0) fun v1 =>
cnd v1
(False)
(aCapS a0 fun v2 =>
aLenS a0 fun v3 =>
aBin prog .sub 3 v2 v3 fun v4 =>
aBin prog .sub 3 a1 v4 fun v5 =>
aBin prog .gtr 3 v5 (vint 0) fun v6 =>
cnd v6
(aCapS a0 fun v7 =>
aSl2 1 a0 none (some v7) h fun v8 =>
((List.length [(vint 0)] = 1 ∧ 0 < (1 : Nat) ∧ 0 < (8 : Nat) ∧ (8 : Nat) ≤ 1024) ∧ aAppZ 1 [(vint 0)] v8 v5 h fun v9 h10 =>
aLenS a0 fun v11 =>
aSl2 1 v9 none (some v11) h10 fun v12 =>
retL h.length K [] [v12] h10))
(retL h.length K [] [a0] h))) := top_eq pok132 ct132 (by kernel_rfl)
theorem g132 (hJ : Closed prog main J) {a0 a1 : Value} (hs : heapOk h → W prog J 27 h.length 132 (codeOf f132) (RG.mk (regs [a0, a1]) []) h (RetQ prog [.tmp 4] h.length K)) : Good prog J 132 [a0, a1] h K :=
  good_of_W hJ mixed at132 body132 (by kernel_rfl) (Nat.le_of_ble_eq_true rfl) hs
end
end Go.Proofs.Ytindillghipjjaa

namespace Go.Proofs.Ytindillghipjjaa
open Go.Conc Go.Proofs.Try
set_option maxRecDepth 100000
set_option maxHeartbeats 4000000
set_option linter.unusedVariables false
section
variable {main : Bool} {J : JT} {n0 : Nat} {h : List AObj} {K : Value → List AObj → Prop}
theorem at86 : prog.funcs[86]? = some f86 := by kernel_rfl
theorem body86 : f86.body = some (codeOf f86) := by kernel_rfl
def pl86 : Plans := []
def ct86 : Cuts := .go
theorem pok86 : plansOk prog pl86 (codeOf f86) = true := by kernel_rfl
theorem e86 {a0 a1 : Value} : W prog J 34 h.length 86 (codeOf f86) (RG.mk (regs [a0, a1]) []) h (RetQ prog [.tmp 4] h.length K) =
(aBox a0 h fun v1 h2 =>
aLoad true 4 v1 h2 fun v3 =>
Good prog J 48 [v3] h2 fun v4 h5 =>
aBin prog .neq 39 v4 (vint 0) fun v6 =>
cnd v6
(retL h.length K [] [v4] h5)
(aLenS a1 fun v7 =>
Good prog J 70 [v7, (vint 1), (vint 5)] h5 fun v8 h9 =>
aBin prog .neq 39 v8 (vint 0) fun v10 =>
cnd v10
(retL h.length K [] [v8] h9)
(aLenS a1 fun v11 =>
Sem J 34 h.length 86 (subC [1, 1, 1, 0, 1, 0] (codeOf f86)) (RG.put (RG.put (RG.put (RG.put (RG.put (RG.put (RG.put (RG.put (RG.put (RG.put (RG.put (RG.put (RG.put (RG.put (RG.put (RG.put (RG.mk (regs [a0, a1]) []) 2 v1) 4 (vint 0)) 9 v3) 10 v4) 5 v4) 11 v4) 12 v6) 14 a1) 15 v7) 16 v8) 6 v8) 17 v8) 18 v10) 20 a1) 21 v11) 22 (vint 0)) h9 (contX pl86 prog J 34 h.length 86 ct86 [1, 1, 1, 0, 1, 0] (codeOf f86) [] (RetQ prog [.tmp 4] h.length K))))) := top_eq pok86 ct86 (by kernel_rfl)
theorem g86 (hJ : Closed prog main J) {a0 a1 : Value} (hs : heapOk h → W prog J 34 h.length 86 (codeOf f86) (RG.mk (regs [a0, a1]) []) h (RetQ prog [.tmp 4] h.length K)) : Good prog J 86 [a0, a1] h K :=
  good_of_W hJ mixed at86 body86 (by kernel_rfl) (Nat.le_of_ble_eq_true rfl) hs
theorem s86_1 {f : RG} {nx0 : RG → List AObj → Prop} : W prog J 34 n0 86 (subC [1, 1, 1, 0, 1, 0, 0] (codeOf f86)) f h (thenK nx0 (contX pl86 prog J 34 n0 86 ct86 [1, 1, 1, 0, 1, 0] (codeOf f86) [] (RetQ prog [.tmp 4] n0 K))) =
(aBin prog .lss 3 (f.r 22) (f.r 21) fun v1 =>
cnd v1
(aIdx 1 (f.r 20) (f.r 22) fun v2 =>
aLoad false 1 v2 h fun v3 =>
aOff (f.r 2) 3 fun v4 =>
aLoad false 1 v4 h fun v5 =>
aLenS v5 fun v6 =>
aBin prog .sub 3 v6 (vint 1) fun v7 =>
Good prog J 71 [v3, (vint (-1)), v7] h fun v8 h9 =>
aUn .not v8 fun v10 =>
cnd v10
(retL n0 K f.ds [(vint 3)] h9)
(aBin prog .add 3 (f.r 22) (vint 1) fun v11 =>
nx0 (RG.put (RG.put (RG.put (RG.put (RG.put (RG.put (RG.put (RG.put (RG.put (RG.put (RG.put (RG.put (RG.put f 23 v1) 24 v2) 25 v3) 8 v3) 26 v3) 27 v4) 28 v5) 29 v6) 30 v7) 31 v8) 32 v10) 33 v11) 22 v11) h9))
(retL n0 K f.ds [(vint 0)] h)) := sub_eq pok86 ct86 (by kernel_rfl)
theorem l86_1 (hJ : Closed prog main J) {S : Type} (μ : S → Nat) (I : S → RG → List AObj → Prop) (hI : ∀ s f h, I s f h → heapOk h → n0 ≤ h.length → W prog J 34 n0 86 (subC [1, 1, 1, 0, 1, 0, 0] (codeOf f86)) f h (thenK (Nx n0 μ I s) (contX pl86 prog J 34 n0 86 ct86 [1, 1, 1, 0, 1, 0] (codeOf f86) [] (RetQ prog [.tmp 4] n0 K))))
  {s : S} {f : RG} (hi : Gets n0 I s f h) : Sem J 34 n0 86 (subC [1, 1, 1, 0, 1, 0] (codeOf f86)) f h (contX pl86 prog J 34 n0 86 ct86 [1, 1, 1, 0, 1, 0] (codeOf f86) [] (RetQ prog [.tmp 4] n0 K)) :=
  loop_rule hJ mixed (b := subC [1, 1, 1, 0, 1, 0, 0] (codeOf f86)) (by kernel_rfl) μ I hI hi
theorem at89 : prog.funcs[89]? = some f89 := by kernel_rfl
theorem body89 : f89.body = some (codeOf f89) := by kernel_rfl
def pl89 : Plans := [(6, false, .take 0 (.take 1 (.take 2 (.take 3 (.take 4 (.take 5 (.take 6 (.last 7 true (.last 8 false (.fin))))))))))]
def ct89 : Cuts := .go
theorem pok89 : plansOk prog pl89 (codeOf f89) = true := by kernel_rfl
theorem e89 {a0 a1 : Value} : W prog J 34 h.length 89 (codeOf f89) (RG.mk (regs [a0, a1]) []) h (RetQ prog [.tmp 4] h.length K) =
(aBox a0 h fun v1 h2 =>
aBox a1 h2 fun v3 h4 =>
aNewM h4 fun v5 h6 =>
aAlloc [(Value.map none)] h6 fun v7 h8 =>
aStore 1 v7 v5 h8 fun h9 =>
aAlloc [(vint 0)] h9 fun v10 h11 =>
aStore 1 v10 (vint (-1)) h11 fun h12 =>
aLoad true 4 v1 h12 fun v13 =>
aLoad false 1 v3 h12 fun v14 =>
Good prog J 120 [v13, v14] h12 fun v15 h16 =>
Sem J 34 h.length 89 (subC [1, 0, 1, 1, 1, 0, 1, 0] (codeOf f89)) (RG.put (RG.put (RG.put (RG.put (RG.put (RG.put (RG.put (RG.put (RG.put (RG.mk (regs [a0, a1]) []) 2 v1) 3 v3) 4 (vint 0)) 10 v5) 5 v7) 6 v10) 11 v13) 12 v14) 13 v15) h16 (contX pl89 prog J 34 h.length 89 ct89 [1, 0, 1, 1, 1, 0, 1, 0] (codeOf f89) [] (RetQ prog [.tmp 4] h.length K))) := top_eq pok89 ct89 (by kernel_rfl)
theorem g89 (hJ : Closed prog main J) {a0 a1 : Value} (hs : heapOk h → W prog J 34 h.length 89 (codeOf f89) (RG.mk (regs [a0, a1]) []) h (RetQ prog [.tmp 4] h.length K)) : Good prog J 89 [a0, a1] h K :=
  good_of_W hJ mixed at89 body89 (by kernel_rfl) (Nat.le_of_ble_eq_true rfl) hs
theorem a89_1 {f : RG} {fr : FuncId} {Q : QT} : W prog J 34 n0 fr (subC [1, 0, 1, 1, 1, 0, 1, 0, 0] (codeOf f89)) f h Q =
(aAlloc [(vint 0), (vint 0), (Value.bool false)] h fun v1 h2 =>
aStore 3 v1 (f.r 15) h2 fun h3 =>
Q .normal (RG.put (RG.put f 7 (f.r 14)) 8 v1) h3) := sub_eq pok89 ct89 (by kernel_rfl)
theorem b89_1 {f : RG} {fr : FuncId} {Q : QT} : W prog J 34 n0 fr (subC [1, 0, 1, 1, 1, 0, 1, 0, 1] (codeOf f89)) f h Q =
((∃ B, aOff (f.r 8) 0 fun v1 =>
aLoad false 1 v1 h fun v2 =>
RdOk (some B) (ptrBlk v1) ∧ (aLoad false 1 (f.r 3) h fun v3 =>
RdOk (some B) (ptrBlk (f.r 3)) ∧ (aLenS v3 fun v4 =>
RdOk (some B) (mapBlk v3) ∧ (aBin prog .rem 3 (f.r 7) v4 fun v5 =>
aFill [(vint 0), (vint 0)] [(0, 1, v2), (1, 1, v5)] fun c6 =>
aAlloc [(vint 0), (vint 0)] h fun v7 h8 =>
SameB (some B) h h8 ∧ (aStore 2 v7 (Value.agg ⟨c6⟩) h8 fun h9 =>
aOff (f.r 8) 2 fun v10 =>
aLoad false 1 v10 h9 fun v11 =>
cnd v11
(aStore 1 (f.r 6) (f.r 7) h9 fun h12 =>
Q (.exit 0) (RG.put (RG.put (RG.put (RG.put (RG.put (RG.put (RG.put (RG.put (RG.put (RG.put (RG.put (RG.put f 16 v1) 17 v2) 18 (f.r 7)) 19 v3) 20 v4) 21 v5) 22 (Value.agg ⟨c6⟩)) 9 v7) 24 v10) 25 v11) 23 v11) 26 (f.r 7)) h12)
(aLoad false 1 (f.r 5) h9 fun v13 =>
aLoad true 2 v7 h9 fun v14 =>
aLook prog 134 false v13 v14 h9 fun v15 =>
cnd v15
(Q (.exit 0) (RG.put (RG.put (RG.put (RG.put (RG.put (RG.put (RG.put (RG.put (RG.put (RG.put (RG.put (RG.put (RG.put (RG.put (RG.put f 16 v1) 17 v2) 18 (f.r 7)) 19 v3) 20 v4) 21 v5) 22 (Value.agg ⟨c6⟩)) 9 v7) 24 v10) 25 v11) 23 v11) 28 v13) 29 v14) 30 v15) 27 v15) h9)
(aLoad false 1 (f.r 5) h9 fun v16 =>
aLoad true 2 v7 h9 fun v17 =>
((VOk h9.length (Value.bool true) ∧ one (Value.bool true) = true) ∧ aUpd prog 134 v16 v17 (Value.bool true) h9 fun h18 =>
Q .normal (RG.put (RG.put (RG.put (RG.put (RG.put (RG.put (RG.put (RG.put (RG.put (RG.put (RG.put (RG.put (RG.put (RG.put (RG.put (RG.put (RG.put f 16 v1) 17 v2) 18 (f.r 7)) 19 v3) 20 v4) 21 v5) 22 (Value.agg ⟨c6⟩)) 9 v7) 24 v10) 25 v11) 23 v11) 28 v13) 29 v14) 30 v15) 27 v15) 31 v16) 32 v17) h18))))))))) := sub_eq pok89 ct89 (by kernel_rfl)
theorem c89_1x0 {f : RG} : (contX pl89 prog J 34 n0 89 ct89 [1, 0, 1, 1, 1, 0, 1, 0] (codeOf f89) [] (RetQ prog [.tmp 4] n0 K)) (.exit 0) f h =
(aLoad false 1 (f.r 6) h fun v1 =>
retL n0 K f.ds [v1] h) := by kernel_rfl
theorem l89_1 (hJ : Closed prog main J) {f : RG} {g : FuncId} {first cap : List Value} (hx : ev f.r ((Go.Operand.tmp 13)) = .func (.func g) ⟨first⟩ ⟨cap⟩) (hg : g < prog.funcs.size)
  (hs : Good prog J g (first ++ [.func (.yield (h.length + 1)) ⟨[]⟩ ⟨[]⟩] ++ cap) (h ++ [.deferred] ++ [.loop .ready none 89 f.r 34 #[14, 15] (subC [1, 0, 1, 1, 1, 0, 1, 0, 0] (codeOf f89)) (subC [1, 0, 1, 1, 1, 0, 1, 0, 1] (codeOf f89)) h.length]) (endQ h.length f (contX pl89 prog J 34 n0 89 ct89 [1, 0, 1, 1, 1, 0, 1, 0] (codeOf f89) [] (RetQ prog [.tmp 4] n0 K)))) : Sem J 34 n0 89 (subC [1, 0, 1, 1, 1, 0, 1, 0] (codeOf f89)) f h (contX pl89 prog J 34 n0 89 ct89 [1, 0, 1, 1, 1, 0, 1, 0] (codeOf f89) [] (RetQ prog [.tmp 4] n0 K)) :=
  Sem_range hJ (by decide) (fop := (Go.Operand.tmp 13)) (params := #[14, 15]) (assign := subC [1, 0, 1, 1, 1, 0, 1, 0, 0] (codeOf f89)) (body := subC [1, 0, 1, 1, 1, 0, 1, 0, 1] (codeOf f89)) hx hg hs
end
end Go.Proofs.Ytindillghipjjaa

namespace Go.Proofs.Ytindillghipjjaa
open Go.Conc Go.Proofs.Try
set_option maxRecDepth 100000
set_option maxHeartbeats 4000000
set_option linter.unusedVariables false
section
variable {main : Bool} {J : JT} {n0 : Nat} {h : List AObj} {K : Value → List AObj → Prop}
theorem at120 : prog.funcs[120]? = some f120 := by kernel_rfl
theorem body120 : f120.body = some (codeOf f120) := by kernel_rfl
def pl120 : Plans := []
def ct120 : Cuts := .go
theorem pok120 : plansOk prog pl120 (codeOf f120) = true := by kernel_rfl
theorem e120 {a0 a1 : Value} : W prog J 6 h.length 120 (codeOf f120) (RG.mk (regs [a0, a1]) []) h (RetQ prog [.tmp 4] h.length K) =
(aBox a0 h fun v1 h2 =>
aBox a1 h2 fun v3 h4 =>
aMkF 131 [] [v1, v3] fun v5 =>
retL h.length K [] [v5] h4) := top_eq pok120 ct120 (by kernel_rfl)
theorem g120 (hJ : Closed prog main J) {a0 a1 : Value} (hs : heapOk h → W prog J 6 h.length 120 (codeOf f120) (RG.mk (regs [a0, a1]) []) h (RetQ prog [.tmp 4] h.length K)) : Good prog J 120 [a0, a1] h K :=
  good_of_W hJ mixed at120 body120 (by kernel_rfl) (Nat.le_of_ble_eq_true rfl) hs
end
end Go.Proofs.Ytindillghipjjaa

namespace Go.Proofs.Ytindillghipjjaa
open Go.Conc Go.Proofs.Try
set_option maxRecDepth 100000
set_option maxHeartbeats 4000000
set_option linter.unusedVariables false
section
variable {main : Bool} {J : JT} {n0 : Nat} {h : List AObj} {K : Value → List AObj → Prop}
theorem at131 : prog.funcs[131]? = some f131 := by kernel_rfl
theorem body131 : f131.body = some (codeOf f131) := by kernel_rfl
def pl131 : Plans := [(4, true, .take 0 (.take 1 (.take 2 (.take 3 (.take 4 (.take 5 (.take 6 (.take 7 (.fin)))))))))]
def ct131 : Cuts := .bin (.go) (.bin (.go) (.un (.un (.bin (.un (.bin (.go) (.bin (.go) (.cut (.go))))) (.go)))))
theorem pok131 : plansOk prog pl131 (codeOf f131) = true := by kernel_rfl
theorem e131 {a0 a1 a2 : Value} : W prog J 55 h.length 131 (codeOf f131) (RG.mk (regs [a0, a1, a2]) []) h (RetQ prog [] h.length K) =
(aOff a1 0 fun v1 =>
aLoad true 3 v1 h fun v2 =>
aFill [(vint 0), (vint 0), (vint 0)] [(0, 3, v2)] fun c3 =>
aAlloc [(vint 0), (vint 0), (vint 0)] h fun v4 h5 =>
aStore 3 v4 (Value.agg ⟨c3⟩) h5 fun h6 =>
Sem J 55 h.length 131 (subC [1, 1, 0] (codeOf f131)) (RG.put (RG.put (RG.put (RG.put (RG.put (RG.put (RG.put (RG.mk (regs [a0, a1, a2]) []) 11 v1) 12 v2) 13 (Value.agg ⟨c3⟩)) 4 v4) 5 (Value.func (.func 82) #[] #[])) 6 (Value.func (.func 79) #[] #[])) 7 (vint 0)) h6 (contX pl131 prog J 55 h.length 131 ct131 [1, 1, 0] (codeOf f131) [] (RetQ prog [] h.length K))) := top_eq pok131 ct131 (by kernel_rfl)
theorem g131 (hJ : Closed prog main J) {a0 a1 a2 : Value} (hs : heapOk h → W prog J 55 h.length 131 (codeOf f131) (RG.mk (regs [a0, a1, a2]) []) h (RetQ prog [] h.length K)) : Good prog J 131 [a0, a1, a2] h K :=
  good_of_W hJ mixed at131 body131 (by kernel_rfl) (Nat.le_of_ble_eq_true rfl) hs
theorem s131_1 {f : RG} {nx0 : RG → List AObj → Prop} : W prog J 55 n0 131 (subC [1, 1, 0, 0] (codeOf f131)) f h (thenK nx0 (contX pl131 prog J 55 n0 131 ct131 [1, 1, 0] (codeOf f131) [] (RetQ prog [] n0 K))) =
(aLoad false 1 (f.r 2) h fun v1 =>
aLoad false 1 (f.r 2) h fun v2 =>
aLenS v2 fun v3 =>
aBin prog .rem 3 (f.r 7) v3 fun v4 =>
aIdx 1 v1 v4 fun v5 =>
aLoad false 1 v5 h fun v6 =>
aBin prog .geq 3 v6 (vint 0) fun v7 =>
cnd v7
(aOff (f.r 1) 3 fun v8 =>
aLoad false 1 v8 h fun v9 =>
aIdx 2 v9 v6 fun v10 =>
aOff v10 0 fun v11 =>
aLoad false 1 v11 h fun v12 =>
Hold (W prog J 55 n0 131 (subC [1, 1, 0, 0, 0, 0, 1, 1] (codeOf f131)) (RG.put (RG.put (RG.put (RG.put (RG.put (RG.put (RG.put (RG.put (RG.put (RG.put (RG.put (RG.put (RG.put (RG.put (RG.put (RG.put (RG.put (RG.put f 8 (vint 0)) 16 v1) 17 (f.r 7)) 18 v2) 19 v3) 20 v4) 21 v5) 22 v6) 9 v6) 23 v6) 24 v7) 25 v8) 26 v9) 27 v6) 28 v10) 29 v11) 30 v12) 8 v12) h (contX pl131 prog J 55 n0 131 ct131 [1, 1, 0, 0, 0, 0, 1, 1] (codeOf f131) [nx0] (RetQ prog [] n0 K))))
(Hold (W prog J 55 n0 131 (subC [1, 1, 0, 0, 0, 0, 1, 1] (codeOf f131)) (RG.put (RG.put (RG.put (RG.put (RG.put (RG.put (RG.put (RG.put (RG.put (RG.put (RG.put f 8 (vint 0)) 16 v1) 17 (f.r 7)) 18 v2) 19 v3) 20 v4) 21 v5) 22 v6) 9 v6) 23 v6) 24 v7) h (contX pl131 prog J 55 n0 131 ct131 [1, 1, 0, 0, 0, 0, 1, 1] (codeOf f131) [nx0] (RetQ prog [] n0 K))))) := sub_eq pok131 ct131 (by kernel_rfl)
theorem l131_1 (hJ : Closed prog main J) {S : Type} (μ : S → Nat) (I : S → RG → List AObj → Prop) (hI : ∀ s f h, I s f h → heapOk h → n0 ≤ h.length → W prog J 55 n0 131 (subC [1, 1, 0, 0] (codeOf f131)) f h (thenK (Nx n0 μ I s) (contX pl131 prog J 55 n0 131 ct131 [1, 1, 0] (codeOf f131) [] (RetQ prog [] n0 K))))
  {s : S} {f : RG} (hi : Gets n0 I s f h) : Sem J 55 n0 131 (subC [1, 1, 0] (codeOf f131)) f h (contX pl131 prog J 55 n0 131 ct131 [1, 1, 0] (codeOf f131) [] (RetQ prog [] n0 K)) :=
  loop_rule hJ mixed (b := subC [1, 1, 0, 0] (codeOf f131)) (by kernel_rfl) μ I hI hi
theorem s131_2 {f : RG} {nx0 : RG → List AObj → Prop} : W prog J 55 n0 131 (subC [1, 1, 0, 0, 0, 0, 1, 1] (codeOf f131)) f h (contX pl131 prog J 55 n0 131 ct131 [1, 1, 0, 0, 0, 0, 1, 1] (codeOf f131) [nx0] (RetQ prog [] n0 K)) =
(aOff (f.r 4) 0 fun v1 =>
aOff v1 0 fun v2 =>
aLoad false 1 v2 h fun v3 =>
aFill [(vint 0), (vint 0), (Value.bool false)] [(0, 1, v3)] fun c4 =>
aAlloc [(vint 0), (vint 0), (Value.bool false)] h fun v5 h6 =>
aStore 3 v5 (Value.agg ⟨c4⟩) h6 fun h7 =>
aLoad true 3 (f.r 4) h7 fun v8 =>
callV prog (Good prog J) (f.r 5) [v8, (f.r 8)] h7 fun v9 h10 =>
aExt v9 0 fun v11 =>
aExt v9 1 fun v12 =>
aStore 3 (f.r 4) v11 h10 fun h13 =>
aOff v5 2 fun v14 =>
aStore 1 v14 v12 h13 fun h15 =>
aLoad true 3 (f.r 4) h15 fun v16 =>
callV prog (Good prog J) (f.r 6) [v16] h15 fun v17 h18 =>
aStore 3 (f.r 4) v17 h18 fun h19 =>
aOff (f.r 4) 0 fun v20 =>
aOff v20 0 fun v21 =>
aLoad false 1 v21 h19 fun v22 =>
aOff v5 1 fun v23 =>
aStore 1 v23 v22 h19 fun h24 =>
aLoad true 3 v5 h24 fun v25 =>
callV prog (Good prog J) (f.r 0) [(f.r 7), v25] h24 fun v26 h27 =>
aUn .not v26 fun v28 =>
cnd v28
(retL n0 K f.ds [] h27)
(aBin prog .add 3 (f.r 7) (vint 1) fun v29 =>
nx0 (RG.put (RG.put (RG.put (RG.put (RG.put (RG.put (RG.put (RG.put (RG.put (RG.put (RG.put (RG.put (RG.put (RG.put (RG.put (RG.put (RG.put (RG.put (RG.put (RG.put (RG.put (RG.put (RG.put (RG.put (RG.put (RG.put (RG.put (RG.put f 31 v1) 32 v2) 33 v3) 34 (Value.agg ⟨c4⟩)) 10 v5) 36 (f.r 5)) 37 v8) 38 (f.r 8)) 39 v9) 35 v9) 40 v11) 41 v12) 42 v14) 43 (f.r 6)) 44 v16) 45 v17) 46 v20) 47 v21) 48 v22) 49 v23) 50 (f.r 0)) 51 (f.r 7)) 52 v25) 53 v26) 54 v28) 14 (f.r 7)) 15 v29) 7 v29) h27)) := sub_eq pok131 ct131 (by kernel_rfl)
end
end Go.Proofs.Ytindillghipjjaa

namespace Go.Proofs.Ytindillghipjjaa
open Go.Conc Go.Proofs.Try
set_option maxRecDepth 100000
def rotaE (t : Tro) (rota : List Int) : Int := if troE t ≠ 0 then troE t else if fewE rota.length 1 5 ≠ 0 then fewE rota.length 1 5 else if ∀ r ∈ rota, -1 ≤ r ∧ r ≤ (t.flocks.length : Int) - 1 then 0 else 3

section
variable {main : Bool} {J : JT} {h : List AObj} {K : Value → List AObj → Prop}
theorem good86 (hJ : Closed prog main J) {v fv rv : Value} {t : Tro} {rota : List Int} (ht : TroAt h v t fv) (hr : Sli h rv 1 rota.length (rota.map vint)) (hl : t.flocks.length ≤ 1000000) (hK : K (vint (rotaE t rota)) h) : Good prog J 86 [v, rv] h K := by
  refine g86 hJ fun ok => ?_
  rw [e86, ht.val]
  refine qBox (tro_one ht) fun H1 p2 e1 S1 c1 l1 => ?_
  have t1 : TroAt H1 (.agg ⟨troCells t fv⟩) t fv := ⟨rfl, S1.sli ht.fl (by simp)⟩
  have kf := (sli_val ht.fl).2.2
  have r1 : Sli H1 rv 1 rota.length (rota.map vint) := S1.sli hr (by simp)
  have fin : ∀ (e : Int) (n0 : Nat), n0 = h.length → rotaE t rota = e → retL n0 K [] [vint e] H1 := fun e n0 hn he => by
    subst he hn
    exact retX ok (Nat.le_refl _) S1 (by simp) (by simp [unk]) (by simp [pack, VOk]) hK
  refine load_part (c := troCells t fv) c1 (by simp [troCells]) rfl (by simp [kn, troCells, kf]; exact ⟨rfl, rfl, rfl⟩) (good48 hJ t1 ?_)
  refine neqI (cndI (fun g1 => fin _ _ rfl (by unfold rotaE; rw [if_pos g1])) fun g1 => ?_)
  refine lenI r1 (good70 hJ (neqI (cndI (fun g2 => fin _ _ rfl (by unfold rotaE; rw [if_neg g1, if_pos g2])) fun g2 => lenI r1 ?_)))
  have hlen : rota.length ≤ 5 := by
    have g2 : fewE rota.length 1 5 = 0 := by omega
    unfold fewE at g2
    split at g2
    · cases g2
    · split at g2
      · cases g2
      · omega
  refine l86_1 hJ (fun i : Nat => rota.length - i) (fun i f H => H1 = H ∧ i ≤ rota.length ∧ (∀ r ∈ rota.take i, -1 ≤ r ∧ r ≤ (t.flocks.length : Int) - 1) ∧ f.ds = [] ∧ f.r 2 = ptr p2 0 ∧ f.r 20 = rv ∧ f.r 21 = vint (rota.length : Nat) ∧ f.r 22 = vint (i : Nat)) ?_ (s := 0)
    (.inl ⟨rfl, by omega, by simp, rfl, rfl, rfl, rfl, rfl⟩)
  rintro i f H ⟨e, hi, hd, ds, r2, r20, r21, r22⟩ _ _
  subst e
  rw [s86_1, ds, r2, r20, r21, r22]
  refine lssI (cndI (fun g => ?_) fun g => fin 0 _ rfl ?_)
  · have hil : i < rota.length := by omega
    have hx := List.getElem?_eq_getElem hil
    refine sli_num' r1 hx fun q => offI (ldI (v := fv) c1 rfl kf (lenI t1.fl (subI (by omega) (good71 hJ (notI (cndN (fun g3 => fin 3 _ rfl ?_) fun g3 => addI (by omega) ?_))))))
    · unfold rotaE
      rw [if_neg g1, if_neg g2, if_neg fun y => g3 (y _ (List.getElem_mem hil))]
    · refine ⟨i + 1, by show rota.length - (i + 1) < rota.length - i; omega, .inl ⟨rfl, by omega, ?_, ds, r2, r20, r21, ?_⟩⟩
      · intro c hcm
        rw [List.take_add_one, hx] at hcm
        rcases List.mem_append.1 hcm with y | y
        · exact hd c y
        · simp at y
          subst y
          exact g3
      · show vint _ = vint _
        congr 1
  · have hin : i = rota.length := by omega
    subst hin
    rw [List.take_length] at hd
    unfold rotaE
    rw [if_neg g1, if_neg g2, if_pos hd]
end
end Go.Proofs.Ytindillghipjjaa

namespace Go.Proofs.Ytindillghipjjaa
open Go.Conc Go.Proofs.Try
set_option maxRecDepth 100000
set_option maxHeartbeats 4000000
set_option linter.unusedVariables false
section
variable {main : Bool} {J : JT} {n0 : Nat} {h : List AObj} {K : Value → List AObj → Prop}
theorem at30 : prog.funcs[30]? = some f30 := by kernel_rfl
theorem body30 : f30.body = some (codeOf f30) := by kernel_rfl
def pl30 : Plans := [(2, false, .take 0 (.take 1 (.take 2 (.take 3 (.take 4 (.take 5 (.take 9 (.take 10 (.last 6 true (.last 7 true (.last 8 true (.take 14 (.last 11 true (.last 12 true (.last 13 true (.last 15 false (.take 16 (.last 17 false (.fin)))))))))))))))))))]
def ct30 : Cuts := .go
theorem pok30 : plansOk prog pl30 (codeOf f30) = true := by kernel_rfl
theorem e30 {a0 a1 : Value} : W prog J 29 h.length 30 (codeOf f30) (RG.mk (regs [a0, a1]) []) h (RetQ prog [.cell 4 23] h.length K) =
(aAlloc [(vint 0), (vint 0), (vint 0)] h fun v1 h2 =>
aMin a1 [(vint 40)] fun v3 =>
aMax (vint 2) [v3] fun v4 =>
Good prog J 33 [a0, (vint 2), v4] h2 fun v5 h6 =>
aFill [(vint 0), (vint 0), (vint 0)] [(1, 1, v5)] fun c7 =>
aAlloc [(vint 0), (vint 0), (vint 0)] h6 fun v8 h9 =>
aStore 3 v8 (Value.agg ⟨c7⟩) h9 fun h10 =>
(∃ B, aOff v8 1 fun v11 =>
aLoad false 1 v11 h10 fun v12 =>
RdOk (some B) (ptrBlk v11) ∧ (aOff v8 1 fun v13 =>
aLoad false 1 v13 h10 fun v14 =>
RdOk (some B) (ptrBlk v13) ∧ (Good prog J 23 [a0, v14] h10 fun v15 h16 =>
SameB (some B) h10 h16 ∧ ((((1 * 1 : Nat) ≤ 16777216 ∧ (1 : Nat) ≤ 16777216 ∧ List.length [(vint 0)] = 1) ∧ aFill (zrep [(vint 0)] 1) [(0, 1, v15)] fun c17 =>
aNewS 1 c17 h16 fun v18 h19 =>
SameB (some B) h10 h19 ∧ (Good prog J 22 [a0, v12, v18] h19 fun v20 h21 =>
SameB (some B) h10 h21 ∧ (aOff v8 0 fun v22 =>
Good prog J 23 [a0, (vint 6)] h21 fun v23 h24 =>
SameB (some B) h10 h24 ∧ ((((3 * 1 : Nat) ≤ 16777216 ∧ (3 : Nat) ≤ 16777216 ∧ List.length [(vint 0)] = 1) ∧ aFill (zrep [(vint 0)] 3) [(0, 1, (vint 2)), (1, 1, (vint 3)), (2, 1, v23)] fun c25 =>
aNewS 3 c25 h24 fun v26 h27 =>
SameB (some B) h10 h27 ∧ (Good prog J 22 [a0, (vint 1), v26] h27 fun v28 h29 =>
SameB (some B) h10 h29 ∧ (aStore 1 v22 v20 h29 fun h30 =>
aOff v8 2 fun v31 =>
aStore 1 v31 v28 h30 fun h32 =>
aLoad true 3 v8 h32 fun v33 =>
aStore 3 v1 v33 h32 fun h34 =>
RetQ prog [.cell 4 23] h.length K .ret (RG.put (RG.put (RG.put (RG.put (RG.put (RG.put (RG.put (RG.put (RG.put (RG.put (RG.put (RG.put (RG.put (RG.put (RG.put (RG.put (RG.put (RG.put (RG.put (RG.put (RG.put (RG.put (RG.put (RG.put (RG.put (RG.mk (regs [a0, a1]) []) 4 v1) 6 a0) 7 a1) 8 v3) 9 v4) 10 v5) 11 (Value.agg ⟨c7⟩)) 5 v8) 12 a0) 13 v11) 14 v12) 15 a0) 16 v13) 17 v14) 21 a0) 22 a0) 18 v15) 19 v18) 20 v20) 26 v22) 23 v23) 24 v26) 25 v28) 27 v31) 28 v33) h34)))))))))))) := top_eq pok30 ct30 (by kernel_rfl)
theorem g30 (hJ : Closed prog main J) {a0 a1 : Value} (hs : heapOk h → W prog J 29 h.length 30 (codeOf f30) (RG.mk (regs [a0, a1]) []) h (RetQ prog [.cell 4 23] h.length K)) : Good prog J 30 [a0, a1] h K :=
  good_of_W hJ mixed at30 body30 (by kernel_rfl) (Nat.le_of_ble_eq_true rfl) hs
theorem at21 : prog.funcs[21]? = some f21 := by kernel_rfl
theorem body21 : f21.body = some (codeOf f21) := by kernel_rfl
def pl21 : Plans := [(5, false, .take 0 (.take 1 (.take 2 (.take 3 (.take 4 (.take 5 (.take 6 (.take 7 (.take 8 (.take 10 (.take 11 (.take 12 (.take 13 (.take 17 (.last 9 true (.last 14 true (.last 15 true (.last 16 true (.last 18 true (.take 19 (.last 20 true (.last 21 true (.take 22 (.last 23 false (.fin)))))))))))))))))))))))))]
def ct21 : Cuts := .go
theorem pok21 : plansOk prog pl21 (codeOf f21) = true := by kernel_rfl
theorem e21 {a0 a1 a2 : Value} : W prog J 45 h.length 21 (codeOf f21) (RG.mk (regs [a0, a1, a2]) []) h (RetQ prog [.cell 6 26] h.length K) =
(aAlloc [(vint 0), (vint 0), (vint 0), (Value.slice none 0 0)] h fun v1 h2 =>
Good prog J 30 [a0, a2] h2 fun v3 h4 =>
aFill [(vint 0), (vint 0), (vint 0), (Value.slice none 0 0)] [(0, 3, v3)] fun c5 =>
aAlloc [(vint 0), (vint 0), (vint 0), (Value.slice none 0 0)] h4 fun v6 h7 =>
aStore 4 v6 (Value.agg ⟨c5⟩) h7 fun h8 =>
aMin a1 [(vint 3)] fun v9 =>
Good prog J 33 [a0, (vint 1), v9] h8 fun v10 h11 =>
Sem J 45 h.length 21 (subC [1, 1, 0, 1, 0] (codeOf f21)) (RG.put (RG.put (RG.put (RG.put (RG.put (RG.put (RG.put (RG.put (RG.put (RG.put (RG.put (RG.mk (regs [a0, a1, a2]) []) 6 v1) 9 a0) 10 a2) 11 v3) 12 (Value.agg ⟨c5⟩)) 7 v6) 13 a0) 14 a1) 15 v9) 16 v10) 8 v10) h11 (contX pl21 prog J 45 h.length 21 ct21 [1, 1, 0, 1, 0] (codeOf f21) [] (RetQ prog [.cell 6 26] h.length K))) := top_eq pok21 ct21 (by kernel_rfl)
theorem g21 (hJ : Closed prog main J) {a0 a1 a2 : Value} (hs : heapOk h → W prog J 45 h.length 21 (codeOf f21) (RG.mk (regs [a0, a1, a2]) []) h (RetQ prog [.cell 6 26] h.length K)) : Good prog J 21 [a0, a1, a2] h K :=
  good_of_W hJ mixed at21 body21 (by kernel_rfl) (Nat.le_of_ble_eq_true rfl) hs
theorem s21_1 {f : RG} {nx0 : RG → List AObj → Prop} : W prog J 45 n0 21 (subC [1, 1, 0, 1, 0, 0] (codeOf f21)) f h (thenK nx0 (contX pl21 prog J 45 n0 21 ct21 [1, 1, 0, 1, 0] (codeOf f21) [] (RetQ prog [.cell 6 26] n0 K))) =
(aBin prog .gtr 3 (f.r 8) (vint 0) fun v1 =>
cnd v1
((∃ B, aOff (f.r 7) 3 fun v2 =>
aLoad false 1 v2 h fun v3 =>
RdOk (some B) (ptrBlk v2) ∧ (aOff (f.r 7) 0 fun v4 =>
aOff v4 1 fun v5 =>
aLoad false 1 v5 h fun v6 =>
RdOk (some B) (ptrBlk v5) ∧ (aBin prog .quo 3 v6 (vint 2) fun v7 =>
aMax (vint 1) [v7] fun v8 =>
aOff (f.r 7) 0 fun v9 =>
aOff v9 1 fun v10 =>
aLoad false 1 v10 h fun v11 =>
RdOk (some B) (ptrBlk v10) ∧ (Good prog J 33 [(f.r 0), (vint 1), v8] h fun v12 h13 =>
SameB (some B) h h13 ∧ (Good prog J 33 [(f.r 0), (vint 1), v11] h13 fun v14 h15 =>
SameB (some B) h h15 ∧ ((((3 * 1 : Nat) ≤ 16777216 ∧ (3 : Nat) ≤ 16777216 ∧ List.length [(vint 0)] = 1) ∧ aFill (zrep [(vint 0)] 3) [(0, 1, (vint 2)), (1, 1, v12), (2, 1, v14)] fun c16 =>
aNewS 3 c16 h15 fun v17 h18 =>
SameB (some B) h h18 ∧ (Good prog J 22 [(f.r 0), (vint 1), v17] h18 fun v19 h20 =>
SameB (some B) h h20 ∧ (Good prog J 33 [(f.r 0), (vint 1), (vint 6)] h20 fun v21 h22 =>
SameB (some B) h h22 ∧ (aFill [(vint 0), (vint 0)] [(0, 1, v19), (1, 1, v21)] fun c23 =>
(((1 * 2 : Nat) ≤ 16777216 ∧ (1 : Nat) ≤ 16777216 ∧ List.length [(vint 0), (vint 0)] = 2) ∧ aFill (zrep [(vint 0), (vint 0)] 1) [(0, 2, (Value.agg ⟨c23⟩))] fun c24 =>
aNewS 1 c24 h22 fun v25 h26 =>
SameB (some B) h h26 ∧ (((List.length [(vint 0), (vint 0)] = 2 ∧ 0 < (2 : Nat) ∧ 0 < (16 : Nat) ∧ (16 : Nat) ≤ 1024) ∧ aApp 2 v3 v25 h26 fun v27 h28 =>
SameB (some B) h h28 ∧ (aOff (f.r 7) 3 fun v29 =>
aStore 1 v29 v27 h28 fun h30 =>
aBin prog .sub 3 (f.r 8) (vint 1) fun v31 =>
nx0 (RG.put (RG.put (RG.put (RG.put (RG.put (RG.put (RG.put (RG.put (RG.put (RG.put (RG.put (RG.put (RG.put (RG.put (RG.put (RG.put (RG.put (RG.put (RG.put (RG.put (RG.put (RG.put (RG.put (RG.put (RG.put (RG.put (RG.put (RG.put f 17 (f.r 8)) 18 v1) 21 v2) 22 v3) 23 (f.r 0)) 24 (f.r 0)) 25 v4) 26 v5) 27 v6) 28 v7) 29 v8) 31 (f.r 0)) 32 v9) 33 v10) 34 v11) 38 (f.r 0)) 30 v12) 35 v14) 36 v17) 37 v19) 39 v21) 40 (Value.agg ⟨c23⟩)) 41 v25) 42 v27) 43 v29) 19 (f.r 8)) 20 v31) 8 v31) h30)))))))))))))))
(aLoad true 4 (f.r 7) h fun v32 =>
aStore 4 (f.r 6) v32 h fun h33 =>
RetQ prog [.cell 6 26] n0 K .ret (RG.put (RG.put (RG.put f 17 (f.r 8)) 18 v1) 44 v32) h33)) := sub_eq pok21 ct21 (by kernel_rfl)
theorem l21_1 (hJ : Closed prog main J) {S : Type} (μ : S → Nat) (I : S → RG → List AObj → Prop) (hI : ∀ s f h, I s f h → heapOk h → n0 ≤ h.length → W prog J 45 n0 21 (subC [1, 1, 0, 1, 0, 0] (codeOf f21)) f h (thenK (Nx n0 μ I s) (contX pl21 prog J 45 n0 21 ct21 [1, 1, 0, 1, 0] (codeOf f21) [] (RetQ prog [.cell 6 26] n0 K))))
  {s : S} {f : RG} (hi : Gets n0 I s f h) : Sem J 45 n0 21 (subC [1, 1, 0, 1, 0] (codeOf f21)) f h (contX pl21 prog J 45 n0 21 ct21 [1, 1, 0, 1, 0] (codeOf f21) [] (RetQ prog [.cell 6 26] n0 K)) :=
  loop_rule hJ mixed (b := subC [1, 1, 0, 1, 0, 0] (codeOf f21)) (by kernel_rfl) μ I hI hi
theorem at36 : prog.funcs[36]? = some f36 := by kernel_rfl
theorem body36 : f36.body = some (codeOf f36) := by kernel_rfl
def pl36 : Plans := []
def ct36 : Cuts := .go
theorem pok36 : plansOk prog pl36 (codeOf f36) = true := by kernel_rfl
theorem e36 {a0 a1 a2 : Value} : W prog J 27 h.length 36 (codeOf f36) (RG.mk (regs [a0, a1, a2]) []) h (RetQ prog [.tmp 6] h.length K) =
(aBox a1 h fun v1 h2 =>
aMin a2 [(vint 5)] fun v3 =>
Good prog J 33 [a0, (vint 1), v3] h2 fun v4 h5 =>
Sem J 27 h.length 36 (subC [1, 1, 0, 1, 0] (codeOf f36)) (RG.put (RG.put (RG.put (RG.put (RG.put (RG.put (RG.put (RG.put (RG.mk (regs [a0, a1, a2]) []) 4 v1) 6 (Value.slice none 0 0)) 7 (Value.slice none 0 0)) 9 a0) 10 a2) 11 v3) 12 v4) 8 v4) h5 (contX pl36 prog J 27 h.length 36 ct36 [1, 1, 0, 1, 0] (codeOf f36) [] (RetQ prog [.tmp 6] h.length K))) := top_eq pok36 ct36 (by kernel_rfl)
theorem g36 (hJ : Closed prog main J) {a0 a1 a2 : Value} (hs : heapOk h → W prog J 27 h.length 36 (codeOf f36) (RG.mk (regs [a0, a1, a2]) []) h (RetQ prog [.tmp 6] h.length K)) : Good prog J 36 [a0, a1, a2] h K :=
  good_of_W hJ mixed at36 body36 (by kernel_rfl) (Nat.le_of_ble_eq_true rfl) hs
theorem s36_1 {f : RG} {nx0 : RG → List AObj → Prop} : W prog J 27 n0 36 (subC [1, 1, 0, 1, 0, 0] (codeOf f36)) f h (thenK nx0 (contX pl36 prog J 27 n0 36 ct36 [1, 1, 0, 1, 0] (codeOf f36) [] (RetQ prog [.tmp 6] n0 K))) =
(aBin prog .gtr 3 (f.r 8) (vint 0) fun v1 =>
cnd v1
(aOff (f.r 4) 3 fun v2 =>
aLoad false 1 v2 h fun v3 =>
aLenS v3 fun v4 =>
Good prog J 23 [(f.r 0), v4] h fun v5 h6 =>
aBin prog .sub 3 v5 (vint 1) fun v7 =>
(((1 * 1 : Nat) ≤ 16777216 ∧ (1 : Nat) ≤ 16777216 ∧ List.length [(vint 0)] = 1) ∧ aFill (zrep [(vint 0)] 1) [(0, 1, v7)] fun c8 =>
aNewS 1 c8 h6 fun v9 h10 =>
((List.length [(vint 0)] = 1 ∧ 0 < (1 : Nat) ∧ 0 < (8 : Nat) ∧ (8 : Nat) ≤ 1024) ∧ aApp 1 (f.r 7) v9 h10 fun v11 h12 =>
aBin prog .sub 3 (f.r 8) (vint 1) fun v13 =>
nx0 (RG.put (RG.put (RG.put (RG.put (RG.put (RG.put (RG.put (RG.put (RG.put (RG.put (RG.put (RG.put (RG.put (RG.put (RG.put f 13 (f.r 8)) 14 v1) 17 (f.r 7)) 18 (f.r 0)) 19 v2) 20 v3) 21 v4) 22 v5) 23 v7) 24 v9) 25 v11) 7 v11) 15 (f.r 8)) 16 v13) 8 v13) h12)))
(retL n0 K f.ds [(f.r 7)] h)) := sub_eq pok36 ct36 (by kernel_rfl)
theorem l36_1 (hJ : Closed prog main J) {S : Type} (μ : S → Nat) (I : S → RG → List AObj → Prop) (hI : ∀ s f h, I s f h → heapOk h → n0 ≤ h.length → W prog J 27 n0 36 (subC [1, 1, 0, 1, 0, 0] (codeOf f36)) f h (thenK (Nx n0 μ I s) (contX pl36 prog J 27 n0 36 ct36 [1, 1, 0, 1, 0] (codeOf f36) [] (RetQ prog [.tmp 6] n0 K))))
  {s : S} {f : RG} (hi : Gets n0 I s f h) : Sem J 27 n0 36 (subC [1, 1, 0, 1, 0] (codeOf f36)) f h (contX pl36 prog J 27 n0 36 ct36 [1, 1, 0, 1, 0] (codeOf f36) [] (RetQ prog [.tmp 6] n0 K)) :=
  loop_rule hJ mixed (b := subC [1, 1, 0, 1, 0, 0] (codeOf f36)) (by kernel_rfl) μ I hI hi
end
end Go.Proofs.Ytindillghipjjaa

namespace Go.Proofs.Ytindillghipjjaa
open Go.Conc Go.Proofs.Try
def drinkOf (t : Tro) (who : Int) : Int := if 0 ≤ who then (droAt t who.toNat).drinks else 0
def nextL (t : Tro) (who now : Int) : Int := min t.well.holds (now - min now (drinkOf t who) + t.well.fill)
def turnOf (r : List Int) (h : Nat) : Int := r.getD (h % r.length) 0
def lvl (t : Tro) (r : List Int) : Nat → Int
  | 0 => t.well.now
  | h + 1 => nextL t (turnOf r h) (lvl t r h)
def dry (t : Tro) (r : List Int) (h : Nat) : Prop := lvl t r h < drinkOf t (turnOf r h)
instance (t : Tro) (r : List Int) (h : Nat) : Decidable (dry t r h) := by unfold dry; infer_instance

structure TroFine (t : Tro) : Prop where
  holds : 1 ≤ t.well.holds ∧ t.well.holds ≤ 40
  now : 0 ≤ t.well.now ∧ t.well.now ≤ t.well.holds
  fill : 0 ≤ t.well.fill ∧ t.well.fill ≤ 20
  len : 1 ≤ t.flocks.length ∧ t.flocks.length ≤ 3
  dro : ∀ d ∈ t.flocks, droOk d
theorem troE_fine {t : Tro} (h : troE t = 0) : TroFine t := by
  obtain ⟨⟨a, b, c⟩, d, e⟩ := troE_well h
  exact ⟨a, b, c, d, e⟩
theorem fine_troE {t : Tro} (f : TroFine t) : troE t = 0 := by
  have h1 : welE t.well = 0 := by unfold welE; rw [if_pos ⟨f.holds, f.now, f.fill⟩]
  have h2 : fewE t.flocks.length 1 3 = 0 := by
    have := f.len
    unfold fewE
    rw [if_neg (by omega), if_neg (by omega)]
  unfold troE
  rw [if_neg (by omega), if_neg (by omega), if_pos f.dro]

structure RotaFine (t : Tro) (r : List Int) : Prop where
  len : 1 ≤ r.length ∧ r.length ≤ 5
  who : ∀ n ∈ r, -1 ≤ n ∧ n < t.flocks.length

section
variable {t x : Tro} {r : List Int} {h k a b : Nat}
theorem droAt_mem {i : Nat} (hi : i < t.flocks.length) : droAt t i = t.flocks[i] := by
  unfold droAt
  rw [List.getD_eq_getElem?_getD, List.getElem?_eq_getElem hi]
  rfl
theorem drink_bd (f : TroFine t) (who : Int) : 0 ≤ drinkOf t who ∧ drinkOf t who ≤ 40 := by
  unfold drinkOf
  split
  · rcases Nat.lt_or_ge who.toNat t.flocks.length with hi | hi
    · rw [droAt_mem hi]
      have := (f.dro _ (List.getElem_mem hi)).1
      omega
    · unfold droAt
      rw [List.getD_eq_getElem?_getD, List.getElem?_eq_none hi]
      exact ⟨Int.le_refl _, by decide⟩
  · omega
theorem turnOf_mem (hr : r ≠ []) (h : Nat) : turnOf r h ∈ r := by
  have hp : 0 < r.length := by cases r <;> simp at hr ⊢
  have := Nat.mod_lt h hp
  unfold turnOf
  rw [List.getD_eq_getElem?_getD, List.getElem?_eq_getElem this]
  exact List.getElem_mem this
theorem nextL_bd (f : TroFine t) {who now : Int} (h0 : 0 ≤ now) (h1 : now ≤ t.well.holds) : 0 ≤ nextL t who now ∧ nextL t who now ≤ t.well.holds := by
  have := drink_bd f who
  have := f.holds
  have := f.fill
  unfold nextL
  omega
theorem lvl_bd (f : TroFine t) : ∀ h : Nat, 0 ≤ lvl t r h ∧ lvl t r h ≤ t.well.holds
  | 0 => f.now
  | h + 1 => nextL_bd f (lvl_bd f h).1 (lvl_bd f h).2

theorem turnOf_congr (hm : a % r.length = b % r.length) (k : Nat) : turnOf r (a + k) = turnOf r (b + k) := by
  unfold turnOf
  rw [Nat.add_mod a, Nat.add_mod b, hm]
theorem lvl_congr (hl : lvl t r a = lvl t r b) (hm : a % r.length = b % r.length) : ∀ k : Nat, lvl t r (a + k) = lvl t r (b + k)
  | 0 => hl
  | k + 1 => by
    show nextL t (turnOf r (a + k)) (lvl t r (a + k)) = nextL t (turnOf r (b + k)) (lvl t r (b + k))
    rw [lvl_congr hl hm k, turnOf_congr hm k]
theorem dry_congr (hl : lvl t r a = lvl t r b) (hm : a % r.length = b % r.length) (k : Nat) : dry t r (a + k) ↔ dry t r (b + k) := by
  unfold dry
  rw [lvl_congr hl hm k, turnOf_congr hm k]

theorem dry_back {i j : Nat} (hij : i < j) (hl : lvl t r i = lvl t r j) (hm : i % r.length = j % r.length) (hn : ∀ h, h < j → ¬ dry t r h) : ∀ h, ¬ dry t r h := by
  intro h
  induction h using Nat.strongRecOn with
  | ind h ih =>
    rcases Nat.lt_or_ge h j with x | x
    · exact hn h x
    · have := dry_congr hl hm (h - j)
      rw [show j + (h - j) = h from by omega] at this
      rw [← this]
      exact ih _ (by omega)

theorem pigeon : ∀ (N : Nat) (f : Nat → Nat), (∀ i, i ≤ N → f i < N) → ∃ i j, i < j ∧ j ≤ N ∧ f i = f j
  | 0, f, hf => absurd (hf 0 (Nat.le_refl _)) (Nat.not_lt_zero _)
  | N + 1, f, hf => by
    by_cases hx : ∃ i, i ≤ N ∧ f i = f (N + 1)
    · obtain ⟨i, hi, e⟩ := hx
      exact ⟨i, N + 1, by omega, Nat.le_refl _, e⟩
    · obtain ⟨i, j, h1, h2, h3⟩ := pigeon N (fun i => if f i > f (N + 1) then f i - 1 else f i) (fun i hi => by
        have h1 := hf i (by omega)
        have h2 := hf (N + 1) (Nat.le_refl _)
        have h3 : f i ≠ f (N + 1) := fun e => hx ⟨i, hi, e⟩
        split <;> omega)
      refine ⟨i, j, h1, by omega, ?_⟩
      have n1 : f i ≠ f (N + 1) := fun e => hx ⟨i, by omega, e⟩
      have n2 : f j ≠ f (N + 1) := fun e => hx ⟨j, h2, e⟩
      split at h3 <;> split at h3 <;> omega

theorem code_inj {n a b c d : Nat} (hb : b < n) (hd : d < n) (h : a * n + b = c * n + d) : a = c ∧ b = d := by
  have h1 : (a * n + b) / n = (c * n + d) / n := by rw [h]
  have h2 : (a * n + b) % n = (c * n + d) % n := by rw [h]
  rw [Nat.mul_comm a, Nat.mul_comm c, Nat.mul_add_div (by omega), Nat.mul_add_div (by omega), Nat.div_eq_of_lt hb, Nat.div_eq_of_lt hd] at h1
  rw [Nat.mul_comm a, Nat.mul_comm c, Nat.mul_add_mod, Nat.mul_add_mod, Nat.mod_eq_of_lt hb, Nat.mod_eq_of_lt hd] at h2
  omega
theorem code_lt {n H a b : Nat} (hb : b < n) (ha : a ≤ H) : a * n + b < (H + 1) * n := by
  have := Nat.mul_le_mul_right n ha
  rw [Nat.succ_mul]
  omega

def bound (t : Tro) (r : List Int) : Nat := (t.well.holds.toNat + 1) * r.length
theorem never (f : TroFine t) (hr : r ≠ []) (hn : ∀ h, h < bound t r → ¬ dry t r h) : ∀ h, ¬ dry t r h := by
  have hp : 0 < r.length := by cases r <;> simp at hr ⊢
  obtain ⟨i, j, hij, hj, e⟩ := pigeon (bound t r) (fun h => (lvl t r h).toNat * r.length + h % r.length) (fun h _ => by
    have := lvl_bd (r := r) f h
    exact code_lt (Nat.mod_lt h hp) (by omega))
  obtain ⟨e1, e2⟩ := code_inj (Nat.mod_lt i hp) (Nat.mod_lt j hp) e
  have b1 := lvl_bd (r := r) f i
  have b2 := lvl_bd (r := r) f j
  exact dry_back hij (by omega) e2 fun h hh => hn h (by omega)

theorem bound_le (f : TroFine t) (g : r.length ≤ 5) : bound t r ≤ 205 := by
  have := f.holds
  have h2 : t.well.holds.toNat + 1 ≤ 41 := by omega
  exact Nat.mul_le_mul h2 g

def firstH (p : Nat → Prop) [DecidablePred p] : Nat → Int
  | 0 => -1
  | n + 1 => if firstH p n < 0 then (if p n then n else -1) else firstH p n
theorem firstH_neg {p : Nat → Prop} [DecidablePred p] : ∀ {n : Nat}, firstH p n < 0 → firstH p n = -1 ∧ ∀ h, h < n → ¬ p h
  | 0, _ => ⟨rfl, fun h hh => absurd hh (Nat.not_lt_zero _)⟩
  | n + 1, hl => by
    unfold firstH at hl ⊢
    split at hl
    · rename_i hx
      rw [if_pos hx]
      split at hl
      · omega
      · rename_i hp
        rw [if_neg hp]
        refine ⟨rfl, fun h hh => ?_⟩
        rcases Nat.lt_or_ge h n with y | y
        · exact (firstH_neg hx).2 h y
        · rwa [show h = n from by omega]
    · omega
theorem firstH_pos {p : Nat → Prop} [DecidablePred p] : ∀ {n : Nat}, 0 ≤ firstH p n → ∃ k : Nat, firstH p n = k ∧ k < n ∧ p k ∧ ∀ h, h < k → ¬ p h
  | 0, hl => by simp [firstH] at hl
  | n + 1, hl => by
    unfold firstH at hl ⊢
    split at hl
    · rename_i hx
      rw [if_pos hx]
      split at hl
      · rename_i hp
        rw [if_pos hp]
        exact ⟨n, rfl, by omega, hp, (firstH_neg hx).2⟩
      · simp at hl
    · rename_i hx
      rw [if_neg hx]
      obtain ⟨k, a, b, c, d⟩ := firstH_pos (p := p) (n := n) (by omega)
      exact ⟨k, a, by omega, c, d⟩
theorem firstH_at {p : Nat → Prop} [DecidablePred p] {n k : Nat} (hk : k < n) (hp : p k) (hn : ∀ h, h < k → ¬ p h) : firstH p n = k := by
  rcases Int.lt_or_le (firstH p n) 0 with x | x
  · exact absurd hp ((firstH_neg x).2 k hk)
  · obtain ⟨j, e, a, b, c⟩ := firstH_pos x
    rw [e]
    rcases Nat.lt_trichotomy j k with y | y | y
    · exact absurd b (hn j y)
    · rw [y]
    · exact absurd hp (c k y)
theorem firstH_none {p : Nat → Prop} [DecidablePred p] {n : Nat} (hn : ∀ h, h < n → ¬ p h) : firstH p n = -1 := by
  rcases Int.lt_or_le (firstH p n) 0 with x | x
  · exact (firstH_neg x).1
  · obtain ⟨j, e, a, b, c⟩ := firstH_pos x
    exact absurd b (hn j a)

def lastsR (t : Tro) (r : List Int) : Int := firstH (dry t r) (bound t r)
theorem lasts_at (f : TroFine t) (hr : r ≠ []) {k : Nat} (hp : dry t r k) (hn : ∀ h, h < k → ¬ dry t r h) : lastsR t r = k := by
  refine firstH_at ?_ hp hn
  rcases Nat.lt_or_ge k (bound t r) with x | x
  · exact x
  · exact absurd hp (never f hr (fun h hh => hn h (by omega)) k)
theorem lasts_none (hn : ∀ h, ¬ dry t r h) : lastsR t r = -1 := firstH_none fun h _ => hn h
theorem lasts_neg (f : TroFine t) (hr : r ≠ []) (h : lastsR t r < 0) : lastsR t r = -1 ∧ ∀ h, ¬ dry t r h :=
  ⟨(firstH_neg h).1, never f hr (firstH_neg h).2⟩
def occ (r : List Int) (f : Int) (i : Nat) : Prop := turnOf r i = f
instance (r : List Int) (f : Int) (i : Nat) : Decidable (occ r f i) := by unfold occ; infer_instance
def nextD (r : List Int) (f : Int) (i : Nat) : Int := firstH (fun d => occ r f (i + 1 + d)) r.length + 1
def gapG (r : List Int) (f : Int) : Nat → Int
  | 0 => 0
  | i + 1 => if occ r f i then max (gapG r f i) (nextD r f i) else gapG r f i
def gapR (r : List Int) (f : Int) : Int := gapG r f r.length

theorem occ_mod (f : Int) (i : Nat) : occ r f (i + r.length) ↔ occ r f i := by
  unfold occ turnOf
  rw [Nat.add_mod_right]
theorem nextD_spec {f : Int} {i : Nat} (hr : r ≠ []) (ho : occ r f i) : ∃ d : Nat, nextD r f i = d ∧ 1 ≤ d ∧ d ≤ r.length ∧ occ r f (i + d) ∧ ∀ e, 1 ≤ e → e < d → ¬ occ r f (i + e) := by
  have hp : 0 < r.length := by cases r <;> simp at hr ⊢
  unfold nextD
  rcases Int.lt_or_le (firstH (fun d => occ r f (i + 1 + d)) r.length) 0 with x | x
  · have := (firstH_neg x).2 (r.length - 1) (by omega)
    rw [show i + 1 + (r.length - 1) = i + r.length from by omega, occ_mod] at this
    exact absurd ho this
  · obtain ⟨k, e, a, b, c⟩ := firstH_pos x
    refine ⟨k + 1, by rw [e]; rfl, by omega, by omega, by rw [show i + (k + 1) = i + 1 + k from by omega]; exact b, fun e h1 h2 => ?_⟩
    rw [show i + e = i + 1 + (e - 1) from by omega]
    exact c (e - 1) (by omega)
theorem nextD_at {f : Int} {i d : Nat} (hr : r ≠ []) (ho : occ r f i) (h1 : 1 ≤ d) (hd : occ r f (i + d)) (hn : ∀ e, 1 ≤ e → e < d → ¬ occ r f (i + e)) : nextD r f i = d := by
  obtain ⟨k, e, a, b, c, g⟩ := nextD_spec hr ho
  rw [e]
  rcases Nat.lt_trichotomy k d with y | y | y
  · exact absurd c (hn k a y)
  · rw [y]
  · exact absurd hd (g d h1 y)
theorem nextD_mod (f : Int) (i : Nat) : nextD r f (i + r.length) = nextD r f i := by
  unfold nextD
  congr 1
  have : (fun d => occ r f (i + r.length + 1 + d)) = (fun d => occ r f (i + 1 + d)) := by
    funext d
    rw [show i + r.length + 1 + d = i + 1 + d + r.length from by omega]
    exact propext (occ_mod f _)
  simp only [this]

theorem gapG_nonneg {f : Int} : ∀ n : Nat, 0 ≤ gapG r f n
  | 0 => Int.le_refl _
  | n + 1 => by
    have := gapG_nonneg (f := f) n
    unfold gapG
    split <;> omega
theorem gapG_le {f B : Int} (hB : 0 ≤ B) : ∀ {n : Nat}, gapG r f n ≤ B ↔ ∀ i, i < n → occ r f i → nextD r f i ≤ B
  | 0 => by simp [gapG, hB]
  | n + 1 => by
    have ih : gapG r f n ≤ B ↔ ∀ i, i < n → occ r f i → nextD r f i ≤ B := gapG_le hB
    unfold gapG
    constructor
    · intro h i hi ho
      rcases Nat.lt_or_ge i n with x | x
      · refine ih.1 ?_ i x ho
        split at h <;> omega
      · have : i = n := by omega
        subst this
        rw [if_pos ho] at h
        omega
    · intro h
      have h1 := ih.2 fun i hi ho => h i (by omega) ho
      split
      · rename_i ho
        have := h n (by omega) ho
        omega
      · exact h1
theorem gapG_all {f B : Int} (hr : r ≠ []) (hB : 0 ≤ B) {n : Nat} (hn : r.length ≤ n) : gapG r f n ≤ B ↔ ∀ i, occ r f i → nextD r f i ≤ B := by
  have hp : 0 < r.length := by cases r <;> simp at hr ⊢
  rw [gapG_le hB]
  refine ⟨fun h i ho => ?_, fun h i _ ho => h i ho⟩
  induction i using Nat.strongRecOn with
  | ind i ih =>
    rcases Nat.lt_or_ge i n with x | x
    · exact h i x ho
    · have e : i = (i - r.length) + r.length := by omega
      rw [e, nextD_mod]
      rw [e, occ_mod] at ho
      exact ih (i - r.length) (by omega) ho
theorem gapG_more {f : Int} (hr : r ≠ []) {n : Nat} (hn : r.length ≤ n) : gapG r f n = gapR r f := by
  have h1 := gapG_nonneg (r := r) (f := f) n
  have h2 := gapG_nonneg (r := r) (f := f) r.length
  have a := (gapG_all hr h1 (Nat.le_refl _)).2 ((gapG_all hr h1 hn).1 (Int.le_refl _))
  have b := (gapG_all hr h2 hn).2 ((gapG_all hr h2 (Nat.le_refl _)).1 (Int.le_refl _))
  unfold gapR
  omega
theorem gapG_none {f : Int} : ∀ {n : Nat}, (∀ i, i < n → ¬ occ r f i) → gapG r f n = 0
  | 0, _ => rfl
  | n + 1, h => by
    unfold gapG
    rw [if_neg (h n (by omega))]
    exact gapG_none fun i hi => h i (by omega)
theorem gapR_le {f B : Int} (hr : r ≠ []) (hB : 0 ≤ B) : gapR r f ≤ B ↔ ∀ i, occ r f i → ∃ d : Nat, 1 ≤ d ∧ (d : Int) ≤ B ∧ occ r f (i + d) := by
  unfold gapR
  rw [gapG_all hr hB (Nat.le_refl _)]
  constructor
  · intro h i ho
    obtain ⟨d, e, a, b, c, _⟩ := nextD_spec hr ho
    have := h i ho
    exact ⟨d, a, by omega, c⟩
  · intro h i ho
    obtain ⟨d, e, a, b, c, g⟩ := nextD_spec hr ho
    obtain ⟨k, k1, k2, k3⟩ := h i ho
    rw [e]
    rcases Nat.lt_or_ge k d with y | y
    · exact absurd k3 (g k k1 y)
    · omega
theorem gapR_nonneg {f : Int} : 0 ≤ gapR r f := gapG_nonneg _
end
end Go.Proofs.Ytindillghipjjaa

namespace Go.Proofs.Ytindillghipjjaa
open Go.Conc Go.Proofs.Try
section
variable {t x : Tro} {r r' : List Int}
def later (r : List Int) (k : Nat) : List Int := r.drop k ++ r.take k
theorem later_len {k : Nat} (hk : k ≤ r.length) : (later r k).length = r.length := by
  unfold later
  simp
  omega
theorem later_turn {k : Nat} (hr : r ≠ []) (hk : k < r.length) (h : Nat) : turnOf (later r k) h = turnOf r (h + k) := by
  have hp : 0 < r.length := by omega
  have hlt := Nat.mod_lt h hp
  unfold turnOf
  rw [later_len (by omega)]
  have e : (h + k) % r.length = (h % r.length + k) % r.length := by rw [Nat.mod_add_mod]
  rw [e]
  unfold later
  rw [List.getD_eq_getElem?_getD, List.getD_eq_getElem?_getD]
  congr 1
  by_cases hx : h % r.length + k < r.length
  · rw [Nat.mod_eq_of_lt hx, List.getElem?_append_left (by simp; omega), List.getElem?_drop, Nat.add_comm]
  · have e2 : (h % r.length + k) % r.length = h % r.length + k - r.length := by
      rw [Nat.mod_eq_sub_mod (by omega), Nat.mod_eq_of_lt (by omega)]
    rw [e2, List.getElem?_append_right (by simp; omega), List.getElem?_take]
    simp only [List.length_drop]
    rw [if_pos (by omega)]
    congr 1
    omega
theorem later_occ {k : Nat} (hr : r ≠ []) (hk : k < r.length) (f : Int) (i : Nat) : occ (later r k) f i ↔ occ r f (i + k) := by
  unfold occ
  rw [later_turn hr hk]
theorem later_ne {k : Nat} (hr : r ≠ []) (hk : k < r.length) : later r k ≠ [] := by
  intro e
  have := later_len (r := r) (k := k) (by omega)
  rw [e] at this
  simp at this
  omega
theorem later_gap {k : Nat} (hr : r ≠ []) (hk : k < r.length) (f : Int) : gapR (later r k) f = gapR r f := by
  have hn := later_ne hr hk
  have key : ∀ B : Int, 0 ≤ B → (gapR (later r k) f ≤ B ↔ gapR r f ≤ B) := by
    intro B hB
    rw [gapR_le hn hB, gapR_le hr hB]
    constructor
    · intro h i ho
      have h2 : occ (later r k) f (i + (r.length - k)) := by
        rw [later_occ hr hk, show i + (r.length - k) + k = i + r.length from by omega, occ_mod]
        exact ho
      obtain ⟨d, h3, h4, h5⟩ := h _ h2
      rw [later_occ hr hk, show i + (r.length - k) + d + k = i + d + r.length from by omega, occ_mod] at h5
      exact ⟨d, h3, h4, h5⟩
    · intro h i ho
      rw [later_occ hr hk] at ho
      obtain ⟨d, h3, h4, h5⟩ := h _ ho
      refine ⟨d, h3, h4, ?_⟩
      rw [later_occ hr hk, show i + d + k = i + k + d from by omega]
      exact h5
  have h1 := gapR_nonneg (r := r) (f := f)
  have h2 := gapR_nonneg (r := later r k) (f := f)
  have a := (key _ h2).1 (Int.le_refl _)
  have b := (key _ h1).2 (Int.le_refl _)
  omega
theorem later_lvl (f : TroFine t) (hfull : t.well.now = t.well.holds) {k : Nat} (hr : r ≠ []) (hk : k < r.length) : ∀ h : Nat, lvl t r (h + k) ≤ lvl t (later r k) h
  | 0 => by
    have := lvl_bd (r := r) f (0 + k)
    show lvl t r (0 + k) ≤ t.well.now
    omega
  | h + 1 => by
    have ih := later_lvl f hfull hr hk h
    rw [show h + 1 + k = (h + k) + 1 from by omega]
    show nextL t (turnOf r (h + k)) (lvl t r (h + k)) ≤ nextL t (turnOf (later r k) h) (lvl t (later r k) h)
    rw [later_turn hr hk]
    unfold nextL
    omega
theorem later_dry (f : TroFine t) (hfull : t.well.now = t.well.holds) {k : Nat} (hr : r ≠ []) (hk : k < r.length) {h : Nat} (hd : dry t (later r k) h) : dry t r (h + k) := by
  have := later_lvl f hfull hr hk h
  unfold dry at *
  rw [later_turn hr hk] at hd
  omega
theorem later_later {k : Nat} (hk : k < r.length) (h0 : 0 < k) : later (later r k) (r.length - k) = r := by
  have h1 : (r.drop k).length = r.length - k := List.length_drop
  have e1 : (r.drop k).drop (r.length - k) = [] := List.drop_of_length_le (by omega)
  have e2 : (r.drop k).take (r.length - k) = r.drop k := List.take_of_length_le (by omega)
  unfold later
  rw [List.drop_append_of_le_length (by omega), List.take_append_of_le_length (by omega), e1, e2, List.nil_append, List.take_append_drop]
theorem later_lasts (f : TroFine t) (hfull : t.well.now = t.well.holds) {k : Nat} (hr : r ≠ []) (hk : k < r.length) (h0 : 0 < k) : lastsR t (later r k) < 0 ↔ lastsR t r < 0 := by
  have hn := later_ne hr hk
  constructor
  · intro h
    have h1 := (lasts_neg f hn h).2
    have e := later_later hk h0
    have hl := later_len (r := r) (k := k) (by omega)
    rw [lasts_none (t := t) (r := r) fun i hd => ?_]
    · decide
    · rw [← e] at hd
      exact h1 _ (later_dry f hfull hn (by omega) hd)
  · intro h
    have h1 := (lasts_neg f hr h).2
    rw [lasts_none (t := t) (r := later r k) fun i hd => h1 _ (later_dry f hfull hr hk hd)]
    decide

end
end Go.Proofs.Ytindillghipjjaa

namespace Go.Proofs.Ytindillghipjjaa
open Go.Conc Go.Proofs.Try
set_option maxRecDepth 100000
section
variable {main : Bool} {J : JT} {h H : List AObj} {K : Value → List AObj → Prop} {KV : Value → Prop} {HL : List AObj → Prop} {n0 : Nat} {ns : List Int} {k : Nat}
theorem HX.lt (a : HX h H ns k) : h.length < H.length := by
  obtain ⟨nv, k1, s, rest, rfl, _⟩ := a
  rw [hf_len]
  omega
theorem sb1 {X : List Nat} {p : Nat} {H H' : List AObj} (S : SameX X H H') (hp : p < H.length) (hX : p ∉ X) : SameB (some [p]) H H' := fun b hb => by
  simp at hb
  subst hb
  exact S.2 _ hp hX
theorem quoI {t : TypeId} {a b : Int} (ha : 0 ≤ a ∧ a ≤ 1000000) (hb : 0 < b) (hk : KV (vint (a / b))) : aBin prog .quo t (vint a) (vint b) KV := by
  have h1 : Int.tdiv a b = a / b := Int.tdiv_eq_ediv_of_nonneg ha.1
  have h2 : 0 ≤ a / b := Int.ediv_nonneg ha.1 (by omega)
  have h3 : a / b ≤ a := Int.ediv_le_self _ ha.1
  simp only [aBin, aInt, true_and]
  rw [h1, wrap64 (by omega) (by omega)]
  exact ⟨by omega, hk⟩
theorem ofX (hJ : Closed prog main J) (a : HX h H ns k) (hk : k < 1000000) {x : Int} {others : List Int} {p n c : Nat} (hp : H[p]? = some (.cells (others.map vint) true 0)) (hne : p ≠ h.length) (hn : others.length = n) (hl : n < 1000)
    (hK : ∀ y H', (y = x ∨ y ∈ others) → SameX [h.length] H H' → H'.length = H.length → HX h H' ns (k + 1) → K (vint y) H') : Good prog J 22 [ptr h.length 0, vint x, .slice (some ⟨p, 0, none⟩) n c] H K := by
  subst hn
  obtain ⟨nv, k1, s, rest, rfl, b1, b2, b3⟩ := a
  refine good22 hJ (hf_hand b3.list b3.sane (by omega) b2.1 b2.2) (others := others) (fun h' hd => ?_) (by omega) fun y h1 hy hd => ?_
  · obtain ⟨k', s', c1, c2, c3, rfl⟩ := hf_dealt hd
    have S := hf_same (h := h) (nv := nv) (k1 := k1) (k2 := k') (s1 := s) (s2 := s') (rest := rest) (g := [])
    rw [List.append_nil] at S
    exact sli_new (wr := true) (sz := 0) (S.get hp (by simpa using hne)) (by simp) (kn_ints _)
  · obtain ⟨k', s', c1, c2, c3, rfl⟩ := hf_dealt hd
    have S := hf_same (h := h) (nv := nv) (k1 := k1) (k2 := k') (s1 := s) (s2 := s') (rest := rest) (g := [])
    rw [List.append_nil] at S
    exact hK y _ hy S (by simp [hf_len]) ⟨nv, k', s', rest, rfl, by omega, ⟨c2, c3⟩, b3⟩

structure WelOk (B : Int) (w : Wel) : Prop where
  holds : 2 ≤ w.holds ∧ w.holds ≤ B ∧ w.holds ≤ 40
  now : 0 ≤ w.now ∧ w.now ≤ w.holds
  fill : 0 ≤ w.fill ∧ w.fill ≤ 6

theorem good30 (hJ : Closed prog main J) (a : HX h H ns k) (hk : k < 500000) {B : Int} (hB : 2 ≤ B ∧ B ≤ 1000)
    (hK : ∀ w H', WelOk B w → SameX [h.length] H H' → HX h H' ns (k + 5) → K w.val H') : Good prog J 30 [ptr h.length 0, vint B] H K := by
  refine g30 hJ fun ok => ?_
  rw [e30]
  have hlt := a.lt
  refine qAl fun H1 p1 e1 S1 c1 l1 => minI (maxI ?_)
  have a1 := a.same S1 (by simp)
  refine amX hJ a1 (by omega) (by omega) (by omega) fun hd H2 b1 b2 S2 l2 a2 => ?_
  refine fill_one rfl rfl rfl (by decide) (fillI ?_)
  refine qAl fun H3 p3 e3 S3 c3 l3 => qStA (c := [vint 0, vint hd, vint 0]) c3 rfl rfl rfl fun H4 S4 c4 l4 => ?_
  have a4 := (a2.same S3 (by simp)).same S4 (by simp; omega)
  refine ⟨[p3], offI (ldI (v := vint hd) c4 rfl rfl ⟨by simp [RdOk, ptrBlk, ptr], offI (ldI (v := vint hd) c4 rfl rfl ⟨by simp [RdOk, ptrBlk, ptr], ?_⟩)⟩)⟩
  have hp4 : p3 < H4.length := lt_of_get c4
  refine upX hJ a4 (by omega) (by omega) fun now H5 d1 d2 S5 l5 a5 => ⟨sb1 S5 hp4 (by simp; omega), ⟨by decide, fill_one rfl rfl rfl (by decide) (fillI (qNew fun H6 p6 e6 S6 c6 l6 => ?_))⟩⟩
  have c6 : H6[p6]? = some (.cells ([now].map vint) true 0) := c6
  have T6 : SameX [h.length] H4 H6 := S5.trans S6.weak0
  refine ⟨sb1 T6 hp4 (by simp; omega), ?_⟩
  have a6 := a5.same S6 (by simp)
  refine ofX hJ a6 (by omega) c6 (by omega) rfl (by simp) fun nw H7 m7 S7 l7 a7 => ?_
  have T7 : SameX [h.length] H4 H7 := T6.trans S7
  refine ⟨sb1 T7 hp4 (by simp; omega), offI ?_⟩
  refine upX hJ a7 (by omega) (by omega) fun f0 H8 g1 g2 S8 l8 a8 => ?_
  have T8 : SameX [h.length] H4 H8 := T7.trans S8
  refine ⟨sb1 T8 hp4 (by simp; omega), ⟨by decide, fill_one rfl rfl rfl (by decide) (fill_one rfl rfl rfl (by decide) (fill_one rfl rfl rfl (by decide) (fillI (qNew fun H9 p9 e9 S9 c9 l9 => ?_))))⟩⟩
  have c9 : H9[p9]? = some (.cells ([2, 3, f0].map vint) true 0) := c9
  have T9 : SameX [h.length] H4 H9 := T8.trans S9.weak0
  refine ⟨sb1 T9 hp4 (by simp; omega), ?_⟩
  have hh := a8.lt
  have a9 := a8.same S9 (by simp)
  refine ofX hJ a9 (by omega) c9 (by omega) rfl (by simp) fun fl H10 m10 S10 l10 a10 => ?_
  have T10 : SameX [h.length] H4 H10 := T9.trans S10
  refine ⟨sb1 T10 hp4 (by simp; omega), ?_⟩
  refine qSt (T10.get c4 (by simp; omega)) (by simp) rfl rfl fun H11 S11 c11 l11 => offI (qSt c11 (by simp) rfl rfl fun H12 S12 c12 l12 => ?_)
  refine load_part (c := [vint nw, vint hd, vint fl]) c12 (by simp) rfl rfl ?_
  have T1 : SameX [h.length] H H1 := S1.weak0
  have T4 : SameX [h.length] H H4 := ((T1.trans S2).trans S3.weak0).thru S4 (by simp; omega)
  have T12 : SameX [h.length] H H12 := ((T4.trans T10).thru S11 (by simp; omega)).thru S12 (by simp; omega)
  have c1' : H12[p1]? = some (.cells [vint 0, vint 0, vint 0] true 0) := S12.get (S11.get (T10.get (S4.get (S3.get (S2.get c1 (by simp; omega)) (by simp)) (by simp; omega)) (by simp; omega)) (by simp; omega)) (by simp; omega)
  refine qStA (c := [vint nw, vint hd, vint fl]) c1' rfl rfl rfl fun H13 S13 c13 l13 => ?_
  refine retQ_same rfl (resW_cell (gg := true) (s := 3) (by kernel_rfl) (load_part (c := [vint nw, vint hd, vint fl]) c13 (by simp) rfl rfl (resW_nil ?_)))
  refine hK ⟨nw, hd, fl⟩ H13 ⟨?_, ?_, ?_⟩ (T12.thru S13 (by simp; omega)) (((a10.same S11 (by simp; omega)).same S12 (by simp; omega)).same S13 (by simp; omega))
  · show 2 ≤ hd ∧ hd ≤ B ∧ hd ≤ 40
    omega
  · show 0 ≤ nw ∧ nw ≤ hd
    rcases m7 with rfl | m7
    · omega
    · simp at m7
      omega
  · show 0 ≤ fl ∧ fl ≤ 6
    rcases m10 with rfl | m10
    · omega
    · simp at m10
      omega

structure TroOk (F B : Int) (t : Tro) : Prop where
  well : WelOk B t.well
  len : 1 ≤ t.flocks.length ∧ (t.flocks.length : Int) ≤ F
  dro : ∀ d ∈ t.flocks, (1 ≤ d.drinks ∧ d.drinks ≤ 40) ∧ (1 ≤ d.every ∧ d.every ≤ 6)
theorem TroOk.fine {F B : Int} {t : Tro} (o : TroOk F B t) (hF : F ≤ 3) : TroFine t := by
  obtain ⟨⟨h1, h2, h3⟩, h4, h5⟩ := o
  refine ⟨by omega, h2, by omega, by omega, fun d hd => ?_⟩
  have := h5 d hd
  exact ⟨this.1, by omega⟩

structure TroO (h H : List AObj) (t : Tro) (fv : Value) (o : Option Nat) : Prop where
  fl : OwnX H 2 (t.flocks.flatMap Dro.cells) t.flocks.length fv o
  b : ∀ i, o = some i → h.length < i
theorem TroO.at {t : Tro} {fv : Value} {o : Option Nat} (a : TroO h H t fv o) : TroAt H (.agg ⟨troCells t fv⟩) t fv := ⟨rfl, ownX_sli a.fl⟩
theorem TroO.same {H' : List AObj} {t : Tro} {fv : Value} {o : Option Nat} {X : List Nat} (a : TroO h H t fv o) (S : SameX X H H') (hX : ∀ i, o = some i → i ∉ X) : TroO h H' t fv o := ⟨ownX_keep a.fl S hX, a.b⟩

theorem good21 (hJ : Closed prog main J) (a : HX h H ns k) (hk : k < 400000) {F B : Int} (hF : 1 ≤ F ∧ F ≤ 3) (hB : 2 ≤ B ∧ B ≤ 40)
    (hK : ∀ t fv o H', TroOk F B t → SameX [h.length] H H' → HX h H' ns (k + 30) → TroO h H' t fv o → K (.agg ⟨troCells t fv⟩) H') : Good prog J 21 [ptr h.length 0, vint F, vint B] H K := by
  refine g21 hJ fun ok => ?_
  rw [e21]
  have hlt := a.lt
  refine qAl fun H1 p1 e1 S1 c1 l1 => ?_
  have a1 := a.same S1 (by simp)
  refine good30 hJ a1 (by omega) (by omega) fun w H2 ow S2 a2 => ?_
  refine fill_one rfl rfl rfl (by decide) (fillI ?_)
  have hl2 := S2.1
  refine qAl fun H3 p3 e3 S3 c3 l3 => qStA (c := troCells ⟨w, []⟩ (.slice none 0 0)) c3 rfl rfl rfl fun H4 S4 c4 l4 => minI ?_
  have a4 := (a2.same S3 (by simp)).same S4 (by simp; omega)
  refine amX hJ a4 (by omega) (by omega) (by omega) fun i0 H5 b1 b2 S5 l5 a5 => ?_
  have T4 : SameX [h.length] H H4 := ((S1.weak0.trans S2).trans S3.weak0).thru S4 (by simp; omega)
  have T5 : SameX [h.length] H H5 := T4.trans S5
  have c1' : H5[p1]? = some (.cells (troCells ⟨⟨0, 0, 0⟩, []⟩ (.slice none 0 0)) true 0) := S5.get (S4.get (S3.get (S2.get c1 (by simp; omega)) (by simp)) (by simp; omega)) (by simp; omega)
  have c3' : H5[p3]? = some (.cells (troCells ⟨w, []⟩ (.slice none 0 0)) true 0) := S5.get c4 (by simp; omega)
  obtain ⟨⟨w1, w2, w3⟩, w4, w5⟩ := id ow
  refine l21_1 hJ (fun i : Nat => i) (fun i f H' => ∃ ds fv o, SameX [h.length] H H' ∧ HX h H' ns (k + 30 - 5 * i) ∧ i ≤ 3 ∧ (i0 = i + List.length ds) ∧ (∀ d ∈ ds, (1 ≤ d.drinks ∧ d.drinks ≤ 40) ∧ (1 ≤ d.every ∧ d.every ≤ 6)) ∧
      TroO h H' ⟨w, ds⟩ fv o ∧ H'[p3]? = some (.cells (troCells ⟨w, ds⟩ fv) true 0) ∧ H'[p1]? = some (.cells (troCells ⟨⟨0, 0, 0⟩, []⟩ (.slice none 0 0)) true 0) ∧ (∀ j, o = some j → j ≠ p1 ∧ j ≠ p3 ∧ H.length ≤ j) ∧ f.ds = [] ∧ f.r 0 = ptr h.length 0 ∧ f.r 6 = ptr p1 0 ∧ f.r 7 = ptr p3 0 ∧ f.r 8 = vint (i : Nat)) ?_ (s := i0.toNat)
    (.inl ⟨[], .slice none 0 0, none, T5, a5.mono (by omega), by omega, by simp; omega, by simp, ⟨⟨rfl, rfl, .inl ⟨rfl, rfl, rfl⟩⟩, by simp⟩, c3', c1', by simp, rfl, rfl, rfl, rfl, by show vint i0 = vint _; congr 1; omega⟩)
  rintro i f Hc ⟨ds, fv, o, Sc, ac, hi, hsum, hds, TO, cp3, cp1, hoj, fds, r0, r6, r7, r8⟩ okc hnc
  rw [s21_1, r0, r6, r7, r8]
  have hp3 := lt_of_get cp3
  have hp1 := lt_of_get cp1
  refine gtrI (cndI (fun hpos => ?_) fun hz => ?_)
  · have kf := (ownX_val TO.fl).2.2
    refine ⟨[p3], offI (ldI (v := fv) cp3 rfl kf ⟨by simp [RdOk, ptrBlk, ptr], offI (offI (ldI (v := vint w.holds) cp3 rfl rfl ⟨by simp [RdOk, ptrBlk, ptr], quoI (by omega) (by omega) (maxI (offI (offI (ldI (v := vint w.holds) cp3 rfl rfl ⟨by simp [RdOk, ptrBlk, ptr], ?_⟩))))⟩))⟩)⟩
    have hq : 0 ≤ w.holds / 2 ∧ w.holds / 2 ≤ w.holds := ⟨Int.ediv_nonneg (by omega) (by omega), Int.ediv_le_self _ (by omega)⟩
    refine amX hJ ac (by omega) (by omega) (by omega) fun x1 Ha q1 q2 Sa la aa => ⟨sb1 Sa hp3 (by simp; omega), ?_⟩
    refine amX hJ aa (by omega) (by omega) (by omega) fun x2 Hb q3 q4 Sb lb ab => ⟨sb1 (Sa.trans Sb) hp3 (by simp; omega), ?_⟩
    refine ⟨by decide, fill_one rfl rfl rfl (by decide) (fill_one rfl rfl rfl (by decide) (fill_one rfl rfl rfl (Nat.le_of_ble_eq_true rfl) (fillI (qNew fun Hd pd ed Sd cd ld => ?_))))⟩
    have cd : Hd[pd]? = some (.cells ([2, x1, x2].map vint) true 0) := cd
    have Td : SameX [h.length] Hc Hd := (Sa.trans Sb).trans Sd.weak0
    have hlb := ab.lt
    have ad := ab.same Sd (by simp)
    refine ⟨sb1 Td hp3 (by simp; omega), ?_⟩
    refine ofX hJ ad (by omega) cd (by omega) rfl (by simp) fun dr He me Se le ae => ⟨sb1 (Td.trans Se) hp3 (by simp; omega), ?_⟩
    refine amX hJ ae (by omega) (by omega) (by omega) fun ev Hf q5 q6 Sf lf af => ?_
    have Tf : SameX [h.length] Hc Hf := (Td.trans Se).trans Sf
    refine ⟨sb1 Tf hp3 (by simp; omega), ?_⟩
    refine fill_one rfl rfl rfl (by decide) (fill_one rfl rfl rfl (Nat.le_of_ble_eq_true rfl) (fillI ?_))
    refine ⟨by decide, fill_one (l := [vint dr, vint ev]) rfl rfl rfl (Nat.le_of_ble_eq_true rfl) (fillI (qNew fun Hg pg eg Sg cg lg => ?_))⟩
    have cg : Hg[pg]? = some (.cells [vint dr, vint ev] true 0) := cg
    have Tg : SameX [h.length] Hc Hg := Tf.trans Sg.weak0
    refine ⟨sb1 Tg hp3 (by simp; omega), ⟨by decide, ?_⟩⟩
    have TOg := TO.same Tg (fun j hj => by have := TO.b j hj; simp; omega)
    have hdl : ds.length ≤ 3 := by omega
    refine ownX_more TOg.fl (by omega) (by show ds.length < 1000; omega) (ownX_sli (ownX_new (s := 2) (n := 1) (l := [vint dr, vint ev]) cg rfl rfl)) fun fv' Hh ph eh Oh Sh => ?_
    have hlc := Tg.1
    have Th : SameX (h.length :: o.toList) Hc Hh := (Tg.weak (by simp)).trans (Sh.weak fun x hx => List.mem_cons_of_mem _ hx)
    have hno : ∀ b, b = p1 ∨ b = p3 → b ∉ o.toList := fun b hb hm => by
      have := hoj b (by simpa using hm)
      omega
    refine ⟨sb1 Th hp3 (by simp only [List.mem_cons, not_or]; exact ⟨by omega, hno p3 (.inr rfl)⟩), offI ?_⟩
    refine qSt (Th.get cp3 (by simp only [List.mem_cons, not_or]; exact ⟨by omega, hno p3 (.inr rfl)⟩)) (by simp [troCells]) (ownX_val Oh).1 (ownX_val Oh).2.1 fun Hi Si ci li => subI (by omega) ?_
    refine ⟨i - 1, by dsimp only; omega, .inl ⟨ds ++ [⟨dr, ev⟩], fv', some ph, ?_, ?_, by omega, by simp; omega, fun d hd => ?_, ⟨ownX_keep ?_ Si (by intro j hj; cases hj; simp; omega), fun j hj => by cases hj; omega⟩, ci, ?_, fun j hj => by cases hj; omega, fds, r0, r6, r7, by show vint _ = vint _; congr 1; omega⟩⟩
    · refine ((Sc.trans Tg).thru Sh ?_).thru Si (by simp; omega)
      intro y hy
      have hy' : o = some y := by simpa using hy
      exact .inr (hoj y hy').2.2
    · refine HX.mono (k := k + 30 - 5 * i + 5) (HX.same (HX.same ((af.same Sg (by simp)).mono (by omega)) Sh ?_) Si (by simp; omega)) (by omega)
      intro y hy
      exact TO.b y (by simpa using hy)
    · rcases List.mem_append.1 hd with hd | hd
      · exact hds d hd
      · have : d = ⟨dr, ev⟩ := by simpa using hd
        subst this
        refine ⟨?_, by show 1 ≤ ev ∧ ev ≤ 6; omega⟩
        show 1 ≤ dr ∧ dr ≤ 40
        rcases me with rfl | me
        · omega
        · simp at me
          omega
    · simpa [List.flatMap_append, Dro.cells] using Oh
    · exact Si.get (Th.get cp1 (by simp only [List.mem_cons, not_or]; exact ⟨by omega, hno p1 (.inl rfl)⟩)) (by simp; omega)
  · have hi0 : i = 0 := by omega
    subst hi0
    have kf := (ownX_val TO.fl).2
    have k4 : (troCells ⟨w, ds⟩ fv).all one = true ∧ kn (troCells ⟨w, ds⟩ fv) = true := ⟨tro_one TO.at, tro_kn TO.at⟩
    refine load_part (c := troCells ⟨w, ds⟩ fv) cp3 (by simp [troCells]) rfl k4.2 ?_
    refine qStA (c := troCells ⟨w, ds⟩ fv) cp1 rfl rfl k4.1 fun Hz Sz cz lz => ?_
    refine retQ_same fds (resW_cell (gg := true) (s := 4) (by kernel_rfl) ?_)
    show aLoad true 4 (f.r 6) Hz _
    rw [r6]
    refine load_part (c := troCells ⟨w, ds⟩ fv) cz (by simp [troCells]) rfl k4.2 (resW_nil ?_)
    refine hK ⟨w, ds⟩ fv o Hz ⟨ow, ?_, hds⟩ (Sc.thru Sz (by simp; omega)) ((ac.same Sz (by simp; omega)).mono (by omega)) (TO.same Sz fun j hj => by have := hoj j hj; simp; omega)
    show 1 ≤ ds.length ∧ (ds.length : Int) ≤ F
    omega
structure RotO (h H : List AObj) (r : List Int) (v : Value) (o : Option Nat) : Prop where
  l : OwnX H 1 (r.map vint) r.length v o
  b : ∀ i, o = some i → h.length < i
theorem RotO.sli {r : List Int} {v : Value} {o : Option Nat} (a : RotO h H r v o) : Sli H v 1 r.length (r.map vint) := ownX_sli a.l
theorem RotO.same {H' : List AObj} {r : List Int} {v : Value} {o : Option Nat} {X : List Nat} (a : RotO h H r v o) (S : SameX X H H') (hX : ∀ i, o = some i → i ∉ X) : RotO h H' r v o := ⟨ownX_keep a.l S hX, a.b⟩

theorem good36 (hJ : Closed prog main J) (a : HX h H ns k) (hk : k < 400000) {t : Tro} {v fv : Value} (ht : TroAt H v t fv) (hfl : ∀ {H'}, SameX [h.length] H H' → SliE H' fv 2 Dro.cells t.flocks) (hl : 1 ≤ t.flocks.length ∧ t.flocks.length ≤ 3) {N : Int} (hN : 1 ≤ N ∧ N ≤ 5)
    (hK : ∀ r rv o H', RotaFine t r → (r.length : Int) ≤ N → SameX [h.length] H H' → HX h H' ns (k + 10) → RotO h H' r rv o → (∀ i, o = some i → H.length ≤ i) → K rv H') : Good prog J 36 [ptr h.length 0, v, vint N] H K := by
  refine g36 hJ fun ok => ?_
  rw [e36, ht.val]
  have hlt := a.lt
  refine qBox (tro_one ht) fun H1 p1 e1 S1 c1 l1 => minI ?_
  have a1 := a.same S1 (by simp)
  refine amX hJ a1 (by omega) (by omega) (by omega) fun i0 H2 b1 b2 S2 l2 a2 => ?_
  have T2 : SameX [h.length] H H2 := S1.weak0.trans S2
  have c2 := S2.get c1 (by simp; omega)
  refine l36_1 hJ (fun i : Nat => i) (fun i f H' => ∃ (r : List Int) (rv : Value) (o : Option Nat), SameX [h.length] H H' ∧ HX h H' ns (k + 10 - i) ∧ i ≤ 5 ∧ (i0 = i + List.length r) ∧ (∀ x ∈ r, -1 ≤ x ∧ x < t.flocks.length) ∧ RotO h H' r rv o ∧ H'[p1]? = some (.cells (troCells t fv) true 0) ∧ (∀ j, o = some j → j ≠ p1 ∧ H.length ≤ j) ∧
      f.ds = [] ∧ f.r 0 = ptr h.length 0 ∧ f.r 4 = ptr p1 0 ∧ f.r 7 = rv ∧ f.r 8 = vint (i : Nat)) ?_ (s := i0.toNat)
    (.inl ⟨[], .slice none 0 0, none, T2, a2.mono (by omega), by omega, by simp; omega, by simp, ⟨⟨rfl, rfl, .inl ⟨rfl, rfl, rfl⟩⟩, by simp⟩, c2, by simp, rfl, rfl, rfl, rfl, by show vint i0 = vint _; congr 1; omega⟩)
  rintro i f Hc ⟨r, rv, o, Sc, ac, hi, hsum, hr, RO, cp1, hoj, fds, r0, r4, r7, r8⟩ okc hnc
  rw [s36_1, r0, r4, r7, r8]
  have hp1 := lt_of_get cp1
  have hsl := hfl Sc
  have kf := (sli_val ht.fl).2.2
  refine gtrI (cndI (fun hpos => ?_) fun hz => ?_)
  · refine offI (ldI (v := fv) cp1 rfl kf (lenI hsl ?_))
    refine upX hJ ac (by omega) (by omega) fun x Ha q1 q2 Sa la aa => subI (by omega) ?_
    refine ⟨by decide, fill_one rfl rfl rfl (by decide) (fillI (qNew fun Hb pb eb Sb cb lb => ⟨by decide, ?_⟩))⟩
    have cb : Hb[pb]? = some (.cells [vint (x - 1)] true 0) := cb
    have Tb : SameX [h.length] Hc Hb := Sa.trans Sb.weak0
    have ROb := RO.same Tb (fun j hj => by have := RO.b j hj; simp; omega)
    have hrl : r.length ≤ 5 := by omega
    refine ownX_more ROb.l (by omega) (by omega) (ownX_sli (ownX_new (s := 1) (n := 1) (l := [vint (x - 1)]) cb rfl rfl)) fun rv' Hh ph eh Oh Sh => subI (by omega) ?_
    have hlc := Tb.1
    have hlb := aa.lt
    refine ⟨i - 1, by dsimp only; omega, .inl ⟨r ++ [x - 1], rv', some ph, ?_, ?_, by omega, by simp; omega, fun y hy => ?_, ⟨by simpa using Oh, fun j hj => by cases hj; omega⟩, ?_, fun j hj => by cases hj; have := Sc.1; omega, fds, r0, r4, rfl, by show vint _ = vint _; congr 1; omega⟩⟩
    · refine (Sc.trans Tb).thru Sh fun y hy => ?_
      exact .inr (hoj y (by simpa using hy)).2
    · exact ((aa.same Sb (by simp)).same Sh fun y hy => RO.b y (by simpa using hy)).mono (by omega)
    · rcases List.mem_append.1 hy with hy | hy
      · exact hr y hy
      · have : y = x - 1 := by simpa using hy
        subst this
        omega
    · exact Sh.get (Tb.get cp1 (by simp; omega)) fun hm => (hoj p1 (by simpa using hm)).1 rfl
  · have hi0 : i = 0 := by omega
    subst hi0
    rw [fds]
    refine retL_same ?_ (hK r rv o Hc ⟨by omega, hr⟩ (by omega) Sc (ac.mono (by omega)) RO fun j hj => (hoj j hj).2)
    simp only [List.mem_singleton, forall_eq]
    have := (ownX_val RO.l).2.2
    intro e
    rw [e] at this
    cases this
end
end Go.Proofs.Ytindillghipjjaa

namespace Go.Proofs.Ytindillghipjjaa
open Go.Conc Go.Proofs.Try
set_option maxRecDepth 100000
def welAt (t : Tro) (r : List Int) (k : Nat) : Wel := { t.well with now := lvl t r k }
def hourC (t : Tro) (r : List Int) (k : Nat) : List Value := [vint (lvl t r k), vint (lvl t r (k + 1)), .bool (decide (dry t r k))]
def hourV (t : Tro) (r : List Int) (k : Nat) : Value := .agg ⟨hourC t r k⟩

def Till (n : Nat) (O : List Nat) (h H : List AObj) : Prop := h.length ≤ H.length ∧ ∀ i, i < n ∨ i ∈ O → H[i]? = h[i]?

section
variable {main : Bool} {J : JT} {h H : List AObj} {K : Value → List AObj → Prop} {KV : Value → Prop} {HL : List AObj → Prop} {n0 : Nat}
theorem callF {g : FuncId} {args : List Value} (hg : Nat.blt g prog.funcs.size = true) (hk : Good prog J g args H K) : callV prog (Good prog J) (.func (.func g) #[] #[]) args H K := by
  show (bif Nat.blt g prog.funcs.size then Good prog J g ([] ++ args ++ []) H K else False)
  rw [hg, cond_true, List.nil_append, List.append_nil]
  exact hk
theorem remI {t : TypeId} {a b : Nat} (ha : a < 1000000) (hb : 0 < b) (hk : KV (vint (a % b : Nat))) : aBin prog .rem t (vint (a : Nat)) (vint (b : Nat)) KV := by
  have h1 : Int.tmod (a : Int) (b : Int) = ((a % b : Nat) : Int) := by
    rw [Int.tmod_eq_emod_of_nonneg (by omega)]
    rfl
  simp only [aBin, aInt, true_and]
  rw [h1]
  exact ⟨by omega, hk⟩

theorem good120 (hJ : Closed prog main J) {t : Tro} {fv rv : Value} (ho : (troCells t fv).all one = true) (hr : rv.cells = #[rv] ∧ one rv = true)
    (hK : ∀ H' pt pr, SameX [] H H' → H'[pt]? = some (.cells (troCells t fv) true 0) → H'[pr]? = some (.cells [rv] true 0) → H.length ≤ pt → H.length ≤ pr → K (.func (.func 131) ⟨[]⟩ ⟨[ptr pt 0, ptr pr 0]⟩) H') : Good prog J 120 [.agg ⟨troCells t fv⟩, rv] H K := by
  refine g120 hJ fun ok => ?_
  rw [e120]
  refine qBox ho fun H1 p1 e1 S1 c1 l1 => qBox1 hr.1 hr.2 fun H2 p2 e2 S2 c2 l2 => ?_
  refine ⟨rfl, retL_same (by simp [unk]) (hK H2 p1 p2 (S1.trans S2) (S2.get c1 (by simp)) c2 (by omega) (by omega))⟩

theorem welAt_sm {t : Tro} {r : List Int} (f : TroFine t) (k : Nat) : (welAt t r k).sm := by
  have := lvl_bd (r := r) f k
  have := f.holds
  have := f.fill
  exact ⟨by show -1000000 ≤ lvl t r k ∧ lvl t r k ≤ 1000000; omega, by show -1000000 ≤ t.well.holds ∧ t.well.holds ≤ 1000000; omega, by show -1000000 ≤ t.well.fill ∧ t.well.fill ≤ 1000000; omega⟩
theorem welAt_step {t : Tro} {r : List Int} (k : Nat) : ((welAt t r k).drunk (drinkOf t (turnOf r k))).filled = welAt t r (k + 1) := by
  unfold Wel.drunk Wel.filled welAt
  simp only [Wel.mk.injEq, and_true]
  rfl

theorem good131 (hJ : Closed prog main J) {pt pr : Nat} {t : Tro} {r : List Int} {fv rv y : Value} (X : List Nat) (hX : ∀ x ∈ X, x < H.length) (ct : H[pt]? = some (.cells (troCells t fv) true 0)) (cr : H[pr]? = some (.cells [rv] true 0)) (nt : pt ∉ X) (nr : pr ∉ X)
    (hF : ∀ {H'}, SameX X H H' → SliE H' fv 2 Dro.cells t.flocks) (hR : ∀ {H'}, SameX X H H' → Sli H' rv 1 r.length (r.map vint)) (f : TroFine t) (g : RotaFine t r)
    {I : Nat → List Nat → List AObj → Prop} {St : List AObj → Prop} {N : Nat} (hN : N < 1000) (hlt : ∀ {k O H'}, I k O H' → k < N) (hO : ∀ {k O H'}, I k O H' → ∀ x ∈ O, x < H'.length) (hI : ∀ {k O H1 H2}, Till H.length O H1 H2 → I k O H1 → I k O H2) (h0 : I 0 [] H)
    (round : ∀ (k : Nat) (O : List Nat) (H1 : List AObj) (Q : Value → List AObj → Prop), SameX X H H1 → (∀ x ∈ O, H.length ≤ x) → I k O H1 → (∀ O' H2, SameX (X ++ O) H1 H2 → (∀ x ∈ O', x ∈ O ∨ H1.length ≤ x) → I (k + 1) O' H2 → Q (.bool true) H2) → (∀ H2, SameX (X ++ O) H1 H2 → St H2 → Q (.bool false) H2) → callV prog (Good prog J) y [vint (k : Nat), hourV t r k] H1 Q)
    (hK : ∀ H2, SameX X H H2 → St H2 → K (.tuple ⟨[]⟩) H2) : Good prog J 131 [y, ptr pt 0, ptr pr 0] H K := by
  refine g131 hJ fun ok => ?_
  rw [e131]
  have kn4 : kn1 fv = true := (sli_val (hF SameX.refl)).2.2
  have knr : kn1 rv = true := (sli_val (hR SameX.refl)).2.2
  refine offI (load_part (c := t.well.cells) ct (by simp [troCells]) rfl rfl ?_)
  refine fill_one (l := t.well.cells) rfl rfl rfl (by simp) (fillI ?_)
  refine qAl fun H1 p4 e4 S1 c1 l1 => qStA (c := (welAt t r 0).cells) c1 rfl rfl rfl fun H2 S2 c2 l2 => ?_
  have T2 : SameX X H H2 := S1.weak0.thru S2 (by simp; omega)
  have hlen := g.len
  have hrne : r ≠ [] := by intro e; rw [e] at hlen; simp at hlen
  refine l131_1 hJ (fun k : Nat => N - k) (fun k F H' => ∃ O, SameX X H H' ∧ I k O H' ∧ (∀ x ∈ O, H.length ≤ x ∧ x < H'.length ∧ x ≠ p4) ∧ H'[p4]? = some (.cells (welAt t r k).cells true 0) ∧ F.ds = [] ∧ F.r 0 = y ∧ F.r 1 = ptr pt 0 ∧ F.r 2 = ptr pr 0 ∧ F.r 4 = ptr p4 0 ∧ F.r 5 = .func (.func 82) #[] #[] ∧ F.r 6 = .func (.func 79) #[] #[] ∧ F.r 7 = vint (k : Nat)) ?_ (s := 0)
    (.inl ⟨[], T2, hI ⟨T2.1, fun i hi => by have hi : i < H.length := hi.resolve_right (by simp); rw [S2.2 i (by omega) (by simp; omega), S1.2 i hi (by simp)]⟩ h0, by simp, c2, rfl, rfl, rfl, rfl, rfl, rfl, rfl, rfl⟩)
  rintro k F Hc ⟨O, Sc, ik, iO, cp, ds, r0, r1, r2, r4, r5, r6, r7⟩ okc hnc
  have hkN := hlt ik
  have cpt := Sc.get ct nt
  have cpr := Sc.get cr nr
  have hlc := Sc.1
  have hpc := lt_of_get cp
  rw [s131_1, r1, r2, r7]
  have hmod := Nat.mod_lt k (by omega : 0 < r.length)
  have hturn : r[k % r.length]? = some (turnOf r k) := by
    unfold turnOf
    rw [List.getD_eq_getElem?_getD, List.getElem?_eq_getElem hmod]
    rfl
  have hw := g.who _ (turnOf_mem hrne k)
  -- behind the drinking
  have post : ∀ {F' : RG}, F'.ds = [] → F'.r 0 = y → F'.r 1 = ptr pt 0 → F'.r 2 = ptr pr 0 → F'.r 4 = ptr p4 0 → F'.r 5 = .func (.func 82) #[] #[] → F'.r 6 = .func (.func 79) #[] #[] → F'.r 7 = vint (k : Nat) → F'.r 8 = vint (drinkOf t (turnOf r k)) →
      W prog J 55 H.length 131 (subC [1, 1, 0, 0, 0, 0, 1, 1] (codeOf f131)) F' Hc (contX pl131 prog J 55 H.length 131 ct131 [1, 1, 0, 0, 0, 0, 1, 1] (codeOf f131) [Nx H.length (fun k : Nat => N - k) (fun k F H' => ∃ O, SameX X H H' ∧ I k O H' ∧ (∀ x ∈ O, H.length ≤ x ∧ x < H'.length ∧ x ≠ p4) ∧ H'[p4]? = some (.cells (welAt t r k).cells true 0) ∧ F.ds = [] ∧ F.r 0 = y ∧ F.r 1 = ptr pt 0 ∧ F.r 2 = ptr pr 0 ∧ F.r 4 = ptr p4 0 ∧ F.r 5 = .func (.func 82) #[] #[] ∧ F.r 6 = .func (.func 79) #[] #[] ∧ F.r 7 = vint (k : Nat)) k] (RetQ prog [] H.length K)) := by
    intro F' ds r0 r1 r2 r4 r5 r6 r7 r8
    rw [s131_2, r0, r4, r5, r6, r7, r8]
    refine offI (offI (ldI (v := vint (lvl t r k)) cp rfl rfl ?_))
    refine fill_one rfl rfl rfl (by decide) (fillI ?_)
    refine qAl fun H3 p5 e5 S3 c3 l3 => qStA (c := [vint (lvl t r k), vint 0, .bool false]) c3 rfl rfl rfl fun H4 S4 c4 l4 => ?_
    have cp4 := S4.get (S3.get cp (by simp)) (by simp; omega)
    refine load_part (c := (welAt t r k).cells) cp4 (by simp [Wel.cells]) rfl rfl ?_
    have hdb := drink_bd f (turnOf r k)
    refine callF (by kernel_rfl) (good82 hJ (w := welAt t r k) (welAt_sm f k) (by omega) (vext0 (vext1 ?_)))
    refine qStA (c := ((welAt t r k).drunk (drinkOf t (turnOf r k))).cells) cp4 rfl rfl rfl fun H5 S5 c5 l5 => offI ?_
    have hdry : Value.bool (decide ((welAt t r k).now < drinkOf t (turnOf r k))) = Value.bool (decide (dry t r k)) := rfl
    rw [hdry]
    refine qSt (S5.get c4 (by simp; omega)) (by simp) rfl rfl fun H6 S6 c6 l6 => ?_
    have c56 := S6.get c5 (by simp; omega)
    refine load_part (c := ((welAt t r k).drunk (drinkOf t (turnOf r k))).cells) c56 (by simp [Wel.cells]) rfl rfl ?_
    refine callF (by kernel_rfl) (good79 hJ (w := (welAt t r k).drunk (drinkOf t (turnOf r k))) ?_ ?_)
    · obtain ⟨a, b, c⟩ := welAt_sm (r := r) f k
      have := lvl_bd (r := r) f k
      refine ⟨?_, b, c⟩
      show -1000000 ≤ lvl t r k - min (lvl t r k) (drinkOf t (turnOf r k)) ∧ lvl t r k - min (lvl t r k) (drinkOf t (turnOf r k)) ≤ 1000000
      have := f.holds
      omega
    rw [welAt_step]
    refine qStA (c := (welAt t r (k + 1)).cells) c56 rfl rfl rfl fun H7 S7 c7 l7 => offI (offI (ldI (v := vint (lvl t r (k + 1))) c7 rfl rfl (offI ?_)))
    refine qSt (S7.get c6 (by simp; omega)) (by simp) rfl rfl fun H8 S8 c8 l8 => ?_
    refine load_part (c := hourC t r k) c8 (by simp [hourC]) rfl rfl ?_
    have T8 : SameX [p4] Hc H8 := (((((SameX.refl (X := [p4])).trans S3.weak0).thru S4 (by simp; omega)).trans S5).thru S6 (by simp; omega)).trans S7 |>.thru S8 (by simp; omega)
    have S8' : SameX X H H8 := Sc.thru T8 (by simp; omega)
    have c78 := S8.get c7 (by simp; omega)
    have nO : p4 ∉ X ++ O := by
      intro hm
      rcases List.mem_append.1 hm with hm | hm
      · have := hX _ hm
        omega
      · exact (iO _ hm).2.2 rfl
    have hY : ∀ y ∈ X ++ O, y ∈ X ∨ H.length ≤ y := fun y hm => (List.mem_append.1 hm).imp id fun hm => (iO y hm).1
    have hl8 := T8.1
    refine round k O H8 _ S8' (fun x hx => (iO x hx).1) (hI ⟨T8.1, fun i hi => T8.2 i (by rcases hi with hi | hi; omega; exact (iO i hi).2.1) (by
      rcases hi with hi | hi
      · simp
        omega
      · simpa using (iO i hi).2.2)⟩ ik) (fun O' H9 S9 hO' i9 => notI (cnd_false.2 (addI (by omega) ?_))) fun H9 S9 st => notI (cnd_true.2 ?_)
    · refine ⟨k + 1, by dsimp only; omega, .inl ⟨O', S8'.thru S9 hY, i9, fun x hx => ?_, S9.get c78 nO, ds, r0, r1, r2, r4, r5, r6, by show vint _ = vint _; congr 1⟩⟩
      have h9 := hO i9 x hx
      rcases hO' x hx with hm | hm
      · exact ⟨(iO x hm).1, h9, (iO x hm).2.2⟩
      · exact ⟨by omega, h9, by omega⟩
    · rw [ds]
      exact retL_same (by simp) (hK H9 (S8'.thru S9 hY) st)
  refine ldI (v := rv) cpr rfl knr (ldI (v := rv) cpr rfl knr (lenI (hR Sc) (remI (by omega) (by omega) ?_)))
  refine sli_num' (hR Sc) hturn fun q => geqI (cndI (fun hge => ?_) fun hlt0 => hold.2 ?_)
  · have hwl : (turnOf r k).toNat < t.flocks.length := by omega
    refine offI (ldI (v := fv) cpt rfl kn4 ?_)
    obtain ⟨b, o, cs, wr, sz, hidx, hb, hol, hft, hkn⟩ := sliE_elem dro_len (by omega) (hF Sc) hwl
    have e : vint (turnOf r k) = vint ((turnOf r k).toNat : Nat) := by congr 1; omega
    rw [e]
    have hd : drinkOf t (turnOf r k) = t.flocks[(turnOf r k).toNat].drinks := by
      unfold drinkOf
      rw [if_pos hge, droAt_mem hwl]
    refine hidx _ (offI (ldI (v := vint (drinkOf t (turnOf r k))) hb (part_get hft (by rw [hd]; rfl)) rfl (hold.2 ?_)))
    exact post ds r0 r1 r2 r4 r5 r6 r7 rfl
  · refine post ds r0 r1 r2 r4 r5 r6 r7 ?_
    show vint 0 = vint _
    unfold drinkOf
    rw [if_neg hlt0]
theorem hour_one {t : Tro} {r : List Int} {k : Nat} : (hourC t r k).all one = true ∧ kn (hourC t r k) = true := ⟨rfl, rfl⟩

theorem retL_def {n0 n : Nat} {vs : List Value} (hd : h[n]? = some .deferred) (hv : ∀ v ∈ vs, v ≠ unk) (hk : K (pack vs) (h.set n .dead)) : retL n0 K [n] vs h := by
  have := retL_same (n0 := n0) (H := K) hv hk
  unfold retL at *
  exact ⟨hd, this⟩

end
end Go.Proofs.Ytindillghipjjaa

namespace Go.Proofs.Ytindillghipjjaa
open Go.Conc Go.Proofs.Try
set_option maxRecDepth 100000
theorem rotaE_fine {t : Tro} {r : List Int} (h : rotaE t r = 0) : TroFine t ∧ RotaFine t r := by
  unfold rotaE at h
  split at h
  · rename_i x
    exact absurd h x
  · rename_i x
    split at h
    · rename_i y
      exact absurd h y
    · rename_i y
      split at h
      · rename_i z
        refine ⟨troE_fine (by omega), ?_, fun k hk => by have := z k hk; omega⟩
        unfold fewE at y
        split at y
        · exact absurd (by decide) y
        · split at y
          · exact absurd (by decide) y
          · omega
      · cases h
theorem fine_rotaE {t : Tro} {r : List Int} (f : TroFine t) (g : RotaFine t r) : rotaE t r = 0 := by
  have h1 := fine_troE f
  have h2 : fewE r.length 1 5 = 0 := by
    have := g.len
    unfold fewE
    rw [if_neg (by omega), if_neg (by omega)]
  unfold rotaE
  rw [if_neg (by omega), if_neg (by omega), if_pos fun k hk => by have := g.who k hk; omega]

section
variable {main : Bool} {J : JT} {h H : List AObj} {K : Value → List AObj → Prop} {KV : Value → Prop} {n0 : Nat}
def GrowI (po : Nat) (L : Nat → List Int) (k : Nat) (O : List Nat) (H : List AObj) : Prop :=
  ∃ lv o, O = Option.toList o ∧ H[po]? = some (.cells [lv] true 0) ∧ OwnX H 1 ((L k).map vint) (L k).length lv o ∧ (∀ i, o = some i → i ≠ po) ∧ (L k).length ≤ k
theorem GrowI.lt {po k : Nat} {L : Nat → List Int} {O : List Nat} (a : GrowI po L k O H) : ∀ x ∈ O, x < H.length := by
  obtain ⟨lv, o, rfl, c, A, ho, hl⟩ := a
  intro x hx
  exact ownX_lt A x (by simpa using hx)
end
end Go.Proofs.Ytindillghipjjaa

namespace Go.Proofs.Ytindillghipjjaa
open Go.Conc Go.Proofs.Try
set_option maxRecDepth 100000
def metP (t : Tro) (r : List Int) (k : Nat) : Int × Int := (lvl t r k, ((k % r.length : Nat) : Int))
def metV (p : Int × Int) : Value := .agg ⟨[vint p.1, vint p.2]⟩
def metL (t : Tro) (r : List Int) (k : Nat) : List (Int × Int) := (List.range k).map (metP t r)
def metE (l : List (Int × Int)) : List (Value × Value) := l.map fun p => (metV p, .bool true)
theorem metL_succ {t : Tro} {r : List Int} {k : Nat} : metL t r (k + 1) = metL t r k ++ [metP t r k] := by simp [metL, List.range_succ]

theorem teqM (a b c d : Int) : teq prog 10000 136 (.agg ⟨[vint a, vint b]⟩) (.agg ⟨[vint c, vint d]⟩) =
    (match some (a == c) with
    | some true => (match some (b == d) with
      | some true => some true
      | some false => some false
      | none => none)
    | some false => some false
    | none => none) := by kernel_rfl
theorem teqM2 (p q : Int × Int) : teq prog 10000 136 (metV p) (metV q) = some (decide (p = q)) := by
  obtain ⟨a, b⟩ := p
  obtain ⟨c, d⟩ := q
  unfold metV
  rw [teqM]
  by_cases e1 : a = c
  · by_cases e2 : b = d
    · simp [e1, e2]
    · rw [beq_eq_false_iff_ne.2 e2, beq_iff_eq.2 e1]
      simp [e2]
  · rw [beq_eq_false_iff_ne.2 e1]
    simp [e1]
theorem met_find (p : Int × Int) : ∀ l : List (Int × Int), mfind prog 136 (metV p) (metE l) = if p ∈ l then some (some (.bool true)) else some none
  | [] => rfl
  | q :: l => by
    have ih := met_find p l
    show (match teq prog 10000 136 (metV p) (metV q) with
      | some true => some (some (Value.bool true))
      | some false => mfind prog 136 (metV p) (metE l)
      | none => none) = _
    rw [teqM2]
    by_cases h : p = q
    · simp [h]
    · rw [decide_eq_false h]
      simp only [ih, List.mem_cons, h, false_or]
theorem met_key (p : Int × Int) : kOk prog 10000 136 (metV p) = true := by kernel_rfl

section
variable {main : Bool} {J : JT} {h H : List AObj} {K : Value → List AObj → Prop} {KV : Value → Prop} {HL : List AObj → Prop} {n0 : Nat}
theorem met_look {b : Nat} {l : List (Int × Int)} {wr : Bool} {p : Int × Int} (hb : h[b]? = some (.map (metE l) wr)) (hk : KV (.bool (decide (p ∈ l)))) : aLook prog 134 false (.map (some b)) (metV p) h KV := by
  have e1 : prog.underlying 134 = some (.map 136 4) := by kernel_rfl
  have e2 : zv1 prog 4 = some (.bool false) := by kernel_rfl
  unfold aLook
  rw [e1]
  simp only
  rw [hb, e2]
  simp only
  rw [met_find]
  by_cases hm : p ∈ l
  · rw [if_pos hm]
    rw [decide_eq_true hm] at hk
    exact ⟨met_key p, hk⟩
  · rw [if_neg hm]
    rw [decide_eq_false hm] at hk
    exact ⟨met_key p, hk⟩
theorem met_upd {b : Nat} {l : List (Int × Int)} {p : Int × Int} (hb : h[b]? = some (.map (metE l) true)) (hm : p ∉ l) (hk : HL (h.set b (.map (metE (l ++ [p])) true))) : aUpd prog 134 (.map (some b)) (metV p) (.bool true) h HL := by
  have e1 : prog.underlying 134 = some (.map 136 4) := by kernel_rfl
  unfold aUpd
  rw [e1]
  simp only
  rw [hb]
  have e : metE (l ++ [p]) = metE l ++ [(metV p, .bool true)] := by simp [metE]
  rw [e] at hk
  refine ⟨met_key p, by simp [metV, VOk, AOk, LOk], ?_, hk⟩
  rw [met_find, if_neg hm]

theorem endQ_exit {n id : Nat} {f : RG} {Q : QT} {v : Value} {st : LoopState} {fn : FuncId} {r : Nat → Value} {size : Nat} {params : Array Tmp} {assign body : Code} {dfr : Nat} (hl : h[n + 1]? = some (.loop st (some (.exit id)) fn r size params assign body dfr)) (hs : st ≠ .busy) (hq : Q (.exit id) ⟨f.r, n :: f.ds⟩ (h.set (n + 1) .dead)) : endQ n f Q v h :=
  ⟨st, some (.exit id), _, _, _, _, _, _, _, hl, hs, hq⟩

noncomputable abbrev lp89 (st : LoopState) (pend : Option Code) (r : Nat → Value) (d : Nat) : AObj := .loop st pend 89 r 34 #[14, 15] (subC [1, 0, 1, 1, 1, 0, 1, 0, 0] (codeOf f89)) (subC [1, 0, 1, 1, 1, 0, 1, 0, 1] (codeOf f89)) d

theorem round89 (hJ : Closed prog main J) {l p3 p5 p6 pm d k : Nat} {R : Nat → Value} {rv : Value} {t : Tro} {r : List Int} {L : List (Int × Int)} {Q : Value → List AObj → Prop} (hl : H[l]? = some (lp89 .ready none R d))
    (r3 : R 3 = ptr p3 0) (r5 : R 5 = ptr p5 0) (r6 : R 6 = ptr p6 0) (c3 : H[p3]? = some (.cells [rv] true 0)) (c5 : H[p5]? = some (.cells [.map (some pm)] true 0)) (cm : H[pm]? = some (.map (metE L) true)) (c6 : H[p6]? = some (.cells [vint (-1)] true 0))
    (hr : Sli H rv 1 r.length (r.map vint)) (hlen : 0 < r.length) (hk : k < 1000000)
    (n3 : p3 ≠ l) (n5 : p5 ≠ l) (nm : pm ≠ l) (n6 : p6 ≠ l) (n36 : p3 ≠ p6) (nm6 : pm ≠ p6)
    (k1 : ∀ H', ¬ dry t r k → metP t r k ∉ L → SameX [l, pm] H H' → H'[l]? = some (lp89 .ready none R d) → H'[pm]? = some (.map (metE (L ++ [metP t r k])) true) → Q (.bool true) H')
    (k2 : ∀ H', ¬ dry t r k → metP t r k ∈ L → SameX [l] H H' → H'[l]? = some (lp89 .done (some (.exit 0)) R d) → Q (.bool false) H')
    (k3 : ∀ H', dry t r k → SameX [l, p6] H H' → H'[l]? = some (lp89 .done (some (.exit 0)) R d) → H'[p6]? = some (.cells [vint (k : Nat)] true 0) → Q (.bool false) H') :
    callV prog (Good prog J) (.func (.yield l) ⟨[]⟩ ⟨[]⟩) [vint (k : Nat), hourV t r k] H Q := by
  show Good prog J (yid prog l) [vint (k : Nat), hourV t r k] H Q
  have hll := lt_of_get hl
  have kr := (sli_val hr).2.2
  have hmb : mapBlk rv = none := by
    obtain ⟨base, c, hrv, _⟩ := id hr
    rw [hrv]
    rfl
  have h3l := lt_of_get c3
  have h5l := lt_of_get c5
  have h6l := lt_of_get c6
  have hml := lt_of_get cm
  refine good_round hJ hl rfl (by decide) fun ok => W_sound hJ mixed _ ?_
  rw [a89_1]
  refine qAl fun H1 p1 e1 S1 c1 l1 => qStA (c := hourC t r k) c1 rfl rfl hour_one.1 fun H2 S2 c2 l2 => ?_
  have hl2 : H2[l]? = some (lp89 .ready none R d) := S2.get (S1.get hl (by simp)) (by simp; omega)
  refine ⟨rfl, none, _, _, _, _, _, _, _, hl2, W_sound hJ mixed _ ?_⟩
  rw [b89_1]
  have S02 : SameX [] H H2 := S1.thru S2 (by simp; omega)
  have hl3 : (H2.set l (lp89 .busy none R d))[l]? = some (lp89 .busy none R d) := List.getElem?_set_self (lt_of_get hl2)
  have S3 : SameX [l] H (H2.set l (lp89 .busy none R d)) := (S02.weak0).set (.inl (by simp))
  have cx3 : (H2.set l (lp89 .busy none R d))[p1]? = some (.cells (hourC t r k) true 0) := get_set c2 (by omega)
  generalize H2.set l (lp89 .busy none R d) = H3 at hl3 S3 cx3
  have hs3 := S3.1
  have hx3 := lt_of_get cx3
  refine ⟨[p1, p3], ?_⟩
  show aOff (ptr p1 0) 0 _
  refine offI (ldI (v := vint (lvl t r k)) cx3 rfl rfl ⟨by simp [RdOk, ptrBlk, ptr], ?_⟩)
  show aLoad false 1 (R 3) _ _
  rw [r3]
  have hr3 : Sli H3 rv 1 r.length (r.map vint) := by
    obtain ⟨base, c, hrv, hc, hb⟩ := id hr
    refine ⟨base, c, hrv, hc, ?_⟩
    rcases hb with hb | ⟨b, o, hb, hb2 | ⟨cs, wr, sz, hb2, hb3⟩⟩
    · exact .inl hb
    · exact .inr ⟨b, o, hb, .inl hb2⟩
    · refine .inr ⟨b, o, hb, .inr ⟨cs, wr, sz, S3.get hb2 ?_, hb3⟩⟩
      simp only [List.mem_singleton]
      intro e
      subst e
      rw [hl] at hb2
      cases hb2
  refine ldI (v := rv) (S3.get c3 (by simpa using n3)) rfl kr ⟨?_, lenI hr3 ⟨by rw [hmb]; trivial, ?_⟩⟩
  · show RdOk (some [p1, p3]) (ptrBlk (R 3))
    rw [r3]
    simp [RdOk, ptrBlk, ptr]
  show aBin prog .rem 3 (vint (k : Nat)) (vint (r.length : Nat)) _
  refine remI hk hlen ?_
  refine fill_one rfl rfl rfl (by decide) (fill_one rfl rfl rfl (Nat.le_of_ble_eq_true rfl) (fillI ?_))
  refine qAl fun H4 p7 e7 S4 c4 l4 => ⟨fun b hb => S4.2 b (by simp at hb; omega) (by simp), ?_⟩
  refine qStA (c := [vint (metP t r k).1, vint (metP t r k).2]) c4 rfl rfl rfl fun H5 S5 c5' l5 => ?_
  have S35 : SameX [] H3 H5 := S4.thru S5 (by simp; omega)
  have S05 : SameX [l] H H5 := S3.trans S35.weak0
  have hl5 := S35.get hl3 (by simp)
  refine offI (ldI (v := .bool (decide (dry t r k))) (S35.get cx3 (by simp)) rfl rfl ?_)
  refine cndI (fun hd => ?_) fun hd => ?_
  · show aStore 1 (R 6) (vint (k : Nat)) _ _
    rw [r6]
    refine qSt (S05.get c6 (by simpa using n6)) (by simp) rfl rfl fun H6 S6 c6' l6 => ?_
    have hl6 := S6.get hl5 (by simpa using n6.symm)
    have hl66 := lt_of_get hl6
    refine ⟨.busy, none, _, _, _, _, _, _, _, hl6, .inl (k3 _ hd ?_ (List.getElem?_set_self hl66) (get_set c6' n6))⟩
    exact ((S05.weak (by simp)).trans (S6.weak (by simp))).set (.inl (by simp))
  · show aLoad false 1 (R 5) _ _
    rw [r5]
    refine ldI (v := .map (some pm)) (S05.get c5 (by simpa using n5)) rfl rfl ?_
    refine load_part (c := [vint (metP t r k).1, vint (metP t r k).2]) c5' (by simp) rfl rfl ?_
    have cm5 := S05.get cm (by simpa using nm)
    refine met_look (p := metP t r k) cm5 (cndI (fun hm => ?_) fun hm => ?_)
    · have hl55 := lt_of_get hl5
      refine ⟨.busy, none, _, _, _, _, _, _, _, hl5, .inl (k2 _ hd hm (S05.set (.inl (by simp))) (List.getElem?_set_self hl55))⟩
    · show aLoad false 1 (R 5) _ _
      rw [r5]
      refine ldI (v := .map (some pm)) (S05.get c5 (by simpa using n5)) rfl rfl ?_
      refine load_part (c := [vint (metP t r k).1, vint (metP t r k).2]) c5' (by simp) rfl rfl ⟨⟨by simp [VOk], rfl⟩, ?_⟩
      refine met_upd (p := metP t r k) cm5 hm ?_
      have hm5 := lt_of_get cm5
      have hl6 : (H5.set pm (.map (metE (L ++ [metP t r k])) true))[l]? = some (lp89 .busy none R d) := get_set hl5 nm.symm
      have hl66 := lt_of_get hl6
      refine ⟨.busy, none, _, _, _, _, _, _, _, hl6, .inl (k1 _ hd hm ?_ (List.getElem?_set_self hl66) (get_set (List.getElem?_set_self hm5) nm))⟩
      exact ((S05.weak (Y := [l, pm]) (by simp)).set (.inl (by simp))).set (.inl (by simp))

theorem met_bound {t : Tro} {r : List Int} (f : TroFine t) (hp : 0 < r.length) {k : Nat} (hd : ∀ i j, i < j → j < k → metP t r i ≠ metP t r j) : k ≤ bound t r := by
  rcases Nat.lt_or_ge (bound t r) k with hk | hk
  · obtain ⟨i, j, hij, hj, e⟩ := pigeon (bound t r) (fun h => (lvl t r h).toNat * r.length + h % r.length) (fun h _ => by
      have := lvl_bd (r := r) f h
      exact code_lt (Nat.mod_lt h hp) (by omega))
    obtain ⟨e1, e2⟩ := code_inj (Nat.mod_lt i hp) (Nat.mod_lt j hp) e
    have b1 := lvl_bd (r := r) f i
    have b2 := lvl_bd (r := r) f j
    refine absurd ?_ (hd i j hij (by omega))
    unfold metP
    rw [e2, show lvl t r i = lvl t r j from by omega]
  · exact hk
theorem met_mem {t : Tro} {r : List Int} {k : Nat} {p : Int × Int} : p ∈ metL t r k ↔ ∃ i, i < k ∧ metP t r i = p := by
  simp [metL]

theorem good89 (hJ : Closed prog main J) {v fv rv : Value} {t : Tro} {r : List Int} (ht : TroAt H v t fv) (hr : Sli H rv 1 r.length (r.map vint)) (f : TroFine t) (g : RotaFine t r)
    (hK : ∀ H', SameX [] H H' → K (vint (lastsR t r)) H') : Good prog J 89 [v, rv] H K := by
  refine g89 hJ fun ok => ?_
  rw [e89, ht.val]
  have rvo := sli_val hr
  have hlen := g.len
  have hrne : r ≠ [] := by intro e; rw [e] at hlen; simp at hlen
  refine qBox (tro_one ht) fun H1 p2 e2 S1 c2 l1 => qBox1 rvo.1 rvo.2.1 fun H2 p3 e3 S2 c3 l2 => qNewM fun H3 pm em S3 cm l3 => qAl fun H4 p5 e5 S4 c5 l4 => ?_
  refine qSt c5 (by simp) rfl rfl fun H5 S5 c5 l5 => qAl fun H6 p6 e6 S6 c6 l6 => qSt c6 (by simp) rfl rfl fun H7 S7 c6 l7 => ?_
  have c5 : H5[p5]? = some (.cells [.map (some pm)] true 0) := c5
  have c6 : H7[p6]? = some (.cells [vint (-1)] true 0) := c6
  have T4 : SameX [] H H4 := ((S1.trans S2).trans S3).trans S4
  have T7 : SameX [] H H7 := (((T4.thru S5 (by have := T4.1; simp; omega)).trans S6).thru S7 (by have := T4.1; simp; omega))
  have U7 : SameX [p5, p6] H4 H7 := ((S5.weak (by simp)).trans S6.weak0).trans (S7.weak (by simp))
  have c27 : H7[p2]? = some (.cells (troCells t fv) true 0) := U7.get (S4.get (S3.get (S2.get c2 (by simp)) (by simp)) (by simp)) (by simp; omega)
  have c37 : H7[p3]? = some (.cells [rv] true 0) := U7.get (S4.get (S3.get c3 (by simp)) (by simp)) (by simp; omega)
  have cm7 : H7[pm]? = some (.map [] true) := U7.get (S4.get cm (by simp)) (by simp; omega)
  have c57 : H7[p5]? = some (.cells [.map (some pm)] true 0) := S7.get (S6.get c5 (by simp)) (by simp; omega)
  have hS1 := S1.1
  refine load_part (c := troCells t fv) c27 (by simp [troCells]) rfl (tro_kn ht) (ldI (v := rv) c37 rfl rvo.2.2 ?_)
  refine good120 hJ (tro_one ht) ⟨rvo.1, rvo.2.1⟩ fun H8 pt pr S8 ct cr gt gr => ?_
  have T8 : SameX [] H H8 := T7.trans S8
  have hT8 := S8.1
  have hT7 := T7.1
  refine l89_1 hJ (first := []) (cap := [ptr pt 0, ptr pr 0]) rfl (by decide) ?_
  obtain ⟨R, hRe⟩ : ∃ R : Nat → Value, R = (RG.put (RG.put (RG.put (RG.put (RG.put (RG.put (RG.put (RG.put (RG.put (RG.mk (regs [Value.agg ⟨troCells t fv⟩, rv]) []) 2 (ptr p2 0)) 3 (ptr p3 0)) 4 (vint 0)) 10 (.map (some pm))) 5 (ptr p5 0)) 6 (ptr p6 0)) 11 (Value.agg ⟨troCells t fv⟩)) 12 rv) 13 (Value.func (.func 131) ⟨[]⟩ ⟨[ptr pt 0, ptr pr 0]⟩)).r := ⟨_, rfl⟩
  have hl9 : (H8 ++ [AObj.deferred] ++ [lp89 .ready none R H8.length])[H8.length + 1]? = some (lp89 .ready none R H8.length) := by
    rw [List.append_assoc]
    simp
  have hd9 : (H8 ++ [AObj.deferred] ++ [lp89 .ready none R H8.length])[H8.length]? = some .deferred := by
    rw [List.append_assoc]
    simp
  have hln : (H8 ++ [AObj.deferred] ++ [lp89 .ready none R H8.length]).length = H8.length + 2 := by simp
  have S9 : SameX [] H8 (H8 ++ [AObj.deferred] ++ [lp89 .ready none R H8.length]) := SameX.refl.app.app
  have r3 : R 3 = ptr p3 0 := by subst hRe; rfl
  have r5 : R 5 = ptr p5 0 := by subst hRe; rfl
  have r6 : R 6 = ptr p6 0 := by subst hRe; rfl
  generalize hH9 : H8 ++ [AObj.deferred] ++ [lp89 .ready none R H8.length] = H9 at hl9 hd9 hln S9
  have T9 : SameX [] H H9 := T8.trans S9
  have S79 : SameX [] H7 H9 := S8.trans S9
  have cx3 := S79.get c37 (by simp)
  have cx5 := S79.get c57 (by simp)
  have cx6 := S79.get c6 (by simp)
  have cxm := S79.get cm7 (by simp)
  have q2 := lt_of_get c2
  have q3 := lt_of_get c3
  have qm := lt_of_get cm
  have q6 := lt_of_get c6
  have q5 := lt_of_get c57
  have hlp : H.length ≤ p2 := by omega
  have hY : ∀ {H'}, SameX [H8.length + 1, pm, p6] H9 H' → SameX [] H H' := fun S => T9.thru S (by simp; omega)
  have fin : ∀ {H'}, SameX [H8.length + 1, pm, p6] H9 H' → H'[p6]? = some (.cells [vint (lastsR t r)] true 0) → H'[H8.length + 1]? = some (lp89 .done (some (.exit 0)) R H8.length) → ∀ v, endQ H8.length ⟨R, []⟩ (contX pl89 prog J 34 H.length 89 ct89 [1, 0, 1, 1, 1, 0, 1, 0] (codeOf f89) [] (RetQ prog [.tmp 4] H.length K)) v H' := by
    intro H' S h6 hl v
    refine endQ_exit hl (by simp) ?_
    rw [c89_1x0]
    show aLoad false 1 (R 6) _ _
    rw [r6]
    refine ldI (v := vint (lastsR t r)) (get_set h6 (by omega)) rfl rfl ?_
    have hd' := S.get hd9 (by simp; omega)
    refine retL_def (get_set hd' (by omega)) (by simp [unk]) ?_
    exact hK _ (((hY S).set (.inr (by omega))).set (.inr (by omega)))
  have main131 : Good prog J 131 [.func (.yield (H8.length + 1)) ⟨[]⟩ ⟨[]⟩, ptr pt 0, ptr pr 0] H9 (endQ H8.length ⟨R, []⟩ (contX pl89 prog J 34 H.length 89 ct89 [1, 0, 1, 1, 1, 0, 1, 0] (codeOf f89) [] (RetQ prog [.tmp 4] H.length K))) := by
    have lpt := lt_of_get ct
    have lpr := lt_of_get cr
    refine good131 hJ [H8.length + 1, pm, p6] (by simp; omega) (S9.get ct (by simp)) (S9.get cr (by simp)) (by simp; omega) (by simp; omega) (fun S => (hY S).sli ht.fl (by simp)) (fun S => (hY S).sli hr (by simp)) f g
      (I := fun k O H' => O = [] ∧ H'[H8.length + 1]? = some (lp89 .ready none R H8.length) ∧ H'[pm]? = some (.map (metE (metL t r k)) true) ∧ H'[p6]? = some (.cells [vint (-1)] true 0) ∧ (∀ i, i < k → ¬ dry t r i) ∧ (∀ i j, i < j → j < k → metP t r i ≠ metP t r j))
      (St := fun H' => H'[H8.length + 1]? = some (lp89 .done (some (.exit 0)) R H8.length) ∧ H'[p6]? = some (.cells [vint (lastsR t r)] true 0)) (N := bound t r + 1) (by have := bound_le f g.len.2; omega) (fun hi => Nat.lt_succ_of_le (met_bound f (by omega) hi.2.2.2.2.2)) (fun hi => by rw [hi.1]; simp)
      (fun T hi => ⟨hi.1, by rw [T.2 _ (.inl (by omega))]; exact hi.2.1, by rw [T.2 _ (.inl (by omega))]; exact hi.2.2.1, by rw [T.2 _ (.inl (by omega))]; exact hi.2.2.2.1, hi.2.2.2.2⟩)
      ⟨rfl, hl9, cxm, cx6, by simp, by simp⟩ (fun k O Ha Q Sa _ hi k1 k2 => ?_) fun H' S' st => fin S' st.2 st.1 _
    obtain ⟨rfl, i1, i2, i3, i4, i5⟩ := hi
    have hkb := met_bound f (by omega) i5
    have hbl := bound_le f g.len.2
    refine round89 hJ (t := t) i1 r3 r5 r6 (Sa.get cx3 (by simp; omega)) (Sa.get cx5 (by simp; omega)) i2 i3 ((hY Sa).sli hr (by simp)) (by omega) (by omega) (by omega) (by omega) (by omega) (by omega) (by omega) (by omega) (fun Hb nd nm Sb hb1 hb2 => ?_) (fun Hb nd hm Sb hb1 => ?_) fun Hb hd Sb hb1 hb2 => ?_
    · refine k1 [] Hb (Sb.weak (by simp)) (by simp) ⟨rfl, hb1, by rw [metL_succ]; exact hb2, Sb.get i3 (by simp; omega), fun i hi => ?_, fun i j hij hj => ?_⟩
      · rcases Nat.lt_or_ge i k with x | x
        · exact i4 i x
        · rwa [show i = k from by omega]
      · rcases Nat.lt_or_ge j k with x | x
        · exact i5 i j hij x
        · have : j = k := by omega
          subst this
          intro e
          exact nm (met_mem.2 ⟨i, hij, e⟩)
    · obtain ⟨i, hik, e⟩ := met_mem.1 hm
      have hlst : lastsR t r = -1 := by
        refine lasts_none (dry_back hik ?_ ?_ i4)
        · have := congrArg Prod.fst e
          exact this
        · have := congrArg Prod.snd e
          have : ((i % r.length : Nat) : Int) = ((k % r.length : Nat) : Int) := this
          omega
      exact k2 Hb (Sb.weak (by simp)) ⟨hb1, by rw [hlst]; exact Sb.get i3 (by simp; omega)⟩
    · have hlst : lastsR t r = k := lasts_at f hrne hd i4
      exact k2 Hb (Sb.weak (by simp)) ⟨hb1, by rw [hlst]; exact hb2⟩
  subst hRe
  rw [← hH9] at main131
  exact main131

def lastA (t : Tro) (r : List Int) : Int := if rotaE t r = 0 ∧ 0 ≤ lastsR t r then lastsR t r else 0
def lastE (t : Tro) (r : List Int) : Int := if rotaE t r ≠ 0 then rotaE t r else if lastsR t r < 0 then 11 else 0
theorem good38 (hJ : Closed prog main J) {v fv rv : Value} {t : Tro} {r : List Int} (ht : TroAt H v t fv) (hr : Sli H rv 1 r.length (r.map vint)) (hl : t.flocks.length ≤ 1000000)
    (hK : ∀ H', SameX [] H H' → K (.tuple ⟨[vint (lastA t r), vint (lastE t r)]⟩) H') : Good prog J 38 [v, rv] H K := by
  refine g38 hJ fun ok => ?_
  rw [e38, ht.val]
  refine qBox (tro_one ht) fun H1 p1 e1 S1 c1 l1 => ?_
  have tk := tro_kn ht
  refine load_part (c := troCells t fv) c1 (by simp [troCells]) rfl tk (good86 hJ ⟨rfl, S1.sli ht.fl (by simp)⟩ (S1.sli hr (by simp)) hl (neqI (cndI (fun g1 => ?_) fun g1 => ?_)))
  · have e : lastE t r = rotaE t r := by unfold lastE; rw [if_pos g1]
    have e' : lastA t r = 0 := by unfold lastA; rw [if_neg fun x => g1 x.1]
    refine retL_same (by simp [unk]) ?_
    have := hK H1 S1
    rw [e, e'] at this
    exact this
  · obtain ⟨f, g⟩ := rotaE_fine (by omega : rotaE t r = 0)
    refine load_part (c := troCells t fv) c1 (by simp [troCells]) rfl tk (good89 hJ ⟨rfl, S1.sli ht.fl (by simp)⟩ (S1.sli hr (by simp)) f g fun H2 S2 => ?_)
    have T2 := S1.trans S2
    refine lssI (cndI (fun g2 => ?_) fun g2 => ?_)
    · have e : lastE t r = 11 := by unfold lastE; rw [if_neg g1, if_pos g2]
      have e' : lastA t r = 0 := by unfold lastA; rw [if_neg fun x => by have := x.2; omega]
      refine retL_same (by simp [unk]) ?_
      have := hK H2 T2
      rw [e, e'] at this
      exact this
    · have e : lastE t r = 0 := by unfold lastE; rw [if_neg g1, if_neg g2]
      have e' : lastA t r = lastsR t r := by unfold lastA; rw [if_pos ⟨by omega, by omega⟩]
      refine retL_same (by simp [unk]) ?_
      have := hK H2 T2
      rw [e, e'] at this
      exact this
end
end Go.Proofs.Ytindillghipjjaa

namespace Go.Proofs.Ytindillghipjjaa
open Go.Conc Go.Proofs.Try
set_option maxRecDepth 100000
theorem gapG_skip {r : List Int} {f : Int} {a : Nat} : ∀ {b : Nat}, a ≤ b → (∀ j, a ≤ j → j < b → ¬ occ r f j) → gapG r f b = gapG r f a
  | 0, h, _ => by rw [show a = 0 from by omega]
  | b + 1, h, hn => by
    rcases Nat.lt_or_ge b a with x | x
    · rw [show b + 1 = a from by omega]
    · have e : gapG r f (b + 1) = gapG r f b := by
        conv => lhs; unfold gapG
        rw [if_neg (hn b x (by omega))]
      rw [e]
      exact gapG_skip x fun j h1 h2 => hn j h1 (by omega)
theorem turn_twice {r : List Int} {i : Nat} (hr : 0 < r.length) (hi : i < r.length + r.length) : (r ++ r)[i]? = some (turnOf r i) := by
  unfold turnOf
  rw [List.getD_eq_getElem?_getD]
  rcases Nat.lt_or_ge i r.length with x | x
  · rw [List.getElem?_append_left x, Nat.mod_eq_of_lt x, List.getElem?_eq_getElem x]
    rfl
  · have e : i % r.length = i - r.length := by
      rw [Nat.mod_eq_sub_mod x, Nat.mod_eq_of_lt (by omega)]
    rw [List.getElem?_append_right x, e, List.getElem?_eq_getElem (by omega)]
    rfl

def unfTo (t : Tro) (r : List Int) (i : Nat) : List Int := ((List.range i).filter fun (i : Nat) => decide (gapR r i = 0 ∨ gapR r i > (droAt t i).every)).map Int.ofNat
def unfL (t : Tro) (r : List Int) : List Int := unfTo t r t.flocks.length
def gapsTo (r : List Int) (i : Nat) : List Int := (List.range i).map fun (i : Nat) => gapR r i
theorem unfTo_succ {t : Tro} {r : List Int} {i : Nat} : unfTo t r (i + 1) = if gapR r i = 0 ∨ gapR r i > (droAt t i).every then unfTo t r i ++ [(i : Int)] else unfTo t r i := by
  unfold unfTo
  rw [List.range_succ, List.filter_append]
  by_cases h : gapR r i = 0 ∨ gapR r i > (droAt t i).every
  · simp [h]
  · simp [h]
theorem gapsTo_succ {r : List Int} {i : Nat} : gapsTo r (i + 1) = gapsTo r i ++ [gapR r i] := by simp [gapsTo, List.range_succ]
theorem unfTo_len {t : Tro} {r : List Int} (n : Nat) : (unfTo t r n).length ≤ n := by
  unfold unfTo
  rw [List.length_map]
  have := List.length_filter_le (fun (i : Nat) => decide (gapR r i = 0 ∨ gapR r i > (droAt t i).every)) (List.range n)
  simpa using this
theorem gapR_bd {r : List Int} (hr : r ≠ []) (f : Int) : 0 ≤ gapR r f ∧ gapR r f ≤ r.length := by
  refine ⟨gapR_nonneg, ?_⟩
  rw [gapR_le hr (by omega)]
  intro i ho
  have hp : 0 < r.length := by cases r <;> simp at hr ⊢
  exact ⟨r.length, hp, Int.le_refl _, (occ_mod f i).2 ho⟩

section
variable {main : Bool} {J : JT} {h H : List AObj} {K : Value → List AObj → Prop} {KV : Value → Prop} {n0 : Nat}
theorem capI {b : Option Addr} {n c : Nat} (h : c < fz) (hk : KV (vint c)) : aCapS (.slice b n c) KV := ⟨h, hk⟩

theorem len0 {K' : Value → Prop} (hk : K' (vint 0)) : aLenS (.slice none 0 0) K' := hk
theorem sl2nil {K' : Value → Prop} (hk : K' (.slice none 0 0)) : aSl2 1 (.slice none 0 0) none (some (vint 0)) h K' := ⟨Nat.le_refl _, ⟨rfl, rfl⟩, hk⟩
theorem sl2zero {b n : Nat} {cs : List Value} {wr : Bool} {K' : Value → Prop} (hb : h[b]? = some (.cells cs wr 1)) (hk : K' (.slice (some ⟨b, 0, none⟩) 0 fz)) : aSl2 1 (.slice (some ⟨b, 0, none⟩) n fz) none (some (vint 0)) h K' := by
  refine ⟨Nat.le_refl _, fun hx => absurd hx (Nat.lt_irrefl _), fun _ => ?_⟩
  rw [hb]
  exact ⟨⟨rfl, rfl, by decide, by simp, .inl rfl⟩, hk⟩

theorem good132 (hJ : Closed prog main J) {n : Nat} (hn : 0 < n ∧ n ≤ 1000) (hK : ∀ H' b cs, SameX [] H H' → H'[b]? = some (.cells cs true 1) → H.length ≤ b → K (.slice (some ⟨b, 0, none⟩) 0 fz) H') : Good prog J 132 [.slice none 0 0, vint (n : Nat)] H K := by
  have hz : (0 : Nat) < fz := by decide
  have hr : room = 1073741824 := rfl
  refine g132 hJ fun ok => ?_
  rw [e132]
  refine lssI (cndI (fun hx => absurd hx (by omega)) fun _ => capI hz ?_)
  show aBin prog .sub 3 (vint 0) (vint 0) _
  refine subI (by omega) (subI (by omega) (gtrI (cndI (fun _ => capI hz (sl2nil ⟨by decide, ?_⟩)) fun hx => absurd hx (by omega))))
  have e : vint ((n : Int) - (0 - 0)) = vint (n : Nat) := by congr 1
  rw [e]
  refine ⟨⟨rfl, rfl, by omega, by omega⟩, fun hx => absurd hx (by omega), fun _ => ?_⟩
  refine len0 (sl2zero (cs := zrep [vint 0] n) (wr := true) (by simp) (retL_same (by simp [unk]) ?_))
  exact hK _ H.length (zrep [vint 0] n) SameX.refl.app (by simp) (Nat.le_refl _)

theorem good122 (hJ : Closed prog main J) {av rv : Value} {r : List Int} (ha : Sli H av 1 2 [rv, rv]) (hr : Sli H rv 1 r.length (r.map vint)) (hl : 0 < r.length ∧ r.length ≤ 100)
    (hK : ∀ H' v, SameX [] H H' → Sli H' v 1 (r ++ r).length ((r ++ r).map vint) → K v H') : Good prog J 122 [av] H K := by
  have hroom : room = 1073741824 := rfl
  refine g122 hJ fun ok => ?_
  rw [e122]
  refine lenI ha ?_
  refine l122_1 hJ (fun i : Nat => 2 - i) (fun i F H' => H' = H ∧ i ≤ 2 ∧ F.ds = [] ∧ F.r 0 = av ∧ F.r 3 = vint ((i * r.length : Nat) : Int) ∧ F.r 9 = av ∧ F.r 10 = vint (2 : Nat) ∧ F.r 11 = vint (i : Nat)) ?_ (s := 0)
    (.inl ⟨rfl, by omega, rfl, rfl, by show vint 0 = vint _; congr 1; omega, rfl, rfl, rfl⟩)
  rintro i F H' ⟨rfl, hi, ds, r0, r3, r9, r10, r11⟩ okc hnc
  rw [s122_1, r0, r3, r9, r10, r11]
  refine lssI (cndI (fun hlt => ?_) fun hge => ?_)
  · have hx : ([rv, rv] : List Value)[((i : Nat) : Int).toNat]? = some rv := by
      have : i = 0 ∨ i = 1 := by omega
      rcases this with rfl | rfl <;> rfl
    refine idx_load ha ⟨by omega, by omega⟩ hx fun p => lenI hr (addI ?_ (lssI (cndI (fun hx => ?_) fun _ => addI (by omega) ?_)))
    · have : i = 0 ∨ i = 1 := by omega
      rcases this with rfl | rfl <;> omega
    · have : 0 ≤ ((i * r.length : Nat) : Int) := Int.natCast_nonneg _
      omega
    · refine ⟨i + 1, by dsimp only; omega, .inl ⟨rfl, by omega, ds, r0, ?_, r9, r10, by show vint _ = vint _; congr 1⟩⟩
      show vint _ = vint _
      congr 1
      rw [Nat.succ_mul]
      omega
  · have hi2 : i = 2 := by omega
    subst hi2
    refine good132 hJ (n := 2 * r.length) (by omega) fun H2 b cs S2 cb gb => lenI (S2.sli ha (by simp)) ?_
    refine l122_2 hJ (fun i : Nat => 2 - i) (fun i F H3 => i ≤ 2 ∧ SameX [] H' H3 ∧ F.ds = [] ∧ F.r 25 = av ∧ F.r 26 = vint (2 : Nat) ∧ F.r 27 = vint (i : Nat) ∧ ∃ b cs, H'.length ≤ b ∧ H3[b]? = some (.cells cs true 1) ∧ F.r 6 = .slice (some ⟨b, 0, none⟩) (i * r.length) fz ∧ i * r.length ≤ cs.length ∧ cs.take (i * r.length) = ((r ++ r).take (i * r.length)).map vint) ?_ (s := 0)
      (.inl ⟨by omega, S2, ds, rfl, rfl, rfl, b, cs, gb, cb, by show Value.slice _ _ _ = _; rw [Nat.zero_mul], by omega, by rw [Nat.zero_mul]; rfl⟩)
    rintro j F3 H3 ⟨hj, S3, ds3, r25, r26, r27, b3, cs3, g3, c3, r6, hl3, ht3⟩ okc3 hnc3
    rw [s122_2, r25, r26, r27, r6, ds3]
    refine lssI (cndI (fun hlt => ?_) fun hge => ?_)
    · have hj2 : j = 0 ∨ j = 1 := by omega
      have hx : ([rv, rv] : List Value)[((j : Nat) : Int).toNat]? = some rv := by
        rcases hj2 with rfl | rfl <;> rfl
      have hkn : kn (cs3.take (j * r.length * 1)) = true := by
        rw [Nat.mul_one, ht3]
        exact kn_ints _
      refine idx_load (S3.sli ha (by simp)) ⟨by omega, by omega⟩ hx fun p => ⟨by decide, ?_⟩
      refine app_own (m := r.length) c3 (by omega) hkn (by decide) (S3.sli hr (by simp)) (by rcases hj2 with rfl | rfl <;> omega) (addI (by omega) ?_)
      have hb3 := lt_of_get c3
      have e1 : (j + 1) * r.length = j * r.length + r.length := Nat.succ_mul _ _
      refine ⟨j + 1, by dsimp only; omega, .inl ⟨by omega, ?_, ds3, r25, r26, by show vint _ = vint _; congr 1, H3.length, cs3.take (j * r.length * 1) ++ r.map vint, by have := S3.1; omega, ?_, by show Value.slice _ _ _ = _; rw [e1], ?_, ?_⟩⟩
      · exact (S3.set (.inr g3)).app
      · rw [List.getElem?_append_right (by simp)]
        simp
      · simp
        omega
      · have h1 : (cs3.take (j * r.length * 1)).length = j * r.length := by simp; omega
        rw [List.take_of_length_le (by simp; omega), Nat.mul_one, ht3]
        rw [e1, ← List.map_append]
        congr 1
        rcases hj2 with rfl | rfl
        · simp
        · rw [Nat.one_mul, List.take_left, List.take_of_length_le (by simp)]
    · have hj2 : j = 2 := by omega
      subst hj2
      refine retL_same (by simp [unk]) (hK H3 _ S3 ?_)
      have e : (r ++ r).length = 2 * r.length := by simp; omega
      rw [e]
      refine ⟨_, _, rfl, ⟨by simp; omega, kn_ints _⟩, .inr ⟨b3, 0, rfl, .inr ⟨cs3, true, 1, c3, ?_⟩⟩⟩
      rw [List.drop_zero, Nat.mul_one, ht3, List.take_of_length_le (by omega)]

theorem good95 (hJ : Closed prog main J) {rv : Value} {r : List Int} {f : Int} (hr : Sli H rv 1 r.length (r.map vint)) (hl : 0 < r.length ∧ r.length ≤ 100)
    (hK : ∀ H', SameX [] H H' → K (vint (gapR r f)) H') : Good prog J 95 [rv, vint f] H K := by
  have hrne : r ≠ [] := by intro e; rw [e] at hl; simp at hl
  refine g95 hJ fun ok => ?_
  rw [e95]
  have rvo := sli_val hr
  refine ⟨by decide, fill_one (l := [rv]) (by rw [rvo.1]) rfl (by simp [rvo.2.1]) (by decide) (fill_one (l := [rv]) (by rw [rvo.1]) rfl (by simp [rvo.2.1]) (Nat.le_of_ble_eq_true rfl) (fillI (qNew fun H1 p1 e1 S1 c1 l1 => ?_)))⟩
  have c1 : H1[p1]? = some (.cells [rv, rv] true 0) := c1
  have s1 : Sli H1 (.slice (some ⟨p1, 0, none⟩) 2 2) 1 2 [rv, rv] := ownX_sli (ownX_new (s := 1) (n := 2) (l := [rv, rv]) c1 rfl (by simp [kn, rvo.2.2]))
  refine good122 hJ s1 (S1.sli hr (by simp)) hl fun H2 cv S2 C2 => lenI C2 ?_
  have e2 : (r ++ r).length = r.length + r.length := List.length_append
  have T2 : SameX [] H H2 := S1.trans S2
  refine l95_1 hJ (fun i : Nat => (r ++ r).length - i) (fun i F H' => H' = H2 ∧ i ≤ (r ++ r).length ∧ F.ds = [] ∧ F.r 1 = vint f ∧ F.r 12 = cv ∧ F.r 13 = vint ((r ++ r).length : Nat) ∧ F.r 14 = vint (i : Nat) ∧
      ((F.r 5 = vint (-1) ∧ F.r 6 = vint 0 ∧ ∀ j, j < i → ¬ occ r f j) ∨ ∃ l : Nat, F.r 5 = vint (l : Nat) ∧ F.r 6 = vint (gapG r f l) ∧ l < i ∧ occ r f l ∧ ∀ j, l < j → j < i → ¬ occ r f j)) ?_ (s := 0)
    (.inl ⟨rfl, by omega, rfl, rfl, rfl, rfl, rfl, .inl ⟨rfl, rfl, by simp⟩⟩)
  rintro i F H' ⟨rfl, hi, ds, r1, r12, r13, r14, hst⟩ okc hnc
  have hgb := gapR_bd hrne f
  rw [s95_1, r1, r12, r13, r14, ds]
  refine lssI (cndI (fun hlt => ?_) fun hge => ?_)
  · have hturn := turn_twice hl.1 (i := i) (by omega)
    refine sli_num' C2 hturn fun q => neqI (cndI (fun hne => addI (by omega) ?_) fun heq => ?_)
    · refine ⟨i + 1, by dsimp only; omega, .inl ⟨rfl, by omega, ds, r1, r12, r13, by show vint _ = vint _; congr 1, ?_⟩⟩
      have hno : ¬ occ r f i := hne
      rcases hst with ⟨a, b, c⟩ | ⟨l, a, b, c, d, e⟩
      · refine .inl ⟨a, b, fun j hj => ?_⟩
        rcases Nat.lt_or_ge j i with x | x
        · exact c j x
        · rwa [show j = i from by omega]
      · refine .inr ⟨l, a, b, by omega, d, fun j h1 h2 => ?_⟩
        rcases Nat.lt_or_ge j i with x | x
        · exact e j h1 x
        · rwa [show j = i from by omega]
    · have ho : occ r f i := Decidable.of_not_not heq
      rcases hst with ⟨a, b, c⟩ | ⟨l, a, b, c, d, e⟩
      · rw [a, b]
        refine geqI (cndI (fun hx => absurd hx (by decide)) fun _ => addI (by omega) ?_)
        refine ⟨i + 1, by dsimp only; omega, .inl ⟨rfl, by omega, ds, r1, r12, r13, by show vint _ = vint _; congr 1, .inr ⟨i, rfl, ?_, by omega, ho, fun j h1 h2 => by omega⟩⟩⟩
        rw [gapG_none c]
        exact b
      · have hgl : 0 ≤ gapG r f l := gapG_nonneg l
        rw [a, b]
        refine geqI (cndI (fun _ => subI (by omega) (maxI (addI (by omega) ?_))) fun hx => absurd (by omega) hx)
        have hnd : nextD r f l = ((i - l : Nat) : Int) := nextD_at hrne d (by omega) (by rw [show l + (i - l) = i from by omega]; exact ho) fun x h1 h2 => e _ (by omega) (by omega)
        have hg : gapG r f i = max (gapG r f l) ((i : Int) - l) := by
          rw [gapG_skip (a := l + 1) (b := i) (by omega) fun j h1 h2 => e j (by omega) h2]
          conv => lhs; unfold gapG
          rw [if_pos d, hnd]
          congr 1
          omega
        exact ⟨i + 1, by dsimp only; omega, .inl ⟨rfl, by omega, ds, r1, r12, r13, by show vint _ = vint _; congr 1, .inr ⟨i, rfl, by rw [hg]; rfl, by omega, ho, fun j h1 h2 => by omega⟩⟩⟩
  · have hi2 : i = r.length + r.length := by omega
    have hres : F.r 6 = vint (gapR r f) := by
      rcases hst with ⟨a, b, c⟩ | ⟨l, a, b, c, d, e⟩
      · rw [b]
        congr 1
        exact (gapG_none (n := r.length) fun j hj => c j (by omega)).symm
      · rw [b]
        congr 1
        refine gapG_more hrne ?_
        rcases Nat.lt_or_ge l r.length with x | x
        · exact absurd ((occ_mod f l).2 d) (e _ (by omega) (by omega))
        · exact x
    rw [hres]
    exact retL_same (by simp [unk]) (hK _ T2)

theorem good94 (hJ : Closed prog main J) {v fv rv : Value} {t : Tro} {r : List Int} (ht : TroAt H v t fv) (hr : Sli H rv 1 r.length (r.map vint)) (f : TroFine t) (g : RotaFine t r)
    (hK : ∀ H' lv, SameX [] H H' → Sli H' lv 1 (unfL t r).length ((unfL t r).map vint) → K lv H') : Good prog J 94 [v, rv] H K := by
  refine g94 hJ fun ok => ?_
  rw [e94, ht.val]
  have fl := f.len
  have gl := g.len
  have kf := (sli_val ht.fl).2.2
  refine qBox (tro_one ht) fun H1 p1 e1 S1 c1 l1 => offI (ldI (v := fv) c1 rfl kf (lenI (S1.sli ht.fl (by simp)) ?_))
  refine l94_1 hJ (fun i : Nat => t.flocks.length - i) (fun i F H' => SameX [] H H' ∧ i ≤ t.flocks.length ∧ F.ds = [] ∧ F.r 1 = rv ∧ F.r 10 = fv ∧ F.r 11 = vint (t.flocks.length : Nat) ∧ F.r 12 = vint (i : Nat) ∧ ∃ o, OwnX H' 1 ((unfTo t r i).map vint) (unfTo t r i).length (F.r 5) o ∧ ∀ j, o = some j → H.length ≤ j) ?_ (s := 0)
    (.inl ⟨S1, by omega, rfl, rfl, rfl, rfl, rfl, none, ⟨rfl, rfl, .inl ⟨rfl, rfl, rfl⟩⟩, by simp⟩)
  rintro i F H' ⟨S, hi, ds, r1, r10, r11, r12, o, O, ho⟩ okc hnc
  rw [s94_1, r1, r10, r11, r12, ds]
  refine lssI (cndI (fun hlt => ?_) fun hge => ?_)
  · have hil : i < t.flocks.length := by omega
    obtain ⟨b, of, cs, wr, sz, hidx, hb, hol, hft, hkn⟩ := sliE_elem dro_len (by omega) (S.sli ht.fl (by simp)) hil
    refine hidx _ (load_part hb hol hft hkn ?_)
    refine qAl fun H2 p2 e2 S2 c2 l2 => qStA (c := t.flocks[i].cells) c2 rfl rfl rfl fun H3 S3 c3 l3 => ?_
    have S13 : SameX [] H' H3 := S2.thru S3 (by simp; omega)
    refine good95 hJ ((S.trans S13).sli hr (by simp)) (by omega) fun H4 S4 => ?_
    have S14 : SameX [] H' H4 := S13.trans S4
    have T4 : SameX [] H H4 := S.trans S14
    have hev : (droAt t i).every = t.flocks[i].every := by rw [droAt_mem hil]
    -- the end of a round
    have last : ∀ {F' : RG}, F'.ds = [] → F'.r 1 = rv → F'.r 10 = fv → F'.r 11 = vint (t.flocks.length : Nat) → F'.r 12 = vint (i : Nat) → F'.r 5 = F.r 5 → F'.r 6 = vint (i : Nat) → F'.r 27 = .bool (decide (gapR r i = 0 ∨ gapR r i > (droAt t i).every)) →
        W prog J 34 H.length 94 (subC [1, 1, 0, 1, 0, 0, 1, 1, 0, 0, 1, 1, 1] (codeOf f94)) F' H4 (contX pl94 prog J 34 H.length 94 ct94 [1, 1, 0, 1, 0, 0, 1, 1, 0, 0, 1, 1, 1] (codeOf f94) [Nx H.length (fun i : Nat => t.flocks.length - i) (fun i F H' => SameX [] H H' ∧ i ≤ t.flocks.length ∧ F.ds = [] ∧ F.r 1 = rv ∧ F.r 10 = fv ∧ F.r 11 = vint (t.flocks.length : Nat) ∧ F.r 12 = vint (i : Nat) ∧ ∃ o, OwnX H' 1 ((unfTo t r i).map vint) (unfTo t r i).length (F.r 5) o ∧ ∀ j, o = some j → H.length ≤ j) i] (RetQ prog [.tmp 4] H.length K)) := by
      intro F' ds r1 r10 r11 r12 r5 r6 r27
      have O4 := ownX_keep O S14 (by simp)
      have hul := unfTo_len (t := t) (r := r) i
      rw [s94_2, r27, r5, r6, r12]
      refine cndI (fun hc => ?_) fun hc => ?_
      · refine ⟨by decide, fill_one rfl rfl rfl (by decide) (fillI (qNew fun H5 p5 e5 S5 c5 l5 => ⟨by decide, ?_⟩))⟩
        have c5 : H5[p5]? = some (.cells [vint (i : Nat)] true 0) := c5
        refine ownX_more (ownX_keep O4 S5 (by simp)) (by omega) (by omega) (ownX_sli (ownX_new (s := 1) (n := 1) (l := [vint (i : Nat)]) c5 rfl rfl)) fun lv' H6 p6 e6 O6 S6 => addI (by omega) ?_
        have e1 : unfTo t r (i + 1) = unfTo t r i ++ [(i : Int)] := by rw [unfTo_succ, if_pos hc]
        refine ⟨i + 1, by dsimp only; omega, .inl ⟨(T4.trans S5).thru S6 fun y hy => .inr (ho y (by simpa using hy)), by omega, ds, r1, r10, r11, by show vint _ = vint _; congr 1, some p6, ?_, fun j hj => by cases hj; have := T4.1; have := S5.1; omega⟩⟩
        rw [e1, List.map_append, List.length_append]
        exact O6
      · have e1 : unfTo t r (i + 1) = unfTo t r i := by rw [unfTo_succ, if_neg hc]
        refine addI (by omega) ⟨i + 1, by dsimp only; omega, .inl ⟨T4, by omega, ds, r1, r10, r11, by show vint _ = vint _; congr 1, o, ?_, ho⟩⟩
        rw [e1]
        show OwnX H4 1 _ _ (F'.r 5) o
        rw [r5]
        exact O4
    refine eqlI (cndI (fun hz => hold.2 ?_) fun hz => ?_)
    · refine last ds r1 r10 r11 r12 rfl rfl ?_
      show Value.bool _ = _
      rw [decide_eq_true (show gapR r i = 0 ∨ gapR r i > (droAt t i).every from .inl hz)]
    · refine offI (ldI (v := vint t.flocks[i].every) (S4.get c3 (by simp)) rfl rfl (gtrI (hold.2 ?_)))
      refine last ds r1 r10 r11 r12 rfl rfl ?_
      show Value.bool (decide _) = _
      congr 1
      rw [hev]
      exact decide_eq_decide.2 ⟨.inr, fun h => h.resolve_left hz⟩
  · have : i = t.flocks.length := by omega
    subst this
    refine retL_same ?_ (hK H' _ S (ownX_sli O))
    intro v hv
    have : v = F.r 5 := by simpa using hv
    subst this
    intro e
    have := (ownX_val O).2.2
    rw [e] at this
    cases this

def unfA (t : Tro) (r : List Int) : List Int := if rotaE t r = 0 then unfL t r else []
def gapsA (t : Tro) (r : List Int) : List Int := if rotaE t r = 0 then gapsTo r t.flocks.length else []
theorem good52 (hJ : Closed prog main J) {v fv rv : Value} {t : Tro} {r : List Int} (ht : TroAt H v t fv) (hr : Sli H rv 1 r.length (r.map vint)) (hl : t.flocks.length ≤ 1000000)
    (hK : ∀ H' lv, SameX [] H H' → Sli H' lv 1 (unfA t r).length ((unfA t r).map vint) → K (.tuple ⟨[lv, vint (rotaE t r)]⟩) H') : Good prog J 52 [v, rv] H K := by
  refine g52 hJ fun ok => ?_
  rw [e52, ht.val]
  refine qBox (tro_one ht) fun H1 p1 e1 S1 c1 l1 => ?_
  have tk := tro_kn ht
  refine load_part (c := troCells t fv) c1 (by simp [troCells]) rfl tk (good86 hJ ⟨rfl, S1.sli ht.fl (by simp)⟩ (S1.sli hr (by simp)) hl (neqI (cndI (fun g1 => ?_) fun g1 => ?_)))
  · refine retL_same (by simp [unk]) ?_
    exact hK H1 (.slice none 0 0) S1 (by unfold unfA; rw [if_neg g1]; exact sli_nil)
  · have g0 : rotaE t r = 0 := by omega
    obtain ⟨f, g⟩ := rotaE_fine g0
    refine load_part (c := troCells t fv) c1 (by simp [troCells]) rfl tk (good94 hJ ⟨rfl, S1.sli ht.fl (by simp)⟩ (S1.sli hr (by simp)) f g fun H2 lv S2 L2 => ?_)
    have kl := (sli_val L2).2.2
    refine retL_same ?_ ?_
    · intro v hv
      rcases List.mem_cons.1 hv with rfl | hv
      · intro e
        rw [e] at kl
        cases kl
      · have : v = vint 0 := by simpa using hv
        subst this
        simp [unk]
    · have := hK H2 lv (S1.trans S2) (by unfold unfA; rw [if_pos g0]; exact L2)
      rw [g0] at this
      exact this

theorem good53 (hJ : Closed prog main J) {v fv rv : Value} {t : Tro} {r : List Int} (ht : TroAt H v t fv) (hr : Sli H rv 1 r.length (r.map vint)) (hl : t.flocks.length ≤ 1000000)
    (hK : ∀ H' lv, SameX [] H H' → Sli H' lv 1 (gapsA t r).length ((gapsA t r).map vint) → K (.tuple ⟨[lv, vint (rotaE t r)]⟩) H') : Good prog J 53 [v, rv] H K := by
  refine g53 hJ fun ok => ?_
  rw [e53, ht.val]
  refine qBox (tro_one ht) fun H1 p1 e1 S1 c1 l1 => ?_
  have tk := tro_kn ht
  have kf := (sli_val ht.fl).2.2
  refine load_part (c := troCells t fv) c1 (by simp [troCells]) rfl tk (good86 hJ ⟨rfl, S1.sli ht.fl (by simp)⟩ (S1.sli hr (by simp)) hl (neqI (cndI (fun g1 => ?_) fun g1 => ?_)))
  · refine retL_same (by simp [unk]) ?_
    exact hK H1 (.slice none 0 0) S1 (by unfold gapsA; rw [if_neg g1]; exact sli_nil)
  · have g0 : rotaE t r = 0 := by omega
    obtain ⟨f, g⟩ := rotaE_fine g0
    have fl := f.len
    have gl := g.len
    refine offI (ldI (v := fv) c1 rfl kf (lenI (S1.sli ht.fl (by simp)) ?_))
    refine l53_1 hJ (fun i : Nat => t.flocks.length - i) (fun i F H' => SameX [] H H' ∧ i ≤ t.flocks.length ∧ F.ds = [] ∧ F.r 1 = rv ∧ F.r 17 = vint (t.flocks.length : Nat) ∧ F.r 18 = vint (i : Nat) ∧ ∃ o, OwnX H' 1 ((gapsTo r i).map vint) (gapsTo r i).length (F.r 7) o ∧ ∀ j, o = some j → H.length ≤ j) ?_ (s := 0)
      (.inl ⟨S1, by omega, rfl, rfl, rfl, rfl, none, ⟨rfl, rfl, .inl ⟨rfl, rfl, rfl⟩⟩, by simp⟩)
    rintro i F H' ⟨S, hi, ds, r1, r17, r18, o, O, ho⟩ okc hnc
    rw [s53_1, r1, r17, r18, ds]
    refine lssI (cndI (fun hlt => ?_) fun hge => ?_)
    · refine good95 hJ (S.sli hr (by simp)) (by omega) fun H4 S4 => ⟨by decide, fill_one rfl rfl rfl (by decide) (fillI (qNew fun H5 p5 e5 S5 c5 l5 => ⟨by decide, ?_⟩))⟩
      have c5 : H5[p5]? = some (.cells [vint (gapR r i)] true 0) := c5
      have hgl : (gapsTo r i).length = i := by simp [gapsTo]
      refine ownX_more (ownX_keep (ownX_keep O S4 (by simp)) S5 (by simp)) (by omega) (by omega) (ownX_sli (ownX_new (s := 1) (n := 1) (l := [vint (gapR r i)]) c5 rfl rfl)) fun lv' H6 p6 e6 O6 S6 => addI (by omega) ?_
      refine ⟨i + 1, by dsimp only; omega, .inl ⟨((S.trans S4).trans S5).thru S6 fun y hy => .inr (ho y (by simpa using hy)), by omega, ds, r1, r17, by show vint _ = vint _; congr 1, some p6, ?_, fun j hj => by cases hj; have := S.1; have := S4.1; have := S5.1; omega⟩⟩
      rw [gapsTo_succ, List.map_append, List.length_append]
      exact O6
    · have : i = t.flocks.length := by omega
      subst this
      have kl := (ownX_val O).2.2
      refine retL_same ?_ ?_
      · intro v hv
        rcases List.mem_cons.1 hv with rfl | hv
        · intro e
          rw [e] at kl
          cases kl
        · have : v = vint 0 := by simpa using hv
          subst this
          simp [unk]
      · have := hK H' (F.r 7) S (by unfold gapsA; rw [if_pos g0]; exact ownX_sli O)
        rw [g0] at this
        exact this

end
end Go.Proofs.Ytindillghipjjaa

namespace Go.Proofs.Ytindillghipjjaa
open Go.Conc Go.Proofs.Try
set_option maxRecDepth 100000
theorem later_fine {t : Tro} {r : List Int} (g : RotaFine t r) {k : Nat} (hk : k < r.length) : RotaFine t (later r k) := by
  refine ⟨by rw [later_len (by omega)]; exact g.len, fun n hn => ?_⟩
  unfold later at hn
  rcases List.mem_append.1 hn with h | h
  · exact g.who n (List.mem_of_mem_drop h)
  · exact g.who n (List.mem_of_mem_take h)

section
variable {main : Bool} {J : JT} {h H : List AObj} {K : Value → List AObj → Prop} {KV : Value → Prop} {n0 : Nat}
theorem good25X (hJ : Closed prog main J) {av : Value} {xs : List Int} (ha : Sli H av 1 xs.length (xs.map vint)) (hl : xs.length < 1000000)
    (hK : ∀ H' v o, SameX [] H H' → OwnX H' 1 (xs.map vint) xs.length v (some o) → H.length ≤ o → K v H') : Good prog J 25 [av] H K := by
  refine g25 hJ fun ok => ?_
  rw [e25]
  refine ⟨by decide, fillI (qNew fun H1 p1 e1 S1 c1 l1 => ⟨by decide, ?_⟩)⟩
  have c1 : H1[p1]? = some (.cells [] true 0) := c1
  refine appX c1 (by omega) hl (S1.sli ha (by simp)) fun v' H2 p' O S hp => retL_same ?_ (hK H2 v' p' (S1.trans S) O (by omega))
  intro v hv
  have : v = v' := by simpa using hv
  subst this
  intro e
  have := (ownX_val O).2.2
  rw [e] at this
  cases this

theorem sl2from {cs : List Value} {len k i : Nat} {v : Value} (O : OwnX H 1 cs len v (some i)) (hk : k < len) (hl : len < 1000000) (hK : ∀ v', Sli H v' 1 (len - k) (cs.drop k) → KV v') : aSl2 1 v (some (vint (k : Nat))) none H KV := by
  obtain ⟨h1, h2, ⟨h3, _⟩ | ⟨i', c, sz, hi, rfl, h5, h6⟩⟩ := O
  · omega
  cases hi
  have hkn : kn (cs.drop k) = true := by
    unfold kn at h2 ⊢
    rw [List.all_eq_true] at h2 ⊢
    exact fun x hx => h2 x (List.mem_of_mem_drop hx)
  have hb : bnd 0 (some (vint (k : Nat))) = some k := by
    show (bif decide (0 ≤ (k : Int)) then some (k : Int).toNat else none) = some k
    rw [decide_eq_true (by omega)]
    simp
  have hs : ∀ o c, o = k → Sli H (.slice (some ⟨i, o, none⟩) (len - k) c) 1 (len - k) (cs.drop k) := fun o c ho => by
    subst ho
    refine ⟨_, _, rfl, ⟨by simp; omega, hkn⟩, .inr ⟨i, o, rfl, .inr ⟨cs, true, sz, h5, ?_⟩⟩⟩
    rw [List.take_of_length_le (by simp; omega)]
  have hfz : (1000000 : Nat) < fz := by decide
  unfold aSl2
  rw [hb]
  refine ⟨by omega, fun hc => ⟨?_, ?_⟩, fun hc => ?_⟩
  · rcases h6 with ⟨rfl, _⟩ | rfl
    · exact absurd hc (Nat.lt_irrefl _)
    · omega
  · refine hK _ (hs _ _ ?_)
    cases hbq : Nat.beq c k with
    | false => simp
    | true =>
      have := Nat.eq_of_beq_eq_true hbq
      rcases h6 with ⟨rfl, _⟩ | rfl
      · exact absurd hc (Nat.lt_irrefl _)
      · omega
  · rcases h6 with ⟨rfl, rfl⟩ | rfl
    · rw [h5]
      exact ⟨⟨rfl, rfl, by decide, by omega, .inr (by omega)⟩, hK _ (hs _ _ (by omega))⟩
    · omega
theorem sl2to {cs : List Value} {len k i : Nat} {v : Value} (O : OwnX H 1 cs len v (some i)) (hk : k ≤ len) (hl : len < 1000000) (h0 : 0 < len) (hK : ∀ v', Sli H v' 1 k (cs.take k) → KV v') : aSl2 1 v none (some (vint (k : Nat))) H KV := by
  obtain ⟨h1, h2, ⟨h3, _⟩ | ⟨i', c, sz, hi, rfl, h5, h6⟩⟩ := O
  · omega
  cases hi
  have hkn : kn (cs.take k) = true := by
    unfold kn at h2 ⊢
    rw [List.all_eq_true] at h2 ⊢
    exact fun x hx => h2 x (List.mem_of_mem_take hx)
  have hb : bnd len (some (vint (k : Nat))) = some k := by
    show (bif decide (0 ≤ (k : Int)) then some (k : Int).toNat else none) = some k
    rw [decide_eq_true (by omega)]
    simp
  have hs : ∀ o c, o = 0 → Sli H (.slice (some ⟨i, o, none⟩) (k - 0) c) 1 k (cs.take k) := fun o c ho => by
    subst ho
    refine ⟨_, _, rfl, ⟨by simp; omega, hkn⟩, .inr ⟨i, 0, rfl, .inr ⟨cs, true, sz, h5, ?_⟩⟩⟩
    rw [List.drop_zero, Nat.mul_one]
  have hfz : (1000000 : Nat) < fz := by decide
  unfold aSl2
  dsimp only
  rw [hb]
  refine ⟨Nat.zero_le _, fun hc => ⟨?_, ?_⟩, fun hc => ?_⟩
  · rcases h6 with ⟨rfl, _⟩ | rfl
    · exact absurd hc (Nat.lt_irrefl _)
    · omega
  · refine hK _ (hs _ _ ?_)
    cases Nat.beq c 0 <;> simp
  · rcases h6 with ⟨rfl, rfl⟩ | rfl
    · rw [h5]
      exact ⟨⟨rfl, rfl, by decide, by omega, .inl rfl⟩, hK _ (hs _ _ (by omega))⟩
    · omega
end
structure Reg12 (rv gv uv : Value) (p : Nat) (e : Int) (k : Nat) (F : RG) : Prop where
  ds : F.ds = []
  r4 : F.r 4 = ptr p 0
  r5 : F.r 5 = rv
  r6 : F.r 6 = gv
  r8 : F.r 8 = uv
  r11 : F.r 11 = vint e
  r12 : F.r 12 = vint (k : Nat)

section
variable {W0 : World} {Post : Value → World → Prop} {h H : List AObj} {K : Value → List AObj → Prop} {n0 : Nat}
theorem loop12 {t : Tro} {r : List Int} {fv rv gv uv : Value} {p i : Nat} {F : RG} (f : TroFine t) (hfull : t.well.now = t.well.holds) (g : RotaFine t r) (hp : H[p]? = some (.cells (troCells t fv) true 0)) (ht : SliE H fv 2 Dro.cells t.flocks) (hr : OwnX H 1 (r.map vint) r.length rv (some i))
    (hg : Sli H gv 1 (gapsTo r t.flocks.length).length ((gapsTo r t.flocks.length).map vint)) (hu : Sli H uv 1 (unfL t r).length ((unfL t r).map vint)) (G : Reg12 rv gv uv p (lastE t r) 1 F) (hK : ∀ h', K (.bool true) h') :
    Sem (J1 prog W0 Post) 120 n0 12 (subC [1, 1, 1, 1, 1, 1, 1, 1, 1, 0, 1, 0] (codeOf f12)) F H (contX pl12 prog (J1 prog W0 Post) 120 n0 12 ct12 [1, 1, 1, 1, 1, 1, 1, 1, 1, 0, 1, 0] (codeOf f12) [] (RetQ prog [.tmp 2] n0 K)) := by
  have hJ := J1.closed prog W0 Post
  have gl := g.len
  have fl := f.len
  have hrne : r ≠ [] := by intro e; rw [e] at gl; simp at gl
  refine l12_2 hJ (fun k : Nat => r.length + 1 - k) (fun k F H' => SameX [] H H' ∧ 1 ≤ k ∧ k ≤ r.length ∧ Reg12 rv gv uv p (lastE t r) k F) ?_ (s := 1) (.inl ⟨SameX.refl, by omega, by omega, G⟩)
  rintro k F H' ⟨S, hk1, hk, G⟩ ok hn
  obtain ⟨ds, r4, r5, r6, r8, r11, r12⟩ := G
  have ta : TroAt H (.agg ⟨troCells t fv⟩) t fv := ⟨rfl, ht⟩
  have kt := tro_kn ta
  have O' := ownX_keep hr S (by simp)
  rw [s12_2, r5, r12, ds]
  refine lenI (ownX_sli O') (lssI (cndI (fun hlt => ?_) fun hge => good19 fun H3 => retL_same (by simp [unk]) (hK _)))
  have hkl : k < r.length := by omega
  have gL := later_fine g hkl
  have e0 := fine_rotaE f gL
  have ll := later_len (r := r) (k := k) (by omega)
  have eG : gapsA t (later r k) = gapsTo r t.flocks.length := by
    unfold gapsA
    rw [if_pos e0]
    unfold gapsTo
    simp only [later_gap hrne hkl]
  have eU : unfA t (later r k) = unfL t r := by
    unfold unfA
    rw [if_pos e0]
    unfold unfL unfTo
    simp only [later_gap hrne hkl]
  have eE : lastE t (later r k) = lastE t r := by
    have h1 := fine_rotaE f g
    have h2 := later_lasts f hfull hrne hkl hk1
    unfold lastE
    rw [if_neg (show ¬ rotaE t (later r k) ≠ 0 by omega), if_neg (show ¬ rotaE t r ≠ 0 by omega)]
    by_cases hx : lastsR t r < 0
    · rw [if_pos hx, if_pos (h2.2 hx)]
    · rw [if_neg hx, if_neg fun y => hx (h2.1 y)]
  -- the rota that begins later
  have turn : ∀ {F' : RG} {H2 : List AObj} {xv : Value}, SameX [] H' H2 → Sli H2 xv 1 (later r k).length ((later r k).map vint) → F'.ds = [] → F'.r 4 = ptr p 0 → F'.r 5 = rv → F'.r 6 = gv → F'.r 8 = uv → F'.r 11 = vint (lastE t r) → F'.r 12 = vint (k : Nat) → F'.r 13 = xv →
      W prog (J1 prog W0 Post) 120 n0 12 (subC [1, 1, 1, 1, 1, 1, 1, 1, 1, 0, 1, 0, 0, 1, 0, 0, 1] (codeOf f12)) F' H2 (contX pl12 prog (J1 prog W0 Post) 120 n0 12 ct12 [1, 1, 1, 1, 1, 1, 1, 1, 1, 0, 1, 0, 0, 1, 0, 0, 1] (codeOf f12) [Nx n0 (fun k : Nat => r.length + 1 - k) (fun k F H' => SameX [] H H' ∧ 1 ≤ k ∧ k ≤ r.length ∧ Reg12 rv gv uv p (lastE t r) k F) k] (RetQ prog [.tmp 2] n0 K)) := by
    intro F' H2 xv S2 X2 ds r4 r5 r6 r8 r11 r12 r13
    have T2 := S.trans S2
    rw [s12_3, r4, r6, r8, r11, r13]
    refine load_part (c := troCells t fv) (T2.get hp (by simp)) (by simp [troCells]) rfl kt ?_
    refine good53 hJ (troAt_same ta T2 (by simp)) X2 (by omega) fun H3 cv S3 C3 => ext0 (ext1 ?_)
    have T3 := T2.trans S3
    refine load_part (c := troCells t fv) (T3.get hp (by simp)) (by simp [troCells]) rfl kt ?_
    refine good52 hJ (troAt_same ta T3 (by simp)) (S3.sli X2 (by simp)) (by omega) fun H4 dv S4 D4 => ext0 (ext1 ?_)
    have T4 := T3.trans S4
    refine load_part (c := troCells t fv) (T4.get hp (by simp)) (by simp [troCells]) rfl kt ?_
    refine good38 hJ (troAt_same ta T4 (by simp)) ((S3.trans S4).sli X2 (by simp)) (by omega) fun H5 S5 => ext0 (ext1 ?_)
    have T5 := T4.trans S5
    rw [e0, eE]
    rw [eG] at C3
    rw [eU] at D4
    refine neqI (cndI (fun hx => absurd rfl hx) fun _ => neqI (cndI (fun hx => absurd rfl hx) fun _ => neqI (cndI (fun hx => absurd rfl hx) fun _ => ?_)))
    have hgl : (gapsTo r t.flocks.length).length < 4611686018427387904 := by simp [gapsTo]; omega
    have hul : (unfL t r).length < 4611686018427387904 := by have := unfTo_len (t := t) (r := r) t.flocks.length; unfold unfL; omega
    refine good28 hJ (T5.sli hg (by simp)) ((S4.trans S5).sli C3 (by simp)) hgl (notI (cndN (fun hx => absurd rfl hx) fun _ => ?_))
    refine good28 hJ (T5.sli hu (by simp)) (S5.sli D4 (by simp)) hul (notI (hold.2 ?_))
    rw [s12_4]
    refine cndN (fun hx => absurd rfl hx) fun _ => ?_
    show aBin prog .add 3 (F'.r 12) _ _
    rw [r12]
    refine addI (by omega) ⟨k + 1, by dsimp only; omega, .inl ⟨T5, by omega, by omega, ⟨ds, r4, r5, r6, r8, r11, by show vint _ = vint _; congr 1⟩⟩⟩
  have X : ∀ {H1 : List AObj} {v : Value}, SameX [] H' H1 → Sli H' v 1 (r.length - k) ((r.map vint).drop k) → Sli H1 v 1 (r.drop k).length ((r.drop k).map vint) := fun S1 hs => by
    rw [List.length_drop, List.map_drop]
    exact S1.sli hs (by simp)
  have app : ∀ {H1 : List AObj} {xv yv : Value} {o : Nat} {Kp : Value → List AObj → Prop}, SameX [] H' H1 → H'.length ≤ o → OwnX H1 1 ((r.drop k).map vint) (r.drop k).length xv (some o) → Sli H1 yv 1 k ((r.map vint).take k) →
      (∀ v H2, SameX [] H' H2 → Sli H2 v 1 (later r k).length ((later r k).map vint) → Kp v H2) → aApp 1 xv yv H1 Kp := by
    intro H1 xv yv o Kp S1 ho O1 Y1 hk'
    have hdl : (r.drop k).length = r.length - k := List.length_drop
    refine ownX_app O1 (by omega) (by omega) (by omega) Y1 fun v' H2 p2 e2 O2 S2 l2 => hk' v' H2 (S1.thru S2 (by simp; omega)) ?_
    have := ownX_sli O2
    have e1 : (later r k).length = (r.drop k).length + k := by unfold later; simp; omega
    have e3 : (later r k).map vint = (r.drop k).map vint ++ (r.map vint).take k := by unfold later; rw [List.map_append, List.map_take]
    rw [e1, e3]
    exact this
  refine ⟨sl2from O' hkl (by omega) fun v1 h1 => ⟨?_, ?_⟩, ?_⟩
  · refine good25X hJ (X SameX.refl h1) (by simp; omega) fun H1 v2 o S1 O1 ho => ?_
    refine sl2to (ownX_keep O' S1 (by simp)) (by omega) (by omega) (by omega) fun v3 h3 => ⟨by decide, app S1 ho O1 h3 fun v H2 S2 X2 => hold.2 ?_⟩
    exact turn S2 X2 ds r4 r5 r6 r8 r11 r12 rfl
  · refine sl2to O' (by omega) (by omega) (by omega) fun v3 h3 => good25X hJ (X SameX.refl h1) (by simp; omega) fun H1 v2 o S1 O1 ho => ⟨by decide, app S1 ho O1 (S1.sli h3 (by simp)) fun v H2 S2 X2 => hold.2 ?_⟩
    exact turn S2 X2 ds r4 r5 r6 r8 r11 r12 rfl
  · refine sl2to O' (by omega) (by omega) (by omega) fun v3 h3 => sl2from O' hkl (by omega) fun v1 h1 => good25X hJ (X SameX.refl h1) (by simp; omega) fun H1 v2 o S1 O1 ho => ⟨by decide, app S1 ho O1 (S1.sli h3 (by simp)) fun v H2 S2 X2 => hold.2 ?_⟩
    exact turn S2 X2 ds r4 r5 r6 r8 r11 r12 rfl

theorem walk12 {nv : Value} {ns : List Int} (sn : Sli h nv 1 ns.length (ns.map vint)) (hln : ns.length < 4611686018427387904) (hK : ∀ h', K (.bool true) h') :
    W prog (J1 prog W0 Post) 120 h.length 12 (codeOf f12) (RG.mk (regs [nv]) []) h (RetQ prog [.tmp 2] h.length K) := by
  have hJ := J1.closed prog W0 Post
  rw [e12]
  refine newX hJ sn hln fun H0 a0 => ?_
  refine good21 hJ a0 (by omega) (by omega) (by omega) fun t0 fv o H1 ot S1 a1 TO => ?_
  have f0 := ot.fine (by omega)
  have fl := f0.len
  have ta := TO.at
  refine qAl fun H2 p2 e2 S2 c2 l2 => qStA (c := troCells t0 fv) c2 rfl rfl (tro_one ta) fun H3 S3 c3 l3 => ?_
  refine offI (offI (ldI (v := vint t0.well.holds) c3 rfl rfl (offI (offI ?_))))
  refine qSt c3 (by simp [troCells]) rfl rfl fun H4 S4 c4 l4 => ?_
  obtain ⟨t, hte⟩ : ∃ t : Tro, t = ⟨{ t0.well with now := t0.well.holds }, t0.flocks⟩ := ⟨_, rfl⟩
  have f : TroFine t := by
    subst hte
    exact ⟨f0.holds, ⟨by have := f0.holds; show 0 ≤ t0.well.holds; omega, Int.le_refl _⟩, f0.fill, f0.len, f0.dro⟩
  have hfull : t.well.now = t.well.holds := by subst hte; rfl
  have hfl : t.flocks = t0.flocks := by subst hte; rfl
  have c4 : H4[p2]? = some (.cells (troCells t fv) true 0) := by subst hte; exact c4
  have hl1 := a1.lt
  have S14 : SameX [] H1 H4 := (S2.thru S3 (by simp; omega)).thru S4 (by simp; omega)
  have TO4 : TroO h H4 t fv o := by
    have := TO.same S14 (by simp)
    exact ⟨by rw [hfl]; exact this.fl, this.b⟩
  have a4 := a1.same S14 (by simp)
  have kt := tro_kn TO4.at
  have fl' := f.len
  refine load_part (c := troCells t fv) c4 (by simp [troCells]) rfl kt ?_
  refine good36 hJ a4 (by omega) TO4.at (fun S => (TO4.same S (fun j hj => by have := TO4.b j hj; simp; omega)).at.fl) (by omega) (by omega) fun r rv o' H5 g hrl S5 a5 RO ho' => ?_
  have TO5 := TO4.same S5 (fun j hj => by have := TO4.b j hj; simp; omega)
  have c5 := S5.get c4 (by simp; omega)
  have gl := g.len
  obtain ⟨i, hi⟩ : ∃ i, o' = some i := by
    obtain ⟨_, _, ⟨h3, _⟩ | ⟨i, _, _, hi, _⟩⟩ := RO.l
    · omega
    · exact ⟨i, hi⟩
  subst hi
  have e0 := fine_rotaE f g
  refine load_part (c := troCells t fv) c5 (by simp [troCells]) rfl kt ?_
  refine good53 hJ TO5.at RO.sli (by omega) fun H6 gv S6 G6 => ext0 (ext1 ?_)
  refine load_part (c := troCells t fv) (S6.get c5 (by simp)) (by simp [troCells]) rfl kt ?_
  refine good52 hJ (TO5.same S6 (by simp)).at (S6.sli RO.sli (by simp)) (by omega) fun H7 uv S7 U7 => ext0 (ext1 ?_)
  have T7 := S6.trans S7
  refine load_part (c := troCells t fv) (T7.get c5 (by simp)) (by simp [troCells]) rfl kt ?_
  refine good38 hJ (TO5.same T7 (by simp)).at (T7.sli RO.sli (by simp)) (by omega) fun H8 S8 => ext0 (ext1 ?_)
  have T8 := T7.trans S8
  rw [e0]
  have eG : gapsA t r = gapsTo r t.flocks.length := by unfold gapsA; rw [if_pos e0]
  have eU : unfA t r = unfL t r := by unfold unfA; rw [if_pos e0]
  rw [eG] at G6
  rw [eU] at U7
  have last : ∀ {F' : RG}, F'.ds = [] → F'.r 4 = ptr p2 0 → F'.r 5 = rv → F'.r 6 = gv → F'.r 8 = uv → F'.r 11 = vint (lastE t r) → F'.r 63 = .bool false →
      W prog (J1 prog W0 Post) 120 h.length 12 (subC [1, 1, 1, 1, 1, 1, 1, 1, 0, 1] (codeOf f12)) F' H8 (contX pl12 prog (J1 prog W0 Post) 120 h.length 12 ct12 [1, 1, 1, 1, 1, 1, 1, 1, 0, 1] (codeOf f12) [] (RetQ prog [.tmp 2] h.length K)) := by
    intro F' ds r4 r5 r6 r8 r11 r63
    rw [s12_1, r63]
    exact cnd_false.2 (loop12 f hfull g (T8.get c5 (by simp)) (TO5.same T8 (by simp)).at.fl (ownX_keep RO.l T8 (by simp)) ((S7.trans S8).sli G6 (by simp)) (S8.sli U7 (by simp)) ⟨ds, r4, r5, r6, r8, r11, rfl⟩ hK)
  refine neqI (cndI (fun hx => absurd rfl hx) fun _ => neqI (cndI (fun hx => absurd rfl hx) fun _ => neqI (cndI (fun hx => neqI (hold.2 ?_)) fun hx => hold.2 ?_)))
  · have h11 : lastE t r = 11 := by
      unfold lastE at hx ⊢
      rw [if_neg (by omega)] at hx ⊢
      by_cases hz : lastsR t r < 0
      · rw [if_pos hz]
      · rw [if_neg hz] at hx
        exact absurd rfl hx
    refine last rfl rfl rfl rfl rfl rfl ?_
    show Value.bool (decide (lastE t r ≠ 11)) = _
    rw [h11]
    rfl
  · exact last rfl rfl rfl rfl rfl rfl rfl
end
end Go.Proofs.Ytindillghipjjaa

namespace Go.Proofs.Ytindillghipjjaa
open Go.Conc
section
variable {P : Program} {W0 : World} {Post : Value → World → Prop} {ρ : Env} {h : List AObj} {FC : Frm} {w : World} {ft : Foot} {f : RG} {a : Act} {b : FB} {K : Value → List AObj → Prop} {n0 : Nat}
theorem leave_top {fn : Func} (hk : b.kind = .normal) (hf : P.funcs[b.fn]? = some fn) (hin : P.inits.idxOf? b.fn = none)
    (hc : ∀ v h' ρ' w' ft' cv, K v h' → HRel ρ' h' FC w' ft' → Env.upto n0 ρ ρ' → n0 ≤ h'.length → VRel h'.length ρ' v cv → Base W0 w' → Post cv w') :
    ∀ (ds : List Nat) (h : List AObj) (w : World) (ft : Foot) (a : Act) (fr : Frame), fr.fn = b.fn → fr.kind = .normal → fr.mode = .returning → fr.tmps = a.tmps → fr.defers = ds.map (fun d => { target := .collected (ρ.blk d), args := #[] }) → RegRel h.length ρ f.r a.tmps → HRel ρ h FC w ft → n0 ≤ h.length →
      takeW ds h (fun h => resW P fn.results.toList f.r h fun vs => K (pack vs) h ∨ ∃ σ h' v, GC n0 σ h h' ∧ pack vs = sub σ v ∧ VOk h'.length v ∧ K v h') → J1 P W0 Post (G fr []) w ft
  | [], h, w, ft, a, fr, e1, e2, e3, e4, e5, hr, H, hn, hq => by
    obtain ⟨fn', tmps, todo, defers, mode, kind, ro⟩ := fr
    simp only at e1 e2 e3 e4 e5
    subst e1 e2 e3 e4 e5
    refine J1.both rfl fun w₁ h₁ hbase => .inr ?_
    have H₁ := H.rely h₁
    have hrun : RunsTo P (EvOk ft) (results fn a.tmps) w₁ fun cv w' => w' = w₁ ∧ ∃ vs, cv = ren ρ (pack vs) ∧ (∀ v ∈ vs, VOk h.length v) ∧ (K (pack vs) h ∨ ∃ σ h' v, GC n0 σ h h' ∧ pack vs = sub σ v ∧ VOk h'.length v ∧ K v h') := by
      unfold results
      have : (fn.results.mapM (resF a.tmps)) = List.toArray <$> fn.results.toList.mapM (resF a.tmps) := by
        rw [Array.mapM_eq_mapM_toList]
      show RunsTo P (EvOk ft) (do
        let vs ← fn.results.mapM (resF a.tmps)
        pure (if h : vs.size = 1 then vs[0] else .tuple vs)) w₁ _
      rw [this]
      refine RunsTo.bind (RunsTo.map (res_run (n := 0) H₁ hr fn.results.toList hq fun vs hvs hok => RunsTo.pure ⟨rfl, vs, ?_, hok, hvs⟩))
      exact pack_ren vs
    obtain ⟨cv, w', es, hr', he, rfl, vs, rfl, hvok, hvs⟩ := hrun #[] (by simp)
    have hes : ∀ e ∈ seen P b.fn es, EvOk ft e := fun e hm => he e (mem_seen hm)
    refine ⟨ren ρ (pack vs), seen P b.fn es, ?_, hes, ?_⟩
    · simp only [G, stepG, unwind, List.map_nil, hf, hr']
      simp [doReturn, GStep.after, hin]
    · rcases hvs with hK | ⟨σ, h', v, g, hp, hok, hK⟩
      · exact hc _ h _ w' ft _ hK H₁ (Env.upto_refl _ _) hn (.inr ⟨pack_ok hvok, rfl⟩) hbase
      · rw [hp, ren_sub]
        exact hc v h' _ w' ft _ hK (g.rel H₁) g.upto g.le (.inr ⟨hok, rfl⟩) hbase
  | d :: ds, h, w, ft, a, fr, e1, e2, e3, e4, e5, hr, H, hn, hq => by
    obtain ⟨fn', tmps, todo, defers, mode, kind, ro⟩ := fr
    simp only at e1 e2 e3 e4 e5
    subst e1 e2 e3 e4 e5
    obtain ⟨hd, hq⟩ := hq
    refine (J1.closed P W0 Post).step rfl fun w₁ h₁ => ?_
    have H₁ := H.rely h₁
    obtain ⟨cv, w', es, hr', he, rfl, H', hst, hsz⟩ := take_run (P := P) H₁ hd (Q := fun l w' => l = [] ∧ HRel ρ (h.set d .dead) FC w' ft ∧ Stays ft w₁ w' ∧ w'.heap.size = w₁.heap.size) (fun w' a1 a2 a3 => ⟨rfl, a1, a2, a3⟩) #[] (by simp)
    have hes : ∀ e ∈ seen P b.fn es, EvOk ft e := fun e hm => he e (mem_seen hm)
    refine ⟨G { fn := b.fn, tmps := a.tmps, todo := todo, defers := ds.map (fun d => { target := .collected (ρ.blk d), args := #[] }), mode := .returning, kind := .normal, roundOf := ro } [], w', seen P b.fn es, ?_, rfl, hst.guar hes, ?_⟩
    · simp only [G, stepG, unwind, List.map_cons, hr']
      simp [GStep.after]
    · rw [hsz, Foot.ext_self]
      exact leave_top hk hf hin hc ds _ w' ft a _ rfl rfl rfl rfl rfl (by rw [List.length_set]; exact hr) H' (by rw [List.length_set]; exact hn) hq

theorem top_of_W (hm : P.follows .mixedOrders = true) {g : FuncId} {fn : Func} (hf : P.funcs[g]? = some fn) {c : Code} (hb : fn.body = some c) (hin : P.inits.idxOf? g = none) {args : List Value} {cargs : Array Value} (ha : args.length ≤ fn.ntmps) (hl : cargs.size = args.length)
    (hr : ∀ i : Nat, VRel h.length ρ (args.getD i unk) (cargs.toList.getD i undef)) (H : HRel ρ h FC w ft)
    (hs : W P (J1 P W0 Post) fn.ntmps h.length g c ⟨regs args, []⟩ h (RetQ P fn.results.toList h.length K))
    (hc : ∀ v h' ρ' w' ft' cv, K v h' → HRel ρ' h' FC w' ft' → Env.upto h.length ρ ρ' → h.length ≤ h'.length → VRel h'.length ρ' v cv → Base W0 w' → Post cv w') : J1 P W0 Post (G (Frame.enter P g cargs .normal) []) w ft := by
  have hJ := J1.closed P W0 Post
  obtain ⟨cargs⟩ := cargs
  simp only at hl hr
  have he : Frame.enter P g ⟨cargs⟩ .normal = FB.at ⟨g, .normal, none⟩ ⟨⟨cargs⟩ ++ Array.replicate (fn.ntmps - cargs.length) undef, []⟩ [.code c] := by
    simp [Frame.enter, FB.at, hf, hb]
  rw [he]
  have A : ActRel h.length ρ fn.ntmps ⟨regs args, []⟩ ⟨⟨cargs⟩ ++ Array.replicate (fn.ntmps - cargs.length) undef, []⟩ := by
    refine ⟨fun t => ?_, by simp at hl ⊢; omega, rfl, by simp⟩
    have := hr t
    have ht : ((⟨cargs⟩ : Array Value) ++ Array.replicate (fn.ntmps - cargs.length) undef).getD t undef = cargs.getD t undef := by
      rw [Array.getD_eq_getD_getElem?, List.getD_eq_getElem?_getD]
      by_cases hx : t < cargs.length
      · rw [Array.getElem?_append_left (by simpa using hx)]
        simp
      · rw [Array.getElem?_append_right (by simp; omega), List.getElem?_eq_none (by omega)]
        simp only [Array.getElem?_replicate]
        split <;> rfl
    rw [ht]
    exact this
  have last : ∀ f' h' ρ' w' ft' a' todo, RetQ P fn.results.toList h.length K .ret f' h' → ActRel h'.length ρ' fn.ntmps f' a' → HRel ρ' h' FC w' ft' → Env.upto h.length ρ ρ' → h.length ≤ h'.length →
      J1 P W0 Post (G { (FB.at ⟨g, .normal, none⟩ a' todo) with mode := .returning } []) w' ft' := by
    intro f' h' ρ' w' ft' a' todo q A' H' hu hl
    exact leave_top (b := ⟨g, .normal, none⟩) (f := f') (n0 := h.length) (ρ := ρ') rfl hf hin (fun v h2 ρ2 w2 ft2 cv k H2 u2 l2 v2 => hc v h2 ρ2 w2 ft2 cv k H2 (Env.upto_trans hu u2) l2 v2) f'.ds h' w' ft' a' _ rfl rfl rfl rfl A'.defers A'.regs H' hl q
  refine W_sound hJ hm c hs ⟨g, .normal, none⟩ _ [] [] (fun jump a w ft => jump = some .ret ∧ ∀ todo, J1 P W0 Post (G { (FB.at ⟨g, .normal, none⟩ a todo) with mode := .returning } []) w ft) ρ FC w ft rfl (by simp) ?_ A H (Nat.le_refl _) ?_
  · rintro jump a w ft todo ⟨rfl, hj⟩ hh
    rcases hh with ⟨_, k, rfl⟩ | ⟨id, k, e, _⟩ | ⟨e, _⟩
    · exact hJ.ctrl rfl rfl (fun w => by simp [G, stepG, stepG.exec, FB.at]) (hj (.code .ret :: k))
    · cases e
    · cases e
  · intro e f' h' ρ' w' ft' a' q A' H' hu hl
    cases e with
    | normal => exact hJ.ctrl rfl rfl (fun w => by simp [G, stepG, stepG.exec, FB.at]) (last f' h' ρ' w' ft' a' [] q A' H' hu hl)
    | ret => exact ⟨rfl, fun todo => last f' h' ρ' w' ft' a' todo q A' H' hu hl⟩
    | exit id => exact q.elim
    | goto l => exact q.elim
    | panic l => exact q.elim
    | outgrown => exact q.elim

theorem run_of_J1 {g : Goroutine} {w : World} {ft : Foot} (h : J1 P W0 Post g w ft) (hb : ∀ b, ft.rd b → b < w.heap.size) (hs : ∀ b, ft.wr b → ft.rd b) (hw : W0 = w) : Ends P Post (solo g w) #[] := by
  rw [solo_eq_crowd]
  exact h #[g] w none #[] (fun _ => 0) hb hs (RelyW.refl _ _) (by subst hw; exact ⟨rfl, rfl, rfl, Nat.le_refl _⟩) rfl (leavers_one P g) (past_nil.mono (Nat.zero_le _))
end
end Go.Proofs.Ytindillghipjjaa

namespace Go.Proofs.Ytindillghipjjaa
open Go.Conc Go.RowKit
def idEnv : Env := ⟨fun b => b, fun _ => 0⟩
def startFt (w : World) : Foot := ⟨fun b => b < w.heap.size, fun _ => False⟩
def startFC (w : World) : Frm := ⟨fun b => w.heap[b]?, fun _ => False⟩

def Fine (n : Nat) (v : Value) : Prop := VOk n v ∧ one v = true ∧ ren idEnv v = v

open Classical in
noncomputable def clean (n : Nat) (v : Value) : Value := if Fine n v then v else unk

noncomputable def absO (n : Nat) : Obj → AObj
  | .cells c _ _ => .cells (c.toList.map (clean n)) false 0
  | _ => .dead

noncomputable def absH (w : World) : List AObj := w.heap.toList.map (absO w.heap.size)

section
variable {w w' : World} {n : Nat}
theorem clean_fine {v : Value} (h : Fine n v) : clean n v = v := by simp [clean, h]
theorem absH_len : (absH w).length = w.heap.size := by simp [absH]
theorem absH_get {b : Nat} : (absH w)[b]? = (w.heap[b]?).map (absO w.heap.size) := by simp [absH]

theorem absO_wrt (x : Obj) : (absO n x).wrt = false := by cases x <;> rfl

theorem start_rel (w : World) : HRel idEnv (absH w) (startFC w) w (startFt w) where
  obj := fun b o hb => by
    rw [absH_get] at hb
    obtain ⟨x, hx, rfl⟩ := Option.map_eq_some_iff.1 hb
    show ORel (absH w).length idEnv b (absO w.heap.size x) w.heap[b]?
    rw [absH_len, hx]
    cases x with
    | cells c ty fr =>
      refine ⟨fun i v hv => ?_, fun _ => by simp, fun hz => absurd rfl hz, fun e => by cases e⟩
      rw [List.getElem?_map] at hv
      obtain ⟨u, hu, rfl⟩ := Option.map_eq_some_iff.1 hv
      by_cases hf : Fine w.heap.size u
      · rw [clean_fine hf]
        exact .inr ⟨hf.1, hf.2.1, by rw [hf.2.2]; simpa using hu⟩
      · exact .inl ⟨by simp [clean, hf], rfl⟩
    | _ => trivial
  inj := fun b b' o o' _ _ _ _ e => e
  rd := fun b o hb _ => by
    have : b < (absH w).length := (List.getElem?_eq_some_iff.1 hb).1
    rw [absH_len] at this
    exact this
  wr := fun b o hb hw => by
    rw [absH_get] at hb
    obtain ⟨x, hx, rfl⟩ := Option.map_eq_some_iff.1 hb
    rw [absO_wrt] at hw
    cases hw
  lt := fun b hb => hb
  sub := fun b hb => hb.elim
  kept := fun b o hb => by
    refine ⟨hb, ?_, fun a oa ha hw => ?_⟩
    · exact (Array.getElem?_eq_some_iff.1 hb).1
    · rw [absH_get] at ha
      obtain ⟨x, hx, rfl⟩ := Option.map_eq_some_iff.1 ha
      rw [absO_wrt] at hw
      cases hw
  keptW := fun b hb => hb.elim

theorem absH_cell {b o : Nat} {v : Value} (hc : w.cell? ⟨b, o, none⟩ = some v) (hf : Fine w.heap.size v) : ∃ c, (absH w)[b]? = some (.cells c false 0) ∧ c[o]? = some v := by
  unfold World.cell? at hc
  simp only at hc
  split at hc
  · rename_i c ty fr hx
    refine ⟨c.toList.map (clean w.heap.size), by rw [absH_get, hx]; rfl, ?_⟩
    have hc' : c[o]? = some v := by simpa using hc
    rw [List.getElem?_map, Array.getElem?_toList, hc']
    simp [clean_fine hf]
  · cases hc

theorem below_of {ρ' : Env} {h' : List AObj} {ft' : Foot} (H : HRel ρ' h' (startFC w) w' ft') (B : Base w w') : Below w.heap.size w w' :=
  ⟨B.os, B.tape, B.output, B.size, fun k hk => by
    have : (startFC w).ob k = some w.heap[k] := by simp [startFC, hk]
    rw [(H.kept k _ this).1, Array.getElem?_eq_getElem hk]⟩
end
end Go.Proofs.Ytindillghipjjaa

namespace Go.Proofs.Ytindillghipjjaa
open Go.Conc Go.ChangeShapes Go.WideShapes Go.ChangeAt Go.RowKit Go.Proofs.Try
set_option maxRecDepth 100000
theorem own : ownKnob prog.godebug = none := by kernel_rfl
theorem laidOut : laidOutB prog = true := by kernel_rfl

def ArgOk (W : World) (v : Value) : Prop := VOk W.heap.size v ∧ ren idEnv v = v

theorem law_run1 {g : FuncId} {fn : Func} {c : Code} (hf : prog.funcs[g]? = some fn) (hb : fn.body = some c) (hin : prog.inits.idxOf? g = none) (W₀ : World) (args : List Value) (ha : args.length ≤ fn.ntmps) (hok : ∀ v ∈ args, ArgOk W₀ v)
    (walk : ∀ Post, W prog (J1 prog W₀ Post) fn.ntmps (absH W₀).length g c ⟨regs args, []⟩ (absH W₀) (RetQ prog fn.results.toList (absH W₀).length fun v _ => v = .bool true)) :
    Ends prog (fun v w' => v = .bool true ∧ Below W₀.heap.size W₀ w') (solo (G (Frame.enter prog g ⟨args⟩ .normal) []) W₀) #[] := by
  refine run_of_J1 (W0 := W₀) (ft := startFt W₀) (top_of_W mixed hf hb hin ha rfl (fun i => ?_) (start_rel W₀) (walk _) ?_) (fun b hb => hb) (fun b hb => hb.elim) rfl
  · show VRel (absH W₀).length idEnv (args.getD i unk) (args.getD i undef)
    simp only [List.getD_eq_getElem?_getD]
    cases hi : args[i]? with
    | none => exact .inl rfl
    | some v =>
      obtain ⟨h1, h2⟩ := hok v (List.mem_of_getElem? hi)
      exact .inr ⟨by rw [absH_len]; exact h1, h2.symm⟩
  · intro v h' ρ' w' ft' cv hv H' _ _ hcv hB
    subst hv
    refine ⟨?_, below_of H' hB⟩
    rcases hcv with e | ⟨_, e⟩
    · cases e
    · rw [e]
      rfl

section
variable {H : Type} {enc : TypeId × Value → H}
theorem arg_ints {t e : TypeId} (ht : prog.underlying t = some (.slice e)) (he : prog.underlying e = some (.int .i64)) (hc : prog.cellsOf e = 1) {W : World} {base : Nat} {v : Value} {d : DataW H} {ps : List MemPlace}
    (hval : Value.okWide prog W .any base t v) (hd : DataW.Trod enc prog W 0 (fun _ => true) true t v d ps) :
    ∃ zs : List Int, Sli (absH W) v 1 zs.length (zs.map vint) ∧ ArgOk W v ∧ (zs = [] ∨ ∃ es sp, d = .slice es sp ∧ zs.length ≤ es.length + sp.length) := by
  obtain ⟨a0, len, cap, rfl⟩ := okWide_slice ht hval
  obtain ⟨fuel, hf⟩ := hd
  rcases open_ints ht he hc hf with ⟨hcs, hx⟩ | ⟨a, len', cap', zs, hcs, _, hl, hm, hz, hx, hcell, hwz⟩
  · simp [Value.cells] at hcs
    obtain ⟨rfl, rfl, rfl⟩ := hcs
    exact ⟨[], sli_nil, ⟨by simp [VOk], by simp [ren]⟩, .inl rfl⟩
  · simp [Value.cells] at hcs
    obtain ⟨rfl, rfl, rfl⟩ := hcs
    simp only [Prod.mk.injEq] at hx
    obtain ⟨rfl, rfl⟩ := hx
    simp only [if_true] at hz
    simp only [Value.okWide, ht, Cell.okWide, Cell.ok, World.has] at hval
    obtain ⟨_, _, _, hspot, row, cells, hshape, _⟩ := hval
    obtain ⟨b, o, spot⟩ := a
    simp only at hspot hshape
    subst hspot
    have hb : b < W.heap.size := by
      unfold World.shape? at hshape
      split at hshape
      · rename_i h
        exact (Array.getElem?_eq_some_iff.1 h).1
      · cases hshape
    have hlen : (zs.take len).length = len := by simp; omega
    have hcell' : ∀ i, i < zs.length → W.cell? ⟨b, o + i, none⟩ = some (vint (zs.getD i 0)) := by
      intro i hi
      have := hcell i hi
      unfold Addr.add at this
      by_cases h0 : i = 0
      · subst h0; simpa using this
      · simpa [h0] using this
    have hmax : cap < fz := by
      simp only [maxLen] at hm
      unfold fz
      omega
    refine ⟨zs.take len, ?_, ⟨by simp only [VOk, AddrOk]; exact ⟨hb, trivial⟩, ?_⟩, .inr ⟨_, _, rfl, ?_⟩⟩
    · refine ⟨some ⟨b, o, none⟩, cap, by rw [hlen], ⟨by simp, kn_ints _⟩, .inr ⟨b, o, rfl, ?_⟩⟩
      rw [hlen]
      by_cases h0 : len = 0
      · exact .inl h0
      · right
        have fine : ∀ n : Int, Fine W.heap.size (vint n) := fun n => ⟨by simp [VOk], rfl, by simp [ren]⟩
        obtain ⟨c, hc1, hc2⟩ := absH_cell (hcell' 0 (by omega)) (fine _)
        refine ⟨c, false, 0, hc1, ?_⟩
        apply List.ext_getElem?
        intro i
        rw [Nat.mul_one]
        by_cases hi : i < len
        · obtain ⟨c', hc1', hc2'⟩ := absH_cell (hcell' i (by omega)) (fine _)
          rw [hc1] at hc1'
          cases hc1'
          rw [List.getElem?_take, if_pos hi, List.getElem?_drop, hc2']
          have hzi : i < zs.length := by omega
          simp [hi, hzi]
        · rw [List.getElem?_take, if_neg hi, List.getElem?_eq_none (by simp; omega)]
    · have hnf : ¬ fz ≤ cap := by omega
      simp [ren, renAddr, renCap, idEnv, hnf]
    · simp only [lits, List.length_map, List.length_take, List.length_drop]
      omega
end
end Go.Proofs.Ytindillghipjjaa

namespace Go.Proofs.Ytindillghipjjaa
open Go.Conc Go.ChangeShapes Go.WideShapes Go.ChangeAt Go.RowKit Go.Proofs.Try
set_option maxRecDepth 100000
theorem lifted12 (os : Os) (started : os.Started) (H : Type) (enc : TypeId × Value → H) :
    ReturnsInLeavingWide {} checked os 12 .any (Rows.wellTurnedSpec.pre6 enc prog f12 Rows.wellTurnedRow.domain false) (Rows.wellTurnedSpec.post enc prog f12 false true false false) := by
  refine returnsInLeavingWide_of_change_sized (C := checked) own started at12
    (ChangeSpec.witness6 (enc := enc) (C := checked) false ⟨#[], #[.slice none 0 0], []⟩ 8 (by kernel_rfl) (by kernel_rfl) (by kernel_rfl) (by kernel_rfl)) ?_
  intro W base args ds gs before hval0 hW _ hsz0 _
  have hsz : (DataW.weightsEach prog (f12.params.toList ++ Rows.wellTurnedSpec.plain.varTypes prog) (ds ++ gs)).all (· ≤ reachBytes) = true := hsz0
  clear hsz0
  have hval : ∀ (j : Nat) t v, f12.params[j]? = some t → args[j]? = some v → Value.okWide prog W .any base t v := hval0
  have hW' := hW
  obtain ⟨p, q, hA0, hV, rfl, _, _⟩ := hW
  have hA : DataW.TrodAll enc prog W 0 (fun _ => true) true f12.params.toList args.toList ds p := hA0
  have hps : f12.params = #[27] := by kernel_rfl
  rw [hps] at hA hval hsz
  obtain ⟨v0, d0, rfl, rfl, h0⟩ := trodAll_one hA
  obtain ⟨rfl, rfl⟩ := trodVars_none hV
  have u3 : prog.underlying 3 = some (.int .i64) := by kernel_rfl
  have u27 : prog.underlying 27 = some (.slice 3) := by kernel_rfl
  have u4 : prog.underlying 4 = some .bool := by kernel_rfl
  have c3 : prog.cellsOf 3 = 1 := by kernel_rfl
  have b3 : prog.bytesOf 3 = 8 := by kernel_rfl
  have hlt : ∀ x ∈ p, x.block < W.heap.size := fun x hx => by simpa using hW'.lt x (by simpa using hx)
  have hargs : ∀ (W' : World), Below W.heap.size W W' → DataW.TrodAll enc prog W' 0 (fun b => decide (b < W.heap.size)) true [27] [v0] [d0] p := fun W' hn =>
    trodAll_mk1 (Below.trod laidOut (by kernel_rfl) (of_decide_eq_true (by kernel_rfl)) h0 hn hlt)
  obtain ⟨ns, sn, ok2, hbig⟩ := arg_ints u27 u3 c3 (hval 0 27 v0 rfl rfl) h0
  have hln : ns.length < 4611686018427387904 := by
    rcases hbig with rfl | ⟨es, sp, rfl, hle⟩
    · simp
    · have := sized_slice hsz (j := 0) (t := 27) (e := 3) rfl rfl u27
      rw [b3] at this
      simp only [reachBytes] at this
      omega
  obtain ⟨M, last, o, w', t', r1, r2, r3, r4⟩ := law_run1 (g := 12) (fn := f12) at12 body12 (by kernel_rfl) W [v0] (Nat.le_of_ble_eq_true (by kernel_rfl : Nat.ble 1 f12.ntmps = true))
    (by
      intro v hv
      simp only [List.mem_cons, List.not_mem_nil, or_false] at hv
      subst hv
      exact ok2)
    (fun Post => walk12 (K := fun v _ => v = .bool true) sn hln fun _ => rfl)
  refine ⟨M, last, o, w', t', r1, r2, r3, r4.mono fun v hF => ?_⟩
  obtain ⟨rfl, hbelow⟩ := hF
  refine ⟨_, _, _, [], _, [], hW', ?_, hargs _ hbelow, by rfl, hbelow.frame _, fun h => by cases h⟩
  exact trodAll_mk1 (shut_bool u4 true)

theorem wellTurned_holds : Rows.WellTurnedSaid :=
  OpenClaim.holds_of_wide_leaving 12 f12 rfl rfl rfl rfl rfl rfl rfl ⟨rfl, rfl, rfl, rfl, rfl⟩ rfl rfl rfl rfl rfl (by kernel_rfl) at12 (by kernel_rfl)
    (of_decide_eq_true (by kernel_rfl)) (by unfold Func.isWrapper; first | (rw [if_pos (by decide +kernel)]; kernel_rfl) | (rw [if_neg (by decide +kernel)]; exact ⟨rfl, rfl⟩))
    (fun os started H enc _ => lifted12 os started H enc)

#print axioms wellTurned_holds
end Go.Proofs.Ytindillghipjjaa
