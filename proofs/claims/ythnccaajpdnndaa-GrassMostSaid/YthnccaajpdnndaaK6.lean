/- GrassMost answers true at every input, and its argument reads behind the call as it read before. No conditions. -/
import Derived.Test.YthnccaajpdnndaaK2
import Derived.Test.YthnccaajpdnndaaK3
import Derived.Test.YthnccaajpdnndaaK5
import Derived.Test.YthnccaajpdnndaaK4
import Derived.Below
import Derived.Test.YthnccaajpdnndaaRows
import Derived.Conc.LeavingOf
import Derived.ChangeSlices
import Derived.OpenShut
import Derived.Carry
set_option linter.unusedSimpArgs false
set_option linter.unusedVariables false
namespace Go.Proofs.Ythnccaajpdnndaa
open Go.Conc Go.Proofs.Try
set_option maxRecDepth 100000
set_option maxHeartbeats 4000000
set_option linter.unusedVariables false
section
variable {main : Bool} {J : JT} {n0 : Nat} {h : List AObj} {K : Value → List AObj → Prop}
theorem at93 : prog.funcs[93]? = some f93 := by kernel_rfl
theorem body93 : f93.body = some (codeOf f93) := by kernel_rfl
def pl93 : Plans := []
def ct93 : Cuts := .go
theorem pok93 : plansOk prog pl93 (codeOf f93) = true := by kernel_rfl
theorem e93 {a0 a1 a2 : Value} : W prog J 21 h.length 93 (codeOf f93) (RG.mk (regs [a0, a1, a2]) []) h (RetQ prog [.tmp 6] h.length K) =
(aBox a0 h fun v1 h2 =>
 aBox a1 h2 fun v3 h4 =>
 aBox a2 h4 fun v5 h6 =>
 aOff v5 0 fun v7 =>
 aLoad false 1 v7 h6 fun v8 =>
((List.length [(vint 0), (vint 0), (Value.bool false)] = 3 ∧ (24 : Nat) ≤ 1024) ∧ aMkS [(vint 0), (vint 0), (Value.bool false)] v8 v8 h6 fun v9 h10 =>
 aAlloc [(Value.slice none 0 0)] h10 fun v11 h12 =>
 aStore 1 v11 v9 h12 fun h13 =>
 aLoad true 3 v5 h13 fun v14 =>
 Good prog J 90 [v14] h13 fun v15 h16 =>
 Sem J 21 h.length 93 (subC [1, 1, 0, 1, 0] (codeOf f93)) (RG.p (RG.p (RG.p (RG.p (RG.p (RG.p (RG.p (RG.p (RG.p (RG.p (RG.mk (regs [a0, a1, a2]) []) 3 v1) 4 v3) 5 v5) 6 (Value.slice none 0 0)) 9 v7) 10 v8) 11 v9) 7 v11) 12 v14) 13 v15) h16 (contX pl93 prog J 21 h.length 93 ct93 [1, 1, 0, 1, 0] (codeOf f93) [] (RetQ prog [.tmp 6] h.length K)))) := top_eq pok93 ct93 (by kernel_rfl)
theorem g93 (hJ : Closed prog main J) {a0 a1 a2 : Value} (hs : heapOk h → W prog J 21 h.length 93 (codeOf f93) (RG.mk (regs [a0, a1, a2]) []) h (RetQ prog [.tmp 6] h.length K)) : Good prog J 93 [a0, a1, a2] h K :=
  good_of_W hJ mixed at93 body93 (by kernel_rfl) (Nat.le_of_ble_eq_true rfl) hs
theorem a93_1 {f : RG} {fr : FuncId} {Q : QT} : W prog J 21 n0 fr (subC [1, 1, 0, 1, 0, 0] (codeOf f93)) f h Q =
(Q .normal (RG.p f 8 (f.r 14)) h) := sub_eq pok93 ct93 (by kernel_rfl)
theorem b93_1 {f : RG} {fr : FuncId} {Q : QT} : W prog J 21 n0 fr (subC [1, 1, 0, 1, 0, 1] (codeOf f93)) f h Q =
(aLoad true 6 (f.r 3) h fun v1 =>
 aLoad false 1 (f.r 4) h fun v2 =>
 aMkF 130 [] [(f.r 7)] fun v3 =>
 Good prog J 86 [v1, v2, (f.r 8), v3] h fun v4 h5 =>
 Q .normal (RG.p (RG.p (RG.p (RG.p (RG.p f 15 v1) 16 v2) 17 (f.r 8)) 18 v3) 19 v4) h5) := sub_eq pok93 ct93 (by kernel_rfl)
theorem c93_1 {f : RG} : (contX pl93 prog J 21 n0 93 ct93 [1, 1, 0, 1, 0] (codeOf f93) [] (RetQ prog [.tmp 6] n0 K)) .normal f h =
(aLoad false 1 (f.r 7) h fun v1 =>
 retL n0 K f.ds [v1] h) := by kernel_rfl
theorem l93_1 (hJ : Closed prog main J) {f : RG} {g : FuncId} {first cap : List Value} (hx : ev f.r ((Go.Operand.tmp 13)) = .func (.func g) ⟨first⟩ ⟨cap⟩) (hg : g < prog.funcs.size)
  (hs : Good prog J g (first ++ [.func (.yield (h.length + 1)) ⟨[]⟩ ⟨[]⟩] ++ cap) (h ++ [.deferred] ++ [.loop .ready none 93 f.r 21 #[14] (subC [1, 1, 0, 1, 0, 0] (codeOf f93)) (subC [1, 1, 0, 1, 0, 1] (codeOf f93)) h.length]) (endQ h.length f (contX pl93 prog J 21 n0 93 ct93 [1, 1, 0, 1, 0] (codeOf f93) [] (RetQ prog [.tmp 6] n0 K)))) (hcall : callable prog g = true := by kernel_rfl) : Sem J 21 n0 93 (subC [1, 1, 0, 1, 0] (codeOf f93)) f h (contX pl93 prog J 21 n0 93 ct93 [1, 1, 0, 1, 0] (codeOf f93) [] (RetQ prog [.tmp 6] n0 K)) :=
  Sem_range hJ (by decide) (fop := (Go.Operand.tmp 13)) (params := #[14]) (assign := subC [1, 1, 0, 1, 0, 0] (codeOf f93)) (body := subC [1, 1, 0, 1, 0, 1] (codeOf f93)) hx hg hs hcall
theorem at130 : prog.funcs[130]? = some f130 := by kernel_rfl
theorem body130 : f130.body = some (codeOf f130) := by kernel_rfl
def pl130 : Plans := [(0, false, .take 0 (.take 1 (.take 2 (.take 3 (.take 4 (.take 5 (.take 6 (.last 7 true (.take 8 (.last 9 false (.fin)))))))))))]
def ct130 : Cuts := .go
theorem pok130 : plansOk prog pl130 (codeOf f130) = true := by kernel_rfl
theorem e130 {a0 a1 a2 a3 a4 : Value} : W prog J 18 h.length 130 (codeOf f130) (RG.mk (regs [a0, a1, a2, a3, a4]) []) h (RetQ prog [] h.length K) =
((∃ B, aLoad false 1 a4 h fun v1 =>
 RdOk (some B) (ptrBlk a4) ∧ (aLoad false 1 a4 h fun v2 =>
 RdOk (some B) (ptrBlk a4) ∧ (aIdx 3 v2 a0 fun v3 =>
 aLoad true 3 v3 h fun v4 =>
 RdOk (some B) (ptrBlk v3) ∧ (Good prog J 131 [v4, a1] h fun v5 h6 =>
 SameB (some B) h h6 ∧ (aIdx 3 v1 a0 fun v7 =>
 aStore 3 v7 v5 h6 fun h8 =>
 retL h.length K [] [] h8)))))) := top_eq pok130 ct130 (by kernel_rfl)
theorem g130 (hJ : Closed prog main J) {a0 a1 a2 a3 a4 : Value} (hs : heapOk h → W prog J 18 h.length 130 (codeOf f130) (RG.mk (regs [a0, a1, a2, a3, a4]) []) h (RetQ prog [] h.length K)) : Good prog J 130 [a0, a1, a2, a3, a4] h K :=
  good_of_W hJ mixed at130 body130 (by kernel_rfl) (Nat.le_of_ble_eq_true rfl) hs
theorem at131 : prog.funcs[131]? = some f131 := by kernel_rfl
theorem body131 : f131.body = some (codeOf f131) := by kernel_rfl
def pl131 : Plans := []
def ct131 : Cuts := .go
theorem pok131 : plansOk prog pl131 (codeOf f131) = true := by kernel_rfl
theorem e131 {a0 a1 : Value} : W prog J 20 h.length 131 (codeOf f131) (RG.mk (regs [a0, a1]) []) h (RetQ prog [.cell 4 127] h.length K) =
(aBox a0 h fun v1 h2 =>
 aAlloc [(vint 0), (vint 0), (Value.bool false)] h2 fun v3 h4 =>
 aOff v1 2 fun v5 =>
 aLoad false 1 v5 h4 fun v6 =>
 aUn .not v6 fun v7 =>
 cnd v7
(aFill [(vint 0), (vint 0), (Value.bool false)] [(0, 1, a1), (1, 1, a1), (2, 1, (Value.bool true))] fun c8 =>
 aStore 3 v3 (Value.agg ⟨c8⟩) h4 fun h9 =>
 RetQ prog [.cell 4 127] h.length K .ret (RG.p (RG.p (RG.p (RG.p (RG.p (RG.p (RG.p (RG.p (RG.mk (regs [a0, a1]) []) 2 v1) 4 v3) 5 v5) 6 v6) 7 v7) 8 a1) 9 a1) 10 (Value.agg ⟨c8⟩)) h9)
(aOff v1 0 fun v10 =>
 aLoad false 1 v10 h4 fun v11 =>
 aMin v11 [a1] fun v12 =>
 aOff v1 1 fun v13 =>
 aLoad false 1 v13 h4 fun v14 =>
 aMax v14 [a1] fun v15 =>
 aFill [(vint 0), (vint 0), (Value.bool false)] [(0, 1, v12), (1, 1, v15), (2, 1, (Value.bool true))] fun c16 =>
 aStore 3 v3 (Value.agg ⟨c16⟩) h4 fun h17 =>
 RetQ prog [.cell 4 127] h.length K .ret (RG.p (RG.p (RG.p (RG.p (RG.p (RG.p (RG.p (RG.p (RG.p (RG.p (RG.p (RG.p (RG.p (RG.p (RG.mk (regs [a0, a1]) []) 2 v1) 4 v3) 5 v5) 6 v6) 7 v7) 11 v10) 12 v11) 13 a1) 14 v12) 15 v13) 16 v14) 17 a1) 18 v15) 19 (Value.agg ⟨c16⟩)) h17)) := top_eq pok131 ct131 (by kernel_rfl)
theorem g131 (hJ : Closed prog main J) {a0 a1 : Value} (hs : heapOk h → W prog J 20 h.length 131 (codeOf f131) (RG.mk (regs [a0, a1]) []) h (RetQ prog [.cell 4 127] h.length K)) : Good prog J 131 [a0, a1] h K :=
  good_of_W hJ mixed at131 body131 (by kernel_rfl) (Nat.le_of_ble_eq_true rfl) hs
theorem at41 : prog.funcs[41]? = some f41 := by kernel_rfl
theorem body41 : f41.body = some (codeOf f41) := by kernel_rfl
def pl41 : Plans := []
def ct41 : Cuts := .go
theorem pok41 : plansOk prog pl41 (codeOf f41) = true := by kernel_rfl
theorem e41 {a0 a1 a2 : Value} : W prog J 38 h.length 41 (codeOf f41) (RG.mk (regs [a0, a1, a2]) []) h (RetQ prog [.tmp 6, .tmp 7] h.length K) =
(aBox a0 h fun v1 h2 =>
 aBox a2 h2 fun v3 h4 =>
 aLoad true 6 v1 h4 fun v5 =>
 aLoad true 3 v3 h4 fun v6 =>
 Good prog J 92 [v5, a1, v6] h4 fun v7 h8 =>
 aBin prog .neq 37 v7 (vint 0) fun v9 =>
 cnd v9
(retL h.length K [] [(Value.slice none 0 0), v7] h8)
(aLoad true 6 v1 h8 fun v10 =>
 aLoad true 3 v3 h8 fun v11 =>
 Good prog J 93 [v10, a1, v11] h8 fun v12 h13 =>
 aLenS v12 fun v14 =>
 Sem J 38 h.length 41 (subC [1, 1, 1, 0, 1, 0] (codeOf f41)) (RG.p (RG.p (RG.p (RG.p (RG.p (RG.p (RG.p (RG.p (RG.p (RG.p (RG.p (RG.p (RG.p (RG.p (RG.p (RG.p (RG.p (RG.p (RG.mk (regs [a0, a1, a2]) []) 3 v1) 5 v3) 6 (Value.slice none 0 0)) 7 (vint 0)) 12 v5) 13 a1) 14 v6) 15 v7) 8 v7) 16 v7) 17 v9) 9 (Value.slice none 0 0)) 19 v10) 20 a1) 21 v11) 22 v12) 23 v14) 24 (vint 0)) h13 (contX pl41 prog J 38 h.length 41 ct41 [1, 1, 1, 0, 1, 0] (codeOf f41) [] (RetQ prog [.tmp 6, .tmp 7] h.length K)))) := top_eq pok41 ct41 (by kernel_rfl)
theorem g41 (hJ : Closed prog main J) {a0 a1 a2 : Value} (hs : heapOk h → W prog J 38 h.length 41 (codeOf f41) (RG.mk (regs [a0, a1, a2]) []) h (RetQ prog [.tmp 6, .tmp 7] h.length K)) : Good prog J 41 [a0, a1, a2] h K :=
  good_of_W hJ mixed at41 body41 (by kernel_rfl) (Nat.le_of_ble_eq_true rfl) hs
theorem s41_1 {f : RG} {nx0 : RG → List AObj → Prop} : W prog J 38 n0 41 (subC [1, 1, 1, 0, 1, 0, 0] (codeOf f41)) f h (thenK nx0 (contX pl41 prog J 38 n0 41 ct41 [1, 1, 1, 0, 1, 0] (codeOf f41) [] (RetQ prog [.tmp 6, .tmp 7] n0 K))) =
(aBin prog .lss 3 (f.r 24) (f.r 23) fun v1 =>
 cnd v1
(aIdx 3 (f.r 22) (f.r 24) fun v2 =>
 aLoad true 3 v2 h fun v3 =>
 aAlloc [(vint 0), (vint 0), (Value.bool false)] h fun v4 h5 =>
 aStore 3 v4 v3 h5 fun h6 =>
 aOff v4 0 fun v7 =>
 aLoad false 1 v7 h6 fun v8 =>
 aOff v4 1 fun v9 =>
 aLoad false 1 v9 h6 fun v10 =>
 aFill [(vint 0), (vint 0)] [(0, 1, v8), (1, 1, v10)] fun c11 =>
(((1 * 2 : Nat) ≤ 16777216 ∧ (1 : Nat) ≤ 16777216 ∧ List.length [(vint 0), (vint 0)] = 2) ∧ aFill (zrep [(vint 0), (vint 0)] 1) [(0, 2, (Value.agg ⟨c11⟩))] fun c12 =>
 aNewS 1 c12 h6 fun v13 h14 =>
((List.length [(vint 0), (vint 0)] = 2 ∧ 0 < (2 : Nat) ∧ 0 < (16 : Nat) ∧ (16 : Nat) ≤ 1024) ∧ aApp 2 (f.r 9) v13 h14 fun v15 h16 =>
 aBin prog .add 3 (f.r 24) (vint 1) fun v17 =>
 nx0 (RG.p (RG.p (RG.p (RG.p (RG.p (RG.p (RG.p (RG.p (RG.p (RG.p (RG.p (RG.p (RG.p (RG.p (RG.p f 25 v1) 26 v2) 27 v3) 11 v4) 28 (f.r 9)) 29 v7) 30 v8) 31 v9) 32 v10) 33 (Value.agg ⟨c11⟩)) 34 v13) 35 v15) 9 v15) 36 v17) 24 v17) h16)))
(retL n0 K f.ds [(f.r 9), (vint 0)] h)) := sub_eq pok41 ct41 (by kernel_rfl)
theorem l41_1 (hJ : Closed prog main J) {S : Type} (μ : S → Nat) (I : S → RG → List AObj → Prop) (hI : ∀ s f h, I s f h → heapOk h → n0 ≤ h.length → W prog J 38 n0 41 (subC [1, 1, 1, 0, 1, 0, 0] (codeOf f41)) f h (thenK (Nx n0 μ I s) (contX pl41 prog J 38 n0 41 ct41 [1, 1, 1, 0, 1, 0] (codeOf f41) [] (RetQ prog [.tmp 6, .tmp 7] n0 K))))
  {s : S} {f : RG} (hi : Gets n0 I s f h) : Sem J 38 n0 41 (subC [1, 1, 1, 0, 1, 0] (codeOf f41)) f h (contX pl41 prog J 38 n0 41 ct41 [1, 1, 1, 0, 1, 0] (codeOf f41) [] (RetQ prog [.tmp 6, .tmp 7] n0 K)) :=
  loop_rule hJ mixed (b := subC [1, 1, 1, 0, 1, 0, 0] (codeOf f41)) (by kernel_rfl) μ I hI hi
end
section
variable {main : Bool} {J : JT} {n0 : Nat} {h : List AObj} {K : Value → List AObj → Prop}
theorem at85 : prog.funcs[85]? = some f85 := by kernel_rfl
theorem body85 : f85.body = some (codeOf f85) := by kernel_rfl
def pl85 : Plans := []
def ct85 : Cuts := .bin (.go) (.bin (.go) (.bin (.go) (.bin (.bin (.go) (.un (.un (.bin (.go) (.bin (.go) (.bin (.un (.bin (.go) (.bin (.go) (.cut (.go))))) (.go))))))) (.go))))
theorem pok85 : plansOk prog pl85 (codeOf f85) = true := by kernel_rfl
theorem e85 {a0 a1 a2 : Value} : W prog J 43 h.length 85 (codeOf f85) (RG.mk (regs [a0, a1, a2]) []) h (RetQ prog [.tmp 6] h.length K) =
(aBox a0 h fun v1 h2 =>
 aLoad true 6 v1 h2 fun v3 =>
 Good prog J 36 [v3] h2 fun v4 h5 =>
 aLenStr a2 fun v6 =>
 Good prog J 71 [v6, (vint 1), (vint 8)] h5 fun v7 h8 =>
(((2 * 1 : Nat) ≤ 16777216 ∧ (2 : Nat) ≤ 16777216 ∧ List.length [(vint 0)] = 1) ∧ aFill (zrep [(vint 0)] 2) [(0, 1, v4), (1, 1, v7)] fun c9 =>
 aNewS 2 c9 h8 fun v10 h11 =>
 Good prog J 88 [v10] h11 fun v12 h13 =>
 aBin prog .neq 37 v12 (vint 0) fun v14 =>
 cnd v14
(retL h.length K [] [v12] h13)
(aLenStr a2 fun v15 =>
 Good prog J 124 [a1, v15] h13 fun v16 h17 =>
 aBin prog .neq 37 v16 (vint 0) fun v18 =>
 cnd v18
(retL h.length K [] [v16] h17)
(aLenStr a2 fun v19 =>
 Sem J 43 h.length 85 (subC [1, 1, 1, 0, 1, 0] (codeOf f85)) (RG.p (RG.p (RG.p (RG.p (RG.p (RG.p (RG.p (RG.p (RG.p (RG.p (RG.p (RG.p (RG.p (RG.p (RG.p (RG.p (RG.p (RG.p (RG.p (RG.p (RG.p (RG.p (RG.mk (regs [a0, a1, a2]) []) 3 v1) 6 (vint 0)) 10 v3) 11 v4) 12 a2) 13 v6) 14 v7) 15 v10) 16 v12) 7 v12) 17 v12) 18 v14) 20 a1) 21 a2) 22 v15) 23 v16) 8 v16) 24 v16) 25 v18) 27 a2) 28 v19) 29 (vint 0)) h17 (contX pl85 prog J 43 h.length 85 ct85 [1, 1, 1, 0, 1, 0] (codeOf f85) [] (RetQ prog [.tmp 6] h.length K)))))) := top_eq pok85 ct85 (by kernel_rfl)
theorem g85 (hJ : Closed prog main J) {a0 a1 a2 : Value} (hs : heapOk h → W prog J 43 h.length 85 (codeOf f85) (RG.mk (regs [a0, a1, a2]) []) h (RetQ prog [.tmp 6] h.length K)) : Good prog J 85 [a0, a1, a2] h K :=
  good_of_W hJ mixed at85 body85 (by kernel_rfl) (Nat.le_of_ble_eq_true rfl) hs
theorem s85_1 {f : RG} {nx0 : RG → List AObj → Prop} : W prog J 43 n0 85 (subC [1, 1, 1, 0, 1, 0, 0] (codeOf f85)) f h (thenK nx0 (contX pl85 prog J 43 n0 85 ct85 [1, 1, 1, 0, 1, 0] (codeOf f85) [] (RetQ prog [.tmp 6] n0 K))) =
(aBin prog .lss 3 (f.r 29) (f.r 28) fun v1 =>
 cnd v1
(aIdxStr (f.r 2) (f.r 29) fun v2 =>
 aBin prog .neq 5 v2 (Value.int .u8 100) fun v3 =>
 cnd v3
(aIdxStr (f.r 2) (f.r 29) fun v4 =>
 aBin prog .neq 5 v4 (Value.int .u8 119) fun v5 =>
 Hold (W prog J 43 n0 85 (subC [1, 1, 1, 0, 1, 0, 0, 1, 1, 0, 0, 1, 1] (codeOf f85)) (RG.p (RG.p (RG.p (RG.p (RG.p (RG.p (RG.p (RG.p (RG.p (RG.p (RG.p (RG.p (RG.p (RG.p f 30 v1) 31 (f.r 29)) 9 (f.r 29)) 32 (f.r 2)) 33 (f.r 29)) 34 v2) 35 v3) 36 v3) 36 (Value.bool true)) 37 (f.r 2)) 38 (f.r 29)) 39 v4) 40 v5) 41 v5) h (contX pl85 prog J 43 n0 85 ct85 [1, 1, 1, 0, 1, 0, 0, 1, 1, 0, 0, 1, 1] (codeOf f85) [nx0] (RetQ prog [.tmp 6] n0 K))))
(Hold (W prog J 43 n0 85 (subC [1, 1, 1, 0, 1, 0, 0, 1, 1, 0, 0, 1, 1] (codeOf f85)) (RG.p (RG.p (RG.p (RG.p (RG.p (RG.p (RG.p (RG.p (RG.p (RG.p (RG.p (RG.p (RG.p (RG.p f 30 v1) 31 (f.r 29)) 9 (f.r 29)) 32 (f.r 2)) 33 (f.r 29)) 34 v2) 35 v3) 36 v3) 36 (Value.bool false)) 37 undef) 38 undef) 39 undef) 40 undef) 41 (Value.bool false)) h (contX pl85 prog J 43 n0 85 ct85 [1, 1, 1, 0, 1, 0, 0, 1, 1, 0, 0, 1, 1] (codeOf f85) [nx0] (RetQ prog [.tmp 6] n0 K)))))
(retL n0 K f.ds [(vint 0)] h)) := sub_eq pok85 ct85 (by kernel_rfl)
theorem l85_1 (hJ : Closed prog main J) {S : Type} (μ : S → Nat) (I : S → RG → List AObj → Prop) (hI : ∀ s f h, I s f h → heapOk h → n0 ≤ h.length → W prog J 43 n0 85 (subC [1, 1, 1, 0, 1, 0, 0] (codeOf f85)) f h (thenK (Nx n0 μ I s) (contX pl85 prog J 43 n0 85 ct85 [1, 1, 1, 0, 1, 0] (codeOf f85) [] (RetQ prog [.tmp 6] n0 K))))
  {s : S} {f : RG} (hi : Gets n0 I s f h) : Sem J 43 n0 85 (subC [1, 1, 1, 0, 1, 0] (codeOf f85)) f h (contX pl85 prog J 43 n0 85 ct85 [1, 1, 1, 0, 1, 0] (codeOf f85) [] (RetQ prog [.tmp 6] n0 K)) :=
  loop_rule hJ mixed (b := subC [1, 1, 1, 0, 1, 0, 0] (codeOf f85)) (by kernel_rfl) μ I hI hi
theorem s85_2 {f : RG} {nx0 : RG → List AObj → Prop} : W prog J 43 n0 85 (subC [1, 1, 1, 0, 1, 0, 0, 1, 1, 0, 0, 1, 1] (codeOf f85)) f h (contX pl85 prog J 43 n0 85 ct85 [1, 1, 1, 0, 1, 0, 0, 1, 1, 0, 0, 1, 1] (codeOf f85) [nx0] (RetQ prog [.tmp 6] n0 K)) =
(cnd (f.r 41)
(retL n0 K f.ds [(vint 2)] h)
(aBin prog .add 3 (f.r 29) (vint 1) fun v1 =>
 nx0 (RG.p (RG.p f 42 v1) 29 v1) h)) := sub_eq pok85 ct85 (by kernel_rfl)
theorem at86 : prog.funcs[86]? = some f86 := by kernel_rfl
theorem body86 : f86.body = some (codeOf f86) := by kernel_rfl
def pl86 : Plans := [(5, true, .take 0 (.take 1 (.take 2 (.take 3 (.take 4 (.take 5 (.take 6 (.take 7 (.take 8 (.last 9 false (.take 10 (.take 11 (.take 12 (.take 13 (.take 14 (.fin))))))))))))))))]
def ct86 : Cuts := .go
theorem pok86 : plansOk prog pl86 (codeOf f86) = true := by kernel_rfl
theorem e86 {a0 a1 a2 a3 : Value} : W prog J 43 h.length 86 (codeOf f86) (RG.mk (regs [a0, a1, a2, a3]) []) h (RetQ prog [] h.length K) =
(aBox a0 h fun v1 h2 =>
 aLoad true 6 v1 h2 fun v3 =>
 Good prog J 125 [v3] h2 fun v4 h5 =>
 aLenStr a2 fun v6 =>
 Sem J 43 h.length 86 (subC [1, 1, 1, 0] (codeOf f86)) (RG.p (RG.p (RG.p (RG.p (RG.p (RG.p (RG.p (RG.mk (regs [a0, a1, a2, a3]) []) 4 v1) 12 v3) 13 v4) 8 v4) 14 a2) 15 v6) 16 (vint 0)) h5 (contX pl86 prog J 43 h.length 86 ct86 [1, 1, 1, 0] (codeOf f86) [] (RetQ prog [] h.length K))) := top_eq pok86 ct86 (by kernel_rfl)
theorem g86 (hJ : Closed prog main J) {a0 a1 a2 a3 : Value} (hs : heapOk h → W prog J 43 h.length 86 (codeOf f86) (RG.mk (regs [a0, a1, a2, a3]) []) h (RetQ prog [] h.length K)) : Good prog J 86 [a0, a1, a2, a3] h K :=
  good_of_W hJ mixed at86 body86 (by kernel_rfl) (Nat.le_of_ble_eq_true rfl) hs
theorem s86_1 {f : RG} {nx0 : RG → List AObj → Prop} : W prog J 43 n0 86 (subC [1, 1, 1, 0, 0] (codeOf f86)) f h (thenK nx0 (contX pl86 prog J 43 n0 86 ct86 [1, 1, 1, 0] (codeOf f86) [] (RetQ prog [] n0 K))) =
(aBin prog .lss 3 (f.r 16) (f.r 15) fun v1 =>
 cnd v1
(aIdx 1 (f.r 1) (f.r 16) fun v2 =>
 aLoad false 1 v2 h fun v3 =>
 aIdxStr (f.r 2) (f.r 16) fun v4 =>
 aBin prog .eql 5 v4 (Value.int .u8 119) fun v5 =>
 Good prog J 126 [(f.r 8), v3, v5] h fun v6 h7 =>
 aExt v6 0 fun v8 =>
 aExt v6 1 fun v9 =>
 aNil (f.r 8) fun v10 =>
 aOff v10 6 fun v11 =>
 aOff v11 0 fun v12 =>
 aLoad false 1 v12 h7 fun v13 =>
 callV prog (Good prog J) (f.r 3) [(f.r 16), v13, v8, v9] h7 fun v14 h15 =>
 aBin prog .add 3 (f.r 16) (vint 1) fun v16 =>
 nx0 (RG.p (RG.p (RG.p (RG.p (RG.p (RG.p (RG.p (RG.p (RG.p (RG.p (RG.p (RG.p (RG.p (RG.p (RG.p (RG.p (RG.p (RG.p (RG.p (RG.p (RG.p (RG.p (RG.p (RG.p (RG.p (RG.p (RG.p (RG.p (RG.p (RG.p f 17 v1) 18 (f.r 16)) 9 (f.r 16)) 20 (f.r 8)) 21 (f.r 1)) 22 (f.r 16)) 23 v2) 24 v3) 25 (f.r 2)) 26 (f.r 16)) 27 v4) 28 v5) 29 v6) 19 v6) 30 v8) 31 v9) 10 v8) 11 v9) 32 (f.r 3)) 33 (f.r 16)) 34 (f.r 8)) 35 v10) 36 v11) 37 v12) 38 v13) 39 v8) 40 v9) 41 v14) 42 v16) 16 v16) h15)
(retL n0 K f.ds [] h)) := sub_eq pok86 ct86 (by kernel_rfl)
theorem l86_1 (hJ : Closed prog main J) {S : Type} (μ : S → Nat) (I : S → RG → List AObj → Prop) (hI : ∀ s f h, I s f h → heapOk h → n0 ≤ h.length → W prog J 43 n0 86 (subC [1, 1, 1, 0, 0] (codeOf f86)) f h (thenK (Nx n0 μ I s) (contX pl86 prog J 43 n0 86 ct86 [1, 1, 1, 0] (codeOf f86) [] (RetQ prog [] n0 K))))
  {s : S} {f : RG} (hi : Gets n0 I s f h) : Sem J 43 n0 86 (subC [1, 1, 1, 0] (codeOf f86)) f h (contX pl86 prog J 43 n0 86 ct86 [1, 1, 1, 0] (codeOf f86) [] (RetQ prog [] n0 K)) :=
  loop_rule hJ mixed (b := subC [1, 1, 1, 0, 0] (codeOf f86)) (by kernel_rfl) μ I hI hi
theorem at32 : prog.funcs[32]? = some f32 := by kernel_rfl
theorem body32 : f32.body = some (codeOf f32) := by kernel_rfl
def pl32 : Plans := []
def ct32 : Cuts := .go
theorem pok32 : plansOk prog pl32 (codeOf f32) = true := by kernel_rfl
theorem e32 {a0 a1 a2 : Value} : W prog J 23 h.length 32 (codeOf f32) (RG.mk (regs [a0, a1, a2]) []) h (RetQ prog [.tmp 6, .tmp 7] h.length K) =
(aBox a0 h fun v1 h2 =>
 aLoad true 6 v1 h2 fun v3 =>
 Good prog J 85 [v3, a1, a2] h2 fun v4 h5 =>
 aBin prog .neq 37 v4 (vint 0) fun v6 =>
 cnd v6
(retL h.length K [] [(Value.slice none 0 0), v4] h5)
(aAlloc [(Value.slice none 0 0)] h5 fun v7 h8 =>
 aLoad true 6 v1 h8 fun v9 =>
 aMkF 87 [] [v7] fun v10 =>
 Good prog J 86 [v9, a1, a2, v10] h8 fun v11 h12 =>
 aLoad false 1 v7 h12 fun v13 =>
 retL h.length K [] [v13, (vint 0)] h12)) := top_eq pok32 ct32 (by kernel_rfl)
theorem g32 (hJ : Closed prog main J) {a0 a1 a2 : Value} (hs : heapOk h → W prog J 23 h.length 32 (codeOf f32) (RG.mk (regs [a0, a1, a2]) []) h (RetQ prog [.tmp 6, .tmp 7] h.length K)) : Good prog J 32 [a0, a1, a2] h K :=
  good_of_W hJ mixed at32 body32 (by kernel_rfl) (Nat.le_of_ble_eq_true rfl) hs
theorem at87 : prog.funcs[87]? = some f87 := by kernel_rfl
theorem body87 : f87.body = some (codeOf f87) := by kernel_rfl
def pl87 : Plans := []
def ct87 : Cuts := .go
theorem pok87 : plansOk prog pl87 (codeOf f87) = true := by kernel_rfl
theorem e87 {a0 a1 a2 a3 a4 : Value} : W prog J 13 h.length 87 (codeOf f87) (RG.mk (regs [a0, a1, a2, a3, a4]) []) h (RetQ prog [] h.length K) =
(aLoad false 1 a4 h fun v1 =>
(((1 * 1 : Nat) ≤ 16777216 ∧ (1 : Nat) ≤ 16777216 ∧ List.length [(vint 0)] = 1) ∧ aFill (zrep [(vint 0)] 1) [(0, 1, a1)] fun c2 =>
 aNewS 1 c2 h fun v3 h4 =>
((List.length [(vint 0)] = 1 ∧ 0 < (1 : Nat) ∧ 0 < (8 : Nat) ∧ (8 : Nat) ≤ 1024) ∧ aApp 1 v1 v3 h4 fun v5 h6 =>
 aStore 1 a4 v5 h6 fun h7 =>
 retL h.length K [] [] h7))) := top_eq pok87 ct87 (by kernel_rfl)
theorem g87 (hJ : Closed prog main J) {a0 a1 a2 a3 a4 : Value} (hs : heapOk h → W prog J 13 h.length 87 (codeOf f87) (RG.mk (regs [a0, a1, a2, a3, a4]) []) h (RetQ prog [] h.length K)) : Good prog J 87 [a0, a1, a2, a3, a4] h K :=
  good_of_W hJ mixed at87 body87 (by kernel_rfl) (Nat.le_of_ble_eq_true rfl) hs
end
end Go.Proofs.Ythnccaajpdnndaa
namespace Go.Proofs.Ythnccaajpdnndaa
open Go.Conc Go.Proofs.Try
set_option maxRecDepth 100000
def wordOk (w : List UInt8) : Prop := ∀ b ∈ w, b = 100 ∨ b = 119
instance (w : List UInt8) : Decidable (wordOk w) := by unfold wordOk; infer_instance
def askE (p : Pas) (heads : List Int) (w : List UInt8) : Int :=
  if fst2 (pasE p) (cntE w.length 1 8) ≠ 0 then fst2 (pasE p) (cntE w.length 1 8) else if hunE heads w.length ≠ 0 then hunE heads w.length else if wordOk w then 0 else 2
def endsZ (p : Pas) (heads : List Int) (w : List UInt8) (k : Nat) : List Int := (List.range k).map fun i => (stdR p heads w (i + 1)).1
theorem endsZ_succ {p : Pas} {heads : List Int} {w : List UInt8} {k : Nat} : endsZ p heads w (k + 1) = endsZ p heads w k ++ [(stdR p heads w (k + 1)).1] := by
  unfold endsZ
  rw [List.range_succ, List.map_append]
  rfl
section
variable {main : Bool} {J : JT} {h H : List AObj} {K : Value → List AObj → Prop} {KV : Value → Prop} {HL : List AObj → Prop} {n0 : Nat}
theorem good86 (hJ : Closed prog main J) {h0 : List AObj} {p : Pas} {heads : List Int} {w : List UInt8} {hv cb : Value} (f : pasOk p) (hh : headsOk heads) (S0 : SameX [] h0 H) (sh : Sli h0 hv 1 heads.length (heads.map vint)) (hl : w.length ≤ heads.length) (hw : w.length ≤ 1000)
    {I : Nat → List Nat → List AObj → Prop} {O0 : List Nat} (hO : ∀ x ∈ O0, h0.length ≤ x) (hI : I 0 O0 H) (lt : ∀ k O H1, I k O H1 → ∀ x ∈ O, x < H1.length) (mono : ∀ k O H1 H2 X, I k O H1 → SameX X H1 H2 → (∀ x ∈ O, x ∉ X) → I k O H2)
    (step : ∀ k O H1 (K1 : Value → List AObj → Prop), I k O H1 → k < w.length → (∀ O' H2 v, I (k + 1) O' H2 → SameX O H1 H2 → (∀ x ∈ O', x ∈ O ∨ H1.length ≤ x) → K1 v H2) → callV prog (Good prog J) cb [vint (k : Nat), vint (stdR p heads w (k + 1)).1, .bool (hungAt p heads w k), .bool (shortAt p heads w k)] H1 K1)
    (hK : ∀ O H', I w.length O H' → SameX O0 H H' → K (pack []) H') : Good prog J 86 [.agg ⟨p.cells⟩, hv, strV w, cb] H K := by
  refine g86 hJ fun ok => ?_
  rw [e86]
  refine qBox (l := p.cells) rfl fun H1 p1 e1 S1 c1 l1 => load_part (c := p.cells) c1 (by simp [Pas.cells]) rfl rfl ?_
  refine good125 hJ fun H2 m em S2 c2 hm => lenStrI ?_
  have T2 := S1.trans S2
  have hlt0 := lt _ _ _ hI
  have l21 := S2.1
  refine l86_1 hJ (fun k : Nat => w.length - k) (fun k F H' => k ≤ w.length ∧ SameX O0 H H' ∧ H'[m]? = some (.cells (medC p (stdR p heads w k)) true 0) ∧ (∃ O, I k O H' ∧ m ∉ O ∧ ∀ x ∈ O, x ∈ O0 ∨ H.length ≤ x) ∧ F.ds = [] ∧ F.r 1 = hv ∧ F.r 2 = strV w ∧ F.r 3 = cb ∧ F.r 8 = ptr m 0 ∧ F.r 15 = vint (w.length : Nat) ∧ F.r 16 = vint (k : Nat)) ?_ (s := 0)
    (.inl ⟨by omega, T2.weak0, c2, ⟨O0, mono _ _ _ _ _ hI T2 (by simp), fun hx => by have := hlt0 m hx; omega, fun x hx => .inl hx⟩, rfl, rfl, rfl, rfl, rfl, rfl, rfl⟩)
  rintro k F H' ⟨hk, S, cm, ⟨O, hIk, hmO, hOO⟩, ds, r1, r2, r3, r8, r15, r16⟩ okc hnc
  rw [s86_1, r1, r2, r3, r8, r15, r16, ds]
  refine lssI (cndI (fun hlt => ?_) fun hge => ?_)
  rotate_left
  · have : k = w.length := by omega
    subst this
    exact retL_same (by simp) (hK O H' hIk S)
  have hkl : k < w.length := by omega
  have hx : heads[k]? = some (heads.getD k 0) := by
    rw [List.getD_eq_getElem?_getD, List.getElem?_eq_getElem (by omega)]
    rfl
  have hb : w[k]? = some (w.getD k 0) := by
    rw [List.getD_eq_getElem?_getD, List.getElem?_eq_getElem hkl]
    rfl
  have hbd := headsOk_getD hh k
  have S0' : SameX O0 h0 H' := S0.weak0.thru S fun x hx => .inl hx
  refine sliN (S0'.sli sh hO) hx fun q => byteI hb (eqlW ?_)
  refine good126 hJ cm f (stdR_ok f hh k) ⟨hbd.1, by omega⟩ fun H3 S3 c3 => ext0 (ext1 (nilI (offI (offI (ldI (v := vint (stdR p heads w (k + 1)).1) c3 rfl rfl ?_)))))
  have hm1 := lt_of_get cm
  have hm3 := lt_of_get c3
  refine step k O H3 _ (mono _ _ _ _ _ hIk S3 fun x hx e => hmO (by rw [← List.mem_singleton.1 e]; exact hx)) hkl fun O' H4 v hI4 S4 hO4 => ?_
  have h3 := S3.1
  have h0 := S.1
  refine addI (by omega) ⟨k + 1, by dsimp only; omega, .inl ⟨by omega, ?_, S4.get c3 hmO, ⟨O', hI4, fun hx => ?_, fun x hx => ?_⟩, ds, r1, r2, r3, r8, r15, by show vint _ = vint _; congr 1⟩⟩
  · refine (S.thru S3 fun x hx => ?_).thru S4 hOO
    rw [List.mem_singleton.1 hx]
    right
    have := S1.1
    omega
  · rcases hO4 m hx with h | h
    · exact hmO h
    · omega
  · rcases hO4 x hx with h | h
    · exact hOO x h
    · right
      omega
theorem wordOk_step {w : List UInt8} {k : Nat} (h : ∀ i, i < k → ∀ b, w[i]? = some b → b = 100 ∨ b = 119) {b : UInt8} (hb : w[k]? = some b) (h2 : b = 100 ∨ b = 119) : ∀ i, i < k + 1 → ∀ b, w[i]? = some b → b = 100 ∨ b = 119 := fun i hi c hc => by
  by_cases e : i = k
  · rw [e, hb] at hc
    cases hc
    exact h2
  · exact h i (by omega) c hc
theorem good85 (hJ : Closed prog main J) {p : Pas} {heads : List Int} {w : List UInt8} {hv : Value} (sh : Sli H hv 1 heads.length (heads.map vint)) (hl : heads.length < 1000000) (hw : w.length ≤ 1000000)
    (hK : ∀ H', SameX [] H H' → K (vint (askE p heads w)) H') : Good prog J 85 [.agg ⟨p.cells⟩, hv, strV w] H K := by
  refine g85 hJ fun ok => ?_
  rw [e85]
  refine qBox (l := p.cells) rfl fun H1 p1 e1 S1 c1 l1 => load_part (c := p.cells) c1 (by simp [Pas.cells]) rfl rfl ?_
  refine good36 hJ (lenStrI (good71 hJ ⟨⟨by decide, by decide, rfl⟩, fillO (l := [vint (pasE p)]) rfl rfl rfl (by decide) (fillO (l := [vint (cntE w.length 1 8)]) rfl rfl rfl (by rw [wrAt_length]; decide) (fillI (qNew fun H2 p2 e2 S2 c2 l2 => ?_)))⟩))
  have T := S1.trans S2
  refine good88 hJ (a := pasE p) (b := cntE w.length 1 8) ⟨_, _, rfl, ⟨rfl, rfl⟩, .inr ⟨p2, 0, rfl, .inr ⟨_, _, _, c2, rfl⟩⟩⟩ ?_
  unfold askE at hK
  refine neqI (cndI (fun h1 => retL_same (by simp [unk]) ?_) fun h1 => lenStrI ?_)
  · have := hK H2 T
    rw [if_pos h1] at this
    exact this
  rw [if_neg h1] at hK
  refine good124 hJ (T.sli sh (by simp)) hl (neqI (cndI (fun h2 => retL_same (by simp [unk]) ?_) fun h2 => lenStrI ?_))
  · have := hK H2 T
    rw [if_pos h2] at this
    exact this
  rw [if_neg h2] at hK
  refine l85_1 hJ (fun k : Nat => w.length - k) (fun k F H' => k ≤ w.length ∧ SameX [] H H' ∧ (∀ i, i < k → ∀ b, w[i]? = some b → b = 100 ∨ b = 119) ∧ F.ds = [] ∧ F.r 2 = strV w ∧ F.r 28 = vint (w.length : Nat) ∧ F.r 29 = vint (k : Nat)) ?_ (s := 0)
    (.inl ⟨by omega, T, fun i hi => absurd hi (Nat.not_lt_zero _), rfl, rfl, rfl, rfl⟩)
  rintro k F H' ⟨hk, S, hg, ds, r2, r28, r29⟩ okc hnc
  rw [s85_1, r2, r28, r29, ds]
  refine lssI (cndI (fun hlt => ?_) fun hge => ?_)
  rotate_left
  · have : k = w.length := by omega
    subst this
    have := hK H' S
    have hwk : wordOk w := fun b hb => by
      obtain ⟨i, hi⟩ := List.getElem?_of_mem hb
      exact hg i (List.getElem?_eq_some_iff.1 hi).1 b hi
    rw [if_pos hwk] at this
    exact retL_same (by simp [unk]) this
  have hkl : k < w.length := by omega
  obtain ⟨b, hb⟩ : ∃ b, w[k]? = some b := ⟨_, List.getElem?_eq_getElem hkl⟩
  have e100 : (Value.int .u8 100) = .int .u8 (100 : UInt8).toNat := rfl
  have e119 : (Value.int .u8 119) = .int .u8 (119 : UInt8).toNat := rfl
  rw [e100, e119]
  have next : ∀ {F2 : RG} {z : Bool}, F2.ds = [] → F2.r 2 = strV w → F2.r 28 = vint (w.length : Nat) → F2.r 29 = vint (k : Nat) → F2.r 41 = .bool z → (z = true ↔ ¬ (b = 100 ∨ b = 119)) →
      W prog J 43 H.length 85 (subC [1, 1, 1, 0, 1, 0, 0, 1, 1, 0, 0, 1, 1] (codeOf f85)) F2 H' (contX pl85 prog J 43 H.length 85 ct85 [1, 1, 1, 0, 1, 0, 0, 1, 1, 0, 0, 1, 1] (codeOf f85) [Nx H.length (fun k : Nat => w.length - k) (fun k F H' => k ≤ w.length ∧ SameX [] H H' ∧ (∀ i, i < k → ∀ b, w[i]? = some b → b = 100 ∨ b = 119) ∧ F.ds = [] ∧ F.r 2 = strV w ∧ F.r 28 = vint (w.length : Nat) ∧ F.r 29 = vint (k : Nat)) k] (RetQ prog [.tmp 6] H.length K)) := by
    intro F2 z ds r2 r28 r29 r41 hz
    rw [s85_2, r41, r29, ds]
    refine cndB (fun h1 => retL_same (by simp [unk]) ?_) fun h1 => ?_
    · have := hK H' S
      rw [if_neg (fun hw : wordOk w => hz.1 h1 (hw b (List.mem_of_getElem? hb)))] at this
      exact this
    · have hb2 : b = 100 ∨ b = 119 := Classical.byContradiction fun hn => by
        rw [hz.2 hn] at h1
        cases h1
      exact addI (by omega) ⟨k + 1, by dsimp only; omega, .inl ⟨by omega, S, wordOk_step hg hb hb2, ds, r2, r28, by show vint _ = vint _; congr 1⟩⟩
  refine byteI hb (neqU (cndI (fun hn => ?_) fun hn => hold.2 ?_))
  · refine byteI hb (neqU (hold.2 (next (z := decide (b ≠ 119)) ds r2 r28 r29 rfl ?_)))
    rw [decide_eq_true_iff]
    exact ⟨fun h1 h2 => h2.elim hn h1, fun h e => h (.inr e)⟩
  · refine next (z := false) ds r2 r28 r29 rfl ⟨fun h => (by cases h), fun h => absurd (.inl (Classical.not_not.1 hn)) h⟩
theorem good87 (hJ : Closed prog main J) {q k : Nat} {x : Int} {a0 a2 a3 v : Value} {xs : List Int} {o : Option Nat} (hq : H[q]? = some (.cells [v] true 0)) (O : OwnX H 1 (xs.map vint) k v o) (hne : o ≠ some q) (hk : k < 100000)
    (hK : ∀ H' v' o', SameX (q :: o.toList) H H' → H'[q]? = some (.cells [v'] true 0) → OwnX H' 1 ((xs ++ [x]).map vint) (k + 1) v' o' → o' ≠ some q → (∀ i, o' = some i → H.length ≤ i) → K (pack []) H') : Good prog J 87 [a0, vint x, a2, a3, ptr q 0] H K := by
  refine g87 hJ fun ok => ?_
  rw [e87]
  have kv := (ownX_val O).2.2
  refine ldI (v := v) hq rfl kv ⟨⟨by decide, by decide, rfl⟩, fillO (l := [vint x]) rfl rfl rfl (by decide) (fillI (qNew fun H1 p1 e1 S1 c1 l1 => ?_))⟩
  have hq1 := S1.get hq (by simp)
  have lq := lt_of_get hq
  refine ⟨⟨rfl, by decide, by decide, by decide⟩, ownX_more (ownX_keep O S1 (by simp)) (by decide) hk (e := [vint x]) ⟨_, _, rfl, ⟨rfl, rfl⟩, .inr ⟨p1, 0, rfl, .inr ⟨_, _, _, c1, rfl⟩⟩⟩ fun v' H2 p2 e2 O2 S2 => ?_⟩
  have hq2 : H2[q]? = some (.cells [v] true 0) := S2.get hq1 (by
    cases o with
    | none => simp
    | some i => simp; exact fun e => hne (by rw [e]))
  have vv := ownX_val O2
  refine qSt hq2 (by simp) vv.1 vv.2.1 fun H3 S3 c3 l3 => retL_same (by simp) (hK H3 v' (some p2) ?_ c3 ?_ (by simp; omega) fun i hi => by cases hi; omega)
  · refine ((S1.weak0.thru S2 fun y hy => .inl (by simp [hy])).thru S3 fun y hy => .inl (by simp at hy; simp [hy]) : SameX (q :: o.toList) H H3)
  · rw [List.map_append]
    exact ownX_keep O2 S3 (fun i hi => by cases hi; simp; omega)
theorem cntE_zero {n lo hi : Int} (h : cntE n lo hi = 0) : lo ≤ n ∧ n ≤ hi := by
  unfold cntE at h
  split at h
  · cases h
  · split at h
    · cases h
    · omega
theorem askE_ok {p : Pas} {heads : List Int} {w : List UInt8} (h : askE p heads w = 0) : pasOk p ∧ (1 ≤ w.length ∧ w.length ≤ 8) ∧ heads.length = w.length ∧ headsOk heads ∧ wordOk w := by
  unfold askE at h
  split at h
  · contradiction
  rename_i h1
  have h1 := Classical.not_not.1 h1
  split at h
  · contradiction
  rename_i h2
  have h2 := Classical.not_not.1 h2
  split at h
  · rename_i h3
    unfold fst2 at h1
    split at h1
    · contradiction
    rename_i h4
    have h4 := Classical.not_not.1 h4
    have h5 := cntE_zero h1
    have hp : pasOk p := Classical.byContradiction fun hn => by
      unfold pasE at h4
      rw [if_neg hn] at h4
      cases h4
    unfold hunE at h2
    split at h2
    · contradiction
    rename_i h6
    have h6 := cntE_zero (Classical.not_not.1 h6)
    split at h2
    · rename_i h7
      exact ⟨hp, by omega, by omega, h7, h3⟩
    · cases h2
  · cases h
theorem good32 (hJ : Closed prog main J) {p : Pas} {heads : List Int} {w : List UInt8} {hv : Value} (sh : Sli H hv 1 heads.length (heads.map vint)) (hl : heads.length < 1000000) (hw : w.length ≤ 1000000)
    (hK0 : askE p heads w ≠ 0 → ∀ H', SameX [] H H' → K (.tuple ⟨[.slice none 0 0, vint (askE p heads w)]⟩) H')
    (hK1 : askE p heads w = 0 → ∀ H' v, SameX [] H H' → Sli H' v 1 w.length ((endsZ p heads w w.length).map vint) → K (.tuple ⟨[v, vint 0]⟩) H') : Good prog J 32 [.agg ⟨p.cells⟩, hv, strV w] H K := by
  refine g32 hJ fun ok => ?_
  rw [e32]
  refine qBox (l := p.cells) rfl fun H1 p1 e1 S1 c1 l1 => load_part (c := p.cells) c1 (by simp [Pas.cells]) rfl rfl ?_
  refine good85 hJ (S1.sli sh (by simp)) hl hw fun H2 S2 => neqI (cndI (fun h1 => retL_same (by simp [unk]) (hK0 h1 H2 (S1.trans S2))) fun h1 => ?_)
  have h1 := Classical.not_not.1 h1
  obtain ⟨fp, fw, fl, fh, fo⟩ := askE_ok h1
  have T2 := S1.trans S2
  refine qAl fun H3 q e3 S3 c3 l3 => load_part (c := p.cells) (S3.get (S2.get c1 (by simp)) (by simp)) (by simp [Pas.cells]) rfl rfl ⟨rfl, ?_⟩
  have T3 := T2.trans S3
  have hqH : H.length ≤ q := by
    have := T2.1
    omega
  refine good86 hJ fp fh T3 sh (by omega) (by omega) (O0 := [q]) (fun x hx => by rw [List.mem_singleton.1 hx]; exact hqH)
    (I := fun k O H1 => ∃ v o, H1[q]? = some (.cells [v] true 0) ∧ OwnX H1 1 ((endsZ p heads w k).map vint) k v o ∧ o ≠ some q ∧ O = q :: o.toList)
    ⟨_, none, c3, ⟨rfl, rfl, .inl ⟨rfl, rfl, rfl⟩⟩, by simp, rfl⟩ (fun k O H1 ⟨v, o, hq, ho, hne, e⟩ x hx => ?_) (fun k O H1 H2 X ⟨v, o, hq, ho, hne, e⟩ S hX => ?_) (fun k O H1 K1 ⟨v, o, hq, ho, hne, e⟩ hk hk1 => ?_) fun O H' ⟨v, o, hq, ho, hne, e⟩ S => ?_
  · rw [e] at hx
    rcases List.mem_cons.1 hx with rfl | hx
    · exact lt_of_get hq
    · exact ownX_lt ho x (by simpa using hx)
  · refine ⟨v, o, S.get hq (hX q (by rw [e]; simp)), ownX_keep ho S (fun i hi => hX i (by rw [e, hi]; simp)), hne, e⟩
  · refine callCz (by kernel_rfl) (good87 hJ hq ho hne (by omega) fun H2 v' o' S' hq' ho' hne' hnew => hk1 (q :: o'.toList) H2 _ ⟨v', o', hq', by rw [endsZ_succ]; exact ho', hne', rfl⟩ (by rw [e]; exact S') fun x hx => ?_)
    rcases List.mem_cons.1 hx with rfl | hx
    · exact .inl (by rw [e]; simp)
    · exact .inr (hnew x (by simpa using hx))
  · have kv := (ownX_val ho).2.2
    refine ldI (v := v) hq rfl kv (retL_same ?_ (hK1 h1 H' v ?_ (ownX_sli ho)))
    · intro x hx
      simp only [List.mem_cons, List.not_mem_nil, or_false] at hx
      rcases hx with rfl | rfl
      · exact ownU ho
      · simp [unk]
    · exact T3.thru S fun x hx => .inr (by rw [List.mem_singleton.1 hx]; exact hqH)
end
abbrev Span := Int × Int × Bool
def spanC (x : Span) : List Value := [vint x.1, vint x.2.1, .bool x.2.2]
def widenR (x : Span) (n : Int) : Span := if x.2.2 = true then (min x.1 n, max x.2.1 n, true) else (n, n, true)
theorem wrAt_right {a : List Value} : ∀ (vs b : List Value) (o : Nat), wrAt (a ++ b) (a.length + o) vs = a ++ wrAt b o vs
  | [], b, o => rfl
  | v :: vs, b, o => by
    simp only [wrAt]
    rw [List.set_append_right _ _ (by omega), show a.length + o - a.length = o by omega, show a.length + o + 1 = a.length + (o + 1) by omega]
    exact wrAt_right vs (b.set o v) (o + 1)
theorem wrAt_span (y : Span) : ∀ (L : List Span) (j : Nat), j < L.length → wrAt (L.flatMap spanC) (j * 3) (spanC y) = (L.set j y).flatMap spanC
  | [], j, h => absurd h (Nat.not_lt_zero _)
  | x :: L, 0, _ => rfl
  | x :: L, j + 1, h => by
    have e : (j + 1) * 3 = (spanC x).length + j * 3 := by
      show (j + 1) * 3 = 3 + j * 3
      omega
    rw [List.flatMap_cons, e, wrAt_right, wrAt_span y L j (by simpa using h), List.set_cons_succ, List.flatMap_cons]
section
variable {main : Bool} {J : JT} {h H : List AObj} {K : Value → List AObj → Prop} {KV : Value → Prop} {HL : List AObj → Prop} {n0 : Nat}
theorem good131 (hJ : Closed prog main J) {x : Span} {n : Int} (hK : ∀ H', SameX [] H H' → K (.agg ⟨spanC (widenR x n)⟩) H') : Good prog J 131 [.agg ⟨spanC x⟩, vint n] H K := by
  refine g131 hJ fun ok => ?_
  rw [e131]
  refine qBox (l := spanC x) rfl fun H1 p1 e1 S1 c1 l1 => qAl fun H2 p2 e2 S2 c2 l2 => ?_
  have c12 := S2.get c1 (by simp)
  have T := S1.trans S2
  have fin : ∀ {F : RG} {y : Span} {H3 : List AObj}, y = widenR x n → F.ds = [] → F.r 4 = ptr p2 0 → SameX [p2] H2 H3 → H3[p2]? = some (.cells (spanC y) true 0) → RetQ prog [.cell 4 127] H.length K .ret F H3 := fun hy ds r4 S3 c3 => by
    subst hy
    refine retQs ds (resW_cell (gg := true) (s := 3) (by kernel_rfl) ?_)
    show aLoad true 3 _ _ _
    rw [r4]
    refine load_part (c := spanC (widenR x n)) c3 (by simp [spanC]) rfl rfl (resW_nil ?_)
    exact hK _ (T.thru S3 (by simp; omega))
  refine offI (ldI (v := .bool x.2.2) c12 rfl rfl (notI (cndB (fun hb => ?_) fun hb => ?_)))
  · refine fillO (l := [vint n]) rfl rfl rfl (by decide) (fillO (l := [vint n]) rfl rfl rfl (by rw [wrAt_length]; decide) (fillO (l := [.bool true]) rfl rfl rfl (by rw [wrAt_length, wrAt_length]; decide) (fillI ?_)))
    refine qStA (c := spanC (n, n, true)) c2 rfl rfl rfl fun H3 S3 c3 l3 => fin ?_ rfl rfl S3 c3
    unfold widenR
    rw [if_neg (by simpa using hb)]
  · refine offI (ldI (v := vint x.1) c12 rfl rfl (minI (offI (ldI (v := vint x.2.1) c12 rfl rfl (maxI ?_)))))
    refine fillO (l := [vint (min x.1 n)]) rfl rfl rfl (by decide) (fillO (l := [vint (max x.2.1 n)]) rfl rfl rfl (by rw [wrAt_length]; decide) (fillO (l := [.bool true]) rfl rfl rfl (by rw [wrAt_length, wrAt_length]; decide) (fillI ?_)))
    refine qStA (c := spanC (min x.1 n, max x.2.1 n, true)) c2 rfl rfl rfl fun H3 S3 c3 l3 => fin ?_ rfl rfl S3 c3
    unfold widenR
    rw [if_pos (by simpa using hb)]
theorem good130 (hJ : Closed prog main J) {q po j c sz : Nat} {n : Int} {a2 a3 : Value} {L : List Span} (hq : H[q]? = some (.cells [.slice (some ⟨po, 0, none⟩) L.length c] true 0)) (hp : H[po]? = some (.cells (L.flatMap spanC) true sz)) (hj : j < L.length)
    (hK : ∀ H', SameX [po] H H' → H'[po]? = some (.cells ((L.set j (widenR L[j] n)).flatMap spanC) true sz) → K (pack []) H') : Good prog J 130 [vint (j : Nat), vint n, a2, a3, ptr q 0] H K := by
  refine g130 hJ fun ok => ?_
  rw [e130]
  have lq := lt_of_get hq
  have lp := lt_of_get hp
  have hlen : (L.flatMap spanC).length = L.length * 3 := by
    clear hq hp hj hK
    induction L with
    | nil => rfl
    | cons x L ih => rw [List.flatMap_cons, List.length_append, ih, List.length_cons]; show 3 + _ = _; omega
  have hoff : ∀ {KV : Value → Prop}, KV (ptr po (j * 3)) → aIdx 3 (.slice (some ⟨po, 0, none⟩) L.length c) (vint (j : Nat)) KV := fun hk => idxI ⟨by omega, by omega⟩ (by rw [Int.toNat_natCast, Nat.zero_add]; exact hk)
  refine ⟨[q, po], ldI (v := .slice (some ⟨po, 0, none⟩) L.length c) hq rfl rfl ⟨by simp [RdOk, ptrBlk], ldI (v := .slice (some ⟨po, 0, none⟩) L.length c) hq rfl rfl ⟨by simp [RdOk, ptrBlk], hoff (load_part (c := spanC L[j]) hp (by omega) (flat_take (enc := spanC) (s := 3) (fun _ => rfl) L j hj) rfl ⟨by simp [RdOk, ptrBlk], ?_⟩)⟩⟩⟩
  refine good131 hJ fun H1 S1 => ⟨sbTwo S1 lq lp (by simp) (by simp), hoff ?_⟩
  have hp1 := S1.get hp (by simp)
  have lp1 := lt_of_get hp1
  have fin : retL H.length K [] [] (H1.set po (.cells ((L.set j (widenR L[j] n)).flatMap spanC) true sz)) := retL_same (by simp) (hK _ (S1.weak0.set (.inl (by simp))) (List.getElem?_set_self lp1))
  unfold aStore
  simp only [hp1]
  refine ⟨rfl, rfl, by omega, ?_⟩
  rw [show (Value.agg ⟨spanC (widenR L[j] n)⟩).cells.toList = spanC (widenR L[j] n) from rfl, wrAt_span _ _ _ hj]
  exact fin
end
def dayS (p : Pas) (hs : List Int) (w : List UInt8) : Nat → List Span → List Span
  | 0, L => L
  | j + 1, L => (dayS p hs w j L).set j (widenR ((dayS p hs w j L).getD j (0, 0, false)) (stdR p hs w (j + 1)).1)
theorem dayS_len {p : Pas} {hs : List Int} {w : List UInt8} {L : List Span} : ∀ j, (dayS p hs w j L).length = L.length
  | 0 => rfl
  | j + 1 => by rw [dayS, List.length_set, dayS_len j]
def spansR (p : Pas) (hs : List Int) (s : SkyR) : List Span := (rainsB s).foldl (fun L w => dayS p hs w w.length L) (List.replicate s.days.toNat (0, 0, false))
section
variable {main : Bool} {J : JT} {h H : List AObj} {K : Value → List AObj → Prop} {KV : Value → Prop} {HL : List AObj → Prop} {n0 : Nat}
noncomputable abbrev lpW (st : LoopState) (pend : Option Code) (r : Nat → Value) (d : Nat) : AObj := .loop st pend 93 r 21 #[14] (subC [1, 1, 0, 1, 0, 0] (codeOf f93)) (subC [1, 1, 0, 1, 0, 1] (codeOf f93)) d
theorem roundW (hJ : Closed prog main J) {h0 : List AObj} {l d p3 p4 p7 po c sz : Nat} {R : Nat → Value} {p : Pas} {hs : List Int} {hv : Value} {w : List UInt8} {L : List Span} {Q : Value → List AObj → Prop} (f : pasOk p) (hh : headsOk hs) (hw : w.length ≤ hs.length) (hw2 : w.length ≤ 1000) (hL : L.length = w.length)
    (S0 : SameX [] h0 (H.set l (lpW .busy none R d))) (sh : Sli h0 hv 1 hs.length (hs.map vint)) (hpo : h0.length ≤ po) (hp7 : h0.length ≤ p7) (hpl : h0.length ≤ l) (kv : kn1 hv = true)
    (hl : H[l]? = some (lpW .ready none R d)) (r3 : R 3 = ptr p3 0) (r4 : R 4 = ptr p4 0) (r7 : R 7 = ptr p7 0)
    (c3 : H[p3]? = some (.cells p.cells true 0)) (c4 : H[p4]? = some (.cells [hv] true 0)) (c7 : H[p7]? = some (.cells [.slice (some ⟨po, 0, none⟩) L.length c] true 0)) (co : H[po]? = some (.cells (L.flatMap spanC) true sz))
    (n3 : p3 ≠ l) (n4 : p4 ≠ l) (n7 : p7 ≠ l) (no : po ≠ l) (n : p7 ≠ po)
    (k : ∀ H', SameX [l, po] H H' → H'[l]? = some (lpW .ready none R d) → H'[po]? = some (.cells ((dayS p hs w w.length L).flatMap spanC) true sz) → Q (.bool true) H') :
    callV prog (Good prog J) (.func (.yield l) ⟨[]⟩ ⟨[]⟩) [strV w] H Q := by
  show Good prog J (yid prog l) [strV w] H Q
  refine good_round hJ hl rfl (by decide) fun ok => W_sound hJ mixed _ ?_
  rw [a93_1]
  refine ⟨rfl, none, _, _, _, _, _, _, _, hl, W_sound hJ mixed _ ?_⟩
  rw [b93_1]
  have hll := lt_of_get hl
  have hl3 : (H.set l (lpW .busy none R d))[l]? = some (lpW .busy none R d) := List.getElem?_set_self hll
  have S3 : SameX [l] H (H.set l (lpW .busy none R d)) := SameX.refl.set (.inl (by simp))
  generalize H.set l (lpW .busy none R d) = H3 at hl3 S3 S0
  show aLoad true 6 (R 3) _ _
  rw [r3]
  refine load_part (c := p.cells) (S3.get c3 (by simpa using n3)) (by simp [Pas.cells]) rfl rfl ?_
  show aLoad false 1 (R 4) _ _
  rw [r4]
  refine ldI (v := hv) (S3.get c4 (by simpa using n4)) rfl kv ?_
  show aMkF _ [] [R 7] _
  rw [r7]
  refine ⟨rfl, ?_⟩
  refine good86 hJ f hh S0 sh hw hw2 (O0 := [po, p7, l]) (fun x hx => ?_)
    (I := fun j O H1 => O = [po, p7, l] ∧ H1[p7]? = some (.cells [.slice (some ⟨po, 0, none⟩) L.length c] true 0) ∧ H1[po]? = some (.cells ((dayS p hs w j L).flatMap spanC) true sz) ∧ H1[l]? = some (lpW .busy none R d))
    ⟨rfl, S3.get c7 (by simpa using n7), S3.get co (by simpa using no), hl3⟩ ?_ ?_ ?_ ?_
  · simp only [List.mem_cons, List.not_mem_nil, or_false] at hx
    rcases hx with rfl | rfl | rfl <;> assumption
  · rintro j O H1 ⟨rfl, i1, i2, i3⟩ x hx
    simp only [List.mem_cons, List.not_mem_nil, or_false] at hx
    rcases hx with rfl | rfl | rfl
    · exact lt_of_get i2
    · exact lt_of_get i1
    · exact lt_of_get i3
  · rintro j O H1 H2 X ⟨rfl, i1, i2, i3⟩ S hX
    exact ⟨rfl, S.get i1 (hX _ (by simp)), S.get i2 (hX _ (by simp)), S.get i3 (hX _ (by simp))⟩
  · rintro j O H1 K1 ⟨rfl, i1, i2, i3⟩ hj hk1
    have hlen := dayS_len (p := p) (hs := hs) (w := w) (L := L) j
    rw [← hlen] at i1
    refine callCz (by kernel_rfl) (good130 hJ i1 i2 (by omega) fun H2 S2 c2 => hk1 [po, p7, l] H2 _ ⟨rfl, ?_, ?_, S2.get i3 (by simp; exact fun e => no e.symm)⟩ (S2.weak (by simp)) (fun x hx => .inl hx))
    · rw [← hlen]
      exact S2.get i1 (by simpa using n)
    · rw [c2, dayS]
      have : (dayS p hs w j L).getD j (0, 0, false) = (dayS p hs w j L)[j]'(by omega) := by
        rw [List.getD_eq_getElem?_getD, List.getElem?_eq_getElem (by omega)]
        rfl
      rw [this]
  · rintro O H' ⟨rfl, i1, i2, i3⟩ S
    have hl' := lt_of_get i3
    have Sa : SameX [l, po, p7] H H' := (S3.weak (by simp)).trans (S.weak (by simp))
    have Sb : SameX [l, po] H H' := ⟨Sa.1, fun i hi hx => by
      by_cases e : i = p7
      · rw [e, i1, c7]
      · exact Sa.2 i hi (by simp at hx ⊢; exact ⟨hx.1, hx.2, e⟩)⟩
    exact ⟨.busy, none, _, _, _, _, _, _, _, i3, .inl (k _ (Sb.set (.inl (by simp))) (List.getElem?_set_self hl') (get_set i2 no))⟩
theorem zrep_span (n : Nat) : zrep [vint 0, vint 0, .bool false] n = (List.replicate n ((0, 0, false) : Span)).flatMap spanC := by
  induction n with
  | zero => rfl
  | succ n ih =>
    rw [List.replicate_succ, List.flatMap_cons, ← ih]
    rfl
theorem spansK_len {p : Pas} {hs : List Int} {l : List (List UInt8)} : ∀ {L : List Span}, (l.foldl (fun L w => dayS p hs w w.length L) L).length = L.length := by
  induction l with
  | nil => intro L; rfl
  | cons w l ih => intro L; rw [List.foldl_cons, ih, dayS_len]
theorem flat_len (L : List Span) : (L.flatMap spanC).length = L.length * 3 := by
  induction L with
  | nil => rfl
  | cons x L ih => rw [List.flatMap_cons, List.length_append, ih, List.length_cons]; show 3 + _ = _; omega
theorem kn_span (L : List Span) : kn (L.flatMap spanC) = true := by
  unfold kn
  rw [List.all_eq_true]
  intro v hv
  obtain ⟨x, _, hx⟩ := List.mem_flatMap.1 hv
  simp only [spanC, List.mem_cons, List.not_mem_nil, or_false] at hx
  rcases hx with rfl | rfl | rfl <;> rfl
set_option maxHeartbeats 800000 in
theorem good93 (hJ : Closed prog main J) {p : Pas} {s : SkyR} {hs : List Int} {hv : Value} (f : pasOk p) (g : skyOk s) (hh : headsOk hs) (hlen : (hs.length : Int) = s.days) (sh : Sli H hv 1 hs.length (hs.map vint))
    (hK : ∀ H' v, SameX [] H H' → Sli H' v 3 s.days.toNat ((spansR p hs s).flatMap spanC) → K v H') : Good prog J 93 [.agg ⟨p.cells⟩, hv, .agg ⟨s.cells⟩] H K := by
  refine g93 hJ fun ok => ?_
  rw [e93]
  have vh := sliValZ sh
  obtain ⟨g1, g2, g3⟩ := id g
  refine qBox (l := p.cells) rfl fun H1 p3 e1 S1 c3 l1 => qBox1 vh.1 vh.2.1 fun H2 p4 e2 S2 c4 l2 => qBox (l := s.cells) rfl fun H3 p5 e3 S3 c5 l3 => ?_
  have c33 := S3.get (S2.get c3 (by simp)) (by simp)
  have c43 := S3.get c4 (by simp)
  have T3 := (S1.trans S2).trans S3
  have hrm : (2000 : Nat) < room := by decide
  refine offI (ldI (v := vint s.days) c5 rfl rfl ⟨⟨rfl, by decide⟩, by omega, by omega, by omega, ?_⟩)
  generalize hH4 : H3 ++ [AObj.cells (zrep [vint 0, vint 0, .bool false] s.days.toNat) true 0] = H4
  have co : H4[H3.length]? = some (.cells ((List.replicate s.days.toNat ((0, 0, false) : Span)).flatMap spanC) true 0) := by rw [← hH4, zrep_span]; simp
  have S4 : SameX [] H3 H4 := by rw [← hH4]; exact SameX.refl.app
  have l4 : H4.length = H3.length + 1 := by rw [← hH4]; simp
  generalize hpo : H3.length = po at co l4
  refine qAl fun H5 p7 e5 S5 c7 l5 => qSt c7 (by simp) rfl rfl fun H6 S6 c76 l6 => ?_
  have c76 : H6[p7]? = some (.cells [.slice (some ⟨po, 0, none⟩) s.days.toNat s.days.toNat] true 0) := c76
  have S36 : SameX [] H3 H6 := (S4.trans S5).thru S6 (by simp; omega)
  have co6 := S6.get (S5.get co (by simp)) (by simp; omega)
  have T6 : SameX [] H H6 := T3.trans S36
  refine load_part (c := s.cells) (S36.get c5 (by simp)) (by simp [SkyR.cells]) rfl rfl ?_
  refine good90 hJ fun H10 ps S10 cs10 gs => ?_
  have TH : SameX [] H H10 := T6.trans S10
  refine l93_1 hJ (first := []) (cap := [ptr ps 0]) rfl (by decide) ?_
  obtain ⟨R, hRe⟩ : ∃ R : RG, R = RG.p (RG.p (RG.p (RG.p (RG.p (RG.p (RG.p (RG.p (RG.p (RG.p (RG.mk (regs [.agg ⟨p.cells⟩, hv, .agg ⟨s.cells⟩]) []) 3 (ptr p3 0)) 4 (ptr p4 0)) 5 (ptr p5 0)) 6 (.slice none 0 0)) 9 (ptr p5 0)) 10 (vint s.days)) 11 (.slice (some ⟨po, 0, none⟩) s.days.toNat s.days.toNat)) 7 (ptr p7 0)) 12 (.agg ⟨s.cells⟩)) 13 (.func (.func 127) ⟨[]⟩ ⟨[ptr ps 0]⟩) := ⟨_, rfl⟩
  rw [show (ptr p5 (0 + 0)) = ptr p5 0 from rfl, ← hRe]
  have R3 : R.r 3 = ptr p3 0 := by subst hRe; rfl
  have R4 : R.r 4 = ptr p4 0 := by subst hRe; rfl
  have R7 : R.r 7 = ptr p7 0 := by subst hRe; rfl
  have Rds : R.ds = [] := by subst hRe; rfl
  clear hRe
  have hl11 : (H10 ++ [AObj.deferred] ++ [lpW .ready none R.r H10.length])[H10.length + 1]? = some (lpW .ready none R.r H10.length) := by
    rw [List.append_assoc]
    simp
  have hd11 : (H10 ++ [AObj.deferred] ++ [lpW .ready none R.r H10.length])[H10.length]? = some .deferred := by
    rw [List.append_assoc]
    simp
  have hln : (H10 ++ [AObj.deferred] ++ [lpW .ready none R.r H10.length]).length = H10.length + 2 := by simp
  have S11 : SameX [] H10 (H10 ++ [AObj.deferred] ++ [lpW .ready none R.r H10.length]) := SameX.refl.app.app
  generalize hH11 : H10 ++ [AObj.deferred] ++ [lpW .ready none R.r H10.length] = H11 at hl11 hd11 hln S11
  have UH : SameX [] H H11 := TH.trans S11
  have S6' := S10.trans S11
  have S3' := S36.trans S6'
  have w7 := S6'.get c76 (by simp)
  have wo := S6'.get co6 (by simp)
  have w3 := S3'.get c33 (by simp)
  have w4 := S3'.get c43 (by simp)
  have ws : H11[ps]? = some (.cells s.cells true 0) := S11.get cs10 (by simp)
  have b3 := lt_of_get c33
  have b4 := lt_of_get c43
  have b7 := lt_of_get c76
  have bs := lt_of_get cs10
  have h10 := S10.1
  have h36 := S36.1
  have hTH := TH.1
  have hUH := UH.1
  have hT3 := T3.1
  let acc : Nat → List Span := fun k => ((rainsB s).take k).foldl (fun L w => dayS p hs w w.length L) (List.replicate s.days.toNat (0, 0, false))
  have tk : ∀ (k : Nat) (w : List UInt8), (rainsB s)[k]? = some w → acc (k + 1) = dayS p hs w w.length (acc k) := fun k w hw => by
    dsimp only [acc]
    rw [List.take_add_one, hw, List.foldl_append]
    rfl
  have al : ∀ k, (acc k).length = s.days.toNat := fun k => by
    dsimp only [acc]
    rw [spansK_len, List.length_replicate]
  have RD : Rnd J (rainsB s) (.func (.yield (H10.length + 1)) ⟨[]⟩ ⟨[]⟩) [H10.length + 1, po] H11
      (fun k O H' => O = [] ∧ H'[H10.length + 1]? = some (lpW .ready none R.r H10.length) ∧ H'[po]? = some (.cells ((acc k).flatMap spanC) true 0)) (fun H' => False) := by
    refine ⟨by simp; omega, fun h => by rw [h.1]; simp, fun T hi => ⟨hi.1, by rw [T.2 _ (.inl (by omega))]; exact hi.2.1, by rw [T.2 _ (.inl (by omega))]; exact hi.2.2⟩, ?_⟩
    rintro k w O Ha Q hw Sa _ ⟨rfl, i1, i2⟩ q1 q2
    have hwl := rainsB_len (List.mem_of_getElem? hw)
    have ga : ∀ {q : Nat} {o : AObj}, H11[q]? = some o → q ≠ H10.length + 1 → q ≠ po → Ha[q]? = some o := fun hq h1 h2 => Sa.get hq (by simp; exact ⟨h1, h2⟩)
    have Sx : SameX [H10.length + 1, po] H11 (Ha.set (H10.length + 1) (lpW .busy none R.r H10.length)) := Sa.set (.inl (by simp))
    have Sy : SameX [] H (Ha.set (H10.length + 1) (lpW .busy none R.r H10.length)) := UH.thru Sx (by simp; omega)
    have ak := al k
    refine roundW hJ f hh (by omega) (by omega) (L := acc k) (by omega) Sy sh (by omega) (by omega) (by omega) vh.2.2 i1 R3 R4 R7 (ga w3 (by omega) (by omega)) (ga w4 (by omega) (by omega)) (c := s.days.toNat) (by rw [ak]; exact ga w7 (by omega) (by omega)) i2 (by omega) (by omega) (by omega) (by omega) (by omega) fun Hb Sb hlb ho => ?_
    refine q1 [] Hb (Sb.weak (by simp)) (by simp) ⟨rfl, hlb, ?_⟩
    rw [ho, tk k w hw]
  refine good127 hJ g RD ⟨rfl, rfl, rfl⟩ ws (by simp; omega) ⟨rfl, hl11, wo⟩ (fun Hb O Sb _ hi => ?_) fun Hb Sb st => st.elim
  obtain ⟨_, i1, i2⟩ := hi
  have hacc : acc (rainsB s).length = spansR p hs s := by
    dsimp only [acc]
    rw [List.take_of_length_le (Nat.le_refl _)]
    rfl
  have i7 := Sb.get w7 (by simp; omega)
  rw [hacc] at i2
  refine endQnorm i1 (by simp) ?_
  rw [c93_1]
  show aLoad false 1 (R.r 7) _ _
  rw [R7, Rds]
  have hd' := Sb.get hd11 (by simp; omega)
  refine ldI (v := .slice (some ⟨po, 0, none⟩) s.days.toNat s.days.toNat) (get_set i7 (by omega)) rfl rfl ?_
  refine retLdef (get_set hd' (by omega)) (by simp [unk]) (hK ((Hb.set (H10.length + 1) .dead).set H10.length .dead) _ (((UH.thru Sb (by simp; omega)).set (.inr (by omega))).set (.inr (by omega))) ?_)
  have hsl : (spansR p hs s).length = s.days.toNat := by rw [← hacc]; exact al _
  refine ⟨_, _, rfl, ⟨by rw [flat_len, hsl], kn_span _⟩, .inr ⟨po, 0, rfl, .inr ⟨_, _, _, get_set (get_set i2 (by omega)) (by omega), ?_⟩⟩⟩
  rw [List.drop_zero]
  exact List.take_of_length_le (by rw [flat_len, hsl]; exact Nat.le_refl _)
def rngC (x : Span) : List Value := [vint x.1, vint x.2.1]
theorem good41 (hJ : Closed prog main J) {p : Pas} {s : SkyR} {hs : List Int} {hv : Value} (sh : Sli H hv 1 hs.length (hs.map vint)) (hl : hs.length < 1000000)
    (hK0 : ckdE p hs s ≠ 0 → ∀ H', SameX [] H H' → K (.tuple ⟨[.slice none 0 0, vint (ckdE p hs s)]⟩) H')
    (hK1 : ckdE p hs s = 0 → ∀ H' v, SameX [] H H' → Sli H' v 2 s.days.toNat ((spansR p hs s).flatMap rngC) → K (.tuple ⟨[v, vint 0]⟩) H') : Good prog J 41 [.agg ⟨p.cells⟩, hv, .agg ⟨s.cells⟩] H K := by
  refine g41 hJ fun ok => ?_
  rw [e41]
  refine qBox (l := p.cells) rfl fun H1 p3 e1 S1 c3 l1 => qBox (l := s.cells) rfl fun H2 p5 e2 S2 c5 l2 => ?_
  have c32 := S2.get c3 (by simp)
  have T2 := S1.trans S2
  refine load_part (c := p.cells) c32 (by simp [Pas.cells]) rfl rfl (load_part (c := s.cells) c5 (by simp [SkyR.cells]) rfl rfl ?_)
  refine good92 hJ (T2.sli sh (by simp)) hl fun H3 S3 => neqI (cndI (fun h1 => retL_same (nu2 (by simp [unk]) (by simp [unk])) (hK0 h1 H3 (T2.trans S3))) fun h1 => ?_)
  have h0 : ckdE p hs s = 0 := by omega
  obtain ⟨f, g, hh, hlen⟩ := ckdE_zero h0
  obtain ⟨g1, g2, g3⟩ := id g
  have T3 := T2.trans S3
  refine load_part (c := p.cells) (S3.get c32 (by simp)) (by simp [Pas.cells]) rfl rfl (load_part (c := s.cells) (S3.get c5 (by simp)) (by simp [SkyR.cells]) rfl rfl ?_)
  refine good93 hJ f g hh hlen (T3.sli sh (by simp)) fun H4 sv S4 hsv => lenI hsv ?_
  have T4 := T3.trans S4
  have h4 := T4.1
  have hsl : (spansR p hs s).length = s.days.toNat := by
    unfold spansR
    rw [spansK_len, List.length_replicate]
  have hsE : SliE H4 sv 3 spanC (spansR p hs s) := by
    show Sli H4 sv 3 (spansR p hs s).length _
    rw [hsl]
    exact hsv
  have rl : ∀ l : List Span, (l.flatMap rngC).length = l.length * 2 := fun l => by
    induction l with
    | nil => rfl
    | cons x l ih => rw [List.flatMap_cons, List.length_append, ih, List.length_cons]; show 2 + _ = _; omega
  refine l41_1 hJ (fun k : Nat => s.days.toNat - k) (fun k F H' => k ≤ s.days.toNat ∧ SameX [] H4 H' ∧ (∃ o, OwnX H' 2 (((spansR p hs s).take k).flatMap rngC) k (F.r 9) o ∧ ∀ i, o = some i → H4.length ≤ i) ∧ F.ds = [] ∧ F.r 22 = sv ∧ F.r 23 = vint (s.days.toNat : Nat) ∧ F.r 24 = vint (k : Nat)) ?_ (s := 0)
    (.inl ⟨by omega, SameX.refl, ⟨none, ⟨rfl, rfl, .inl ⟨rfl, rfl, rfl⟩⟩, fun i hi => by cases hi⟩, rfl, rfl, rfl, rfl⟩)
  rintro k F H' ⟨hk, S, ⟨o, O, ho⟩, ds, r22, r23, r24⟩ okc hnc
  rw [s41_1, r22, r23, r24, ds]
  refine lssI (cndI (fun hlt => ?_) fun hge => ?_)
  rotate_left
  · have : k = s.days.toNat := by omega
    subst this
    rw [List.take_of_length_le (by omega)] at O
    exact retL_same (nu2 (ownU O) (by simp [unk])) (hK1 h0 H' _ (T4.trans S) (ownX_sli O))
  have hkl : k < (spansR p hs s).length := by omega
  obtain ⟨b, oo, cs, wr, sz, hidx, hb, hos, htk, hkn⟩ := sliE_elem (s := 3) (fun _ => rfl) (by decide) (S.sli hsE (by simp)) hkl
  have htake : (spansR p hs s).take (k + 1) = (spansR p hs s).take k ++ [(spansR p hs s)[k]] := by
    rw [List.take_add_one, List.getElem?_eq_getElem hkl]
    rfl
  generalize (spansR p hs s)[k] = x at htk htake
  refine hidx _ (load_part (c := spanC x) hb hos htk rfl (qAl fun H5 p5' e5 S5 c5' l5 => qStA (c := spanC x) c5' rfl rfl rfl fun H6 S6 c6 l6 => ?_))
  have h4' := S.1
  refine offI (ldI (v := vint x.1) c6 rfl rfl (offI (ldI (v := vint x.2.1) c6 rfl rfl ?_)))
  refine fillO (l := [vint x.1]) rfl rfl rfl (by decide) (fillO (l := [vint x.2.1]) rfl rfl rfl (by rw [wrAt_length]; decide) (fillI ?_))
  refine ⟨⟨by decide, by decide, rfl⟩, fillO (l := rngC x) rfl rfl rfl (by decide) (fillI (qNew fun H7 p7 e7 S7 c7 l7 => ?_))⟩
  have c7 : H7[p7]? = some (.cells (rngC x) true 0) := c7
  have T7 : SameX [] H' H7 := (S5.thru S6 (by simp; omega)).trans S7
  have O7 := ownX_keep O T7 (by simp)
  refine ⟨⟨rfl, by decide, by decide, by decide⟩, ownX_more O7 (by decide) (by omega) (e := rngC x) ⟨_, _, rfl, ⟨rfl, rfl⟩, .inr ⟨p7, 0, rfl, .inr ⟨_, _, _, c7, rfl⟩⟩⟩ fun v' H8 p8 e8 O8 S8 => ?_⟩
  refine addI (by omega) ⟨k + 1, by dsimp only; omega, .inl ⟨by omega, (S.trans T7).thru S8 (fun y hy => .inr ?_), ⟨some p8, ?_, fun i hi => ?_⟩, ds, r22, r23, by show vint _ = vint _; congr 1⟩⟩
  · cases o with
    | none => simp at hy
    | some i =>
      simp at hy
      rw [hy]
      exact ho i rfl
  · rw [htake, List.flatMap_append, List.flatMap_singleton]
    exact O8
  · cases hi
    have := T7.1
    omega
end
def mead : Pas := ⟨12, 20, 1, 4, 3, 2⟩
def seas : SkyR := ⟨3, 2, 2⟩
def fives : List Int := [5, 5, 5]
theorem x_asks : askE mead fives [100, 119, 100] = 0 := by decide +kernel
theorem x_ends : endsZ mead fives [100, 119, 100] 3 = [8, 7, 2] := by decide +kernel
theorem x_ckd : ckdE mead fives seas = 0 := by decide +kernel
theorem x_spans : spansR mead fives seas = [(8, 11, true), (4, 10, true), (0, 6, true)] := by decide +kernel
theorem x_worst : wstV mead fives seas = ([100, 100, 119], 2, 0) := by decide +kernel
theorem x_heads : headN mead seas 0 3 = 4 ∧ headE mead seas 0 3 = 0 := by decide +kernel
theorem x_turn : foundR [mead, mead] seas 6 2 0 = some [0, 0, 1] := by decide +kernel
section
variable {main : Bool} {J : JT} {h H : List AObj} {K : Value → List AObj → Prop} {KV : Value → Prop} {HL : List AObj → Prop} {n0 : Nat}
theorem good67 (hJ : Closed prog main J) (hK : ∀ H', SameX [] H H' → K (.agg ⟨mead.cells⟩) H') : Good prog J 67 [] H K := by
  refine g67 hJ fun ok => ?_
  rw [e67]
  refine qAl fun H1 p1 e1 S1 c1 l1 => ?_
  refine fillO (l := [vint 12]) rfl rfl rfl (by decide) (fillO (l := [vint 20]) rfl rfl rfl (by simp [wrAt_length]) (fillO (l := [vint 1]) rfl rfl rfl (by simp [wrAt_length]) (fillO (l := [vint 4]) rfl rfl rfl (by simp [wrAt_length]) (fillO (l := [vint 3]) rfl rfl rfl (by simp [wrAt_length]) (fillO (l := [vint 2]) rfl rfl rfl (by simp [wrAt_length]) (fillI ?_))))))
  refine qStA (c := mead.cells) c1 rfl rfl rfl fun H2 S2 c2 l2 => retQs rfl (resW_cell (gg := true) (s := 6) (by kernel_rfl) ?_)
  exact load_part (c := mead.cells) c2 (by simp [Pas.cells]) rfl rfl (resW_nil (hK H2 (S1.thru S2 (by simp; omega))))
theorem good68 (hJ : Closed prog main J) (hK : ∀ H', SameX [] H H' → K (.agg ⟨seas.cells⟩) H') : Good prog J 68 [] H K := by
  refine g68 hJ fun ok => ?_
  rw [e68]
  refine qAl fun H1 p1 e1 S1 c1 l1 => ?_
  refine fillO (l := [vint 3]) rfl rfl rfl (by decide) (fillO (l := [vint 2]) rfl rfl rfl (by simp [wrAt_length]) (fillO (l := [vint 2]) rfl rfl rfl (by simp [wrAt_length]) (fillI ?_)))
  refine qStA (c := seas.cells) c1 rfl rfl rfl fun H2 S2 c2 l2 => retQs rfl (resW_cell (gg := true) (s := 3) (by kernel_rfl) ?_)
  exact load_part (c := seas.cells) c2 (by simp [SkyR.cells]) rfl rfl (resW_nil (hK H2 (S1.thru S2 (by simp; omega))))
theorem teqR (x : Span) : teq prog 10000 61 (.agg ⟨rngC x⟩) (.agg ⟨rngC x⟩) = some true := by
  have : teq prog 10000 61 (.agg ⟨rngC x⟩) (.agg ⟨rngC x⟩) = mB (some (x.1 == x.1)) (mB (some (x.2.1 == x.2.1)) (some true)) := by kernel_rfl
  rw [this]
  simp [mB_some]
theorem neqR {x : Span} (hk : KV (.bool false)) : aBin prog .neq 61 (.agg ⟨rngC x⟩) (.agg ⟨rngC x⟩) KV := by
  show aEq prog true 61 (.agg ⟨rngC x⟩) (.agg ⟨rngC x⟩) KV
  unfold aEq
  rw [teqR]
  exact ⟨by kernel_rfl, hk⟩
theorem good53 (hJ : Closed prog main J) {av bv : Value} {xs : List Span} (ha : SliE H av 2 rngC xs) (hb : SliE H bv 2 rngC xs) (hl : xs.length < 1000000) (hK : K (.bool true) H) : Good prog J 53 [av, bv] H K := by
  refine g53 hJ fun ok => ?_
  rw [e53, sliE_len ha, sliE_len hb]
  refine neqI (cndI (fun h => absurd rfl h) fun _ => ?_)
  refine l53_1 hJ (fun k : Nat => xs.length - k) (fun k F H' => H' = H ∧ k ≤ xs.length ∧ F.ds = [] ∧ F.r 0 = av ∧ F.r 1 = bv ∧ F.r 5 = vint (k : Nat)) ?_ (s := 0)
    (.inl ⟨rfl, by omega, rfl, rfl, rfl, rfl⟩)
  rintro k F H' ⟨rfl, hk, ds, r0, r1, r5⟩ okc hnc
  rw [s53_1, r0, r1, r5, ds, sliE_len ha]
  refine lssI (cndI (fun hlt => ?_) fun hge => retL_same (by simp [unk]) hK)
  have hkl : k < xs.length := by omega
  obtain ⟨b, o, cs, wr, sz, hidx, hbb, hos, htk, hkn⟩ := sliE_elem (s := 2) (fun _ => rfl) (by decide) ha hkl
  obtain ⟨b', o', cs', wr', sz', hidx', hbb', hos', htk', hkn'⟩ := sliE_elem (s := 2) (fun _ => rfl) (by decide) hb hkl
  refine hidx _ (load_part hbb hos htk hkn (hidx' _ (load_part hbb' hos' htk' hkn' ?_)))
  exact neqR (cnd_false.2 (addI (by omega) ⟨k + 1, by dsimp only; omega, .inl ⟨rfl, by omega, ds, r0, r1, by show vint _ = vint _; congr 1⟩⟩))
theorem eqlStr {KV : Value → Prop} (hk : KV (.bool true)) : aBin prog .eql 9 (strV [100, 100, 119]) (Value.string { data := #[100, 100, 119] }) KV := by
  have e : aBin prog .eql 9 (strV [100, 100, 119]) (Value.string { data := #[100, 100, 119] }) KV = KV (.bool true) := by kernel_rfl
  rw [e]
  exact hk
theorem fill3 {a b c : Int} {KL : List Value → Prop} (hk : KL [vint a, vint b, vint c]) : aFill (zrep [vint 0] 3) [(0, 1, vint a), (1, 1, vint b), (2, 1, vint c)] KL :=
  fillO (l := [vint a]) rfl rfl rfl (by decide) (fillO (l := [vint b]) rfl rfl rfl (by rw [wrAt_length]; decide) (fillO (l := [vint c]) rfl rfl rfl (by rw [wrAt_length, wrAt_length]; decide) (fillI hk)))
theorem sli3 {p : Nat} {a b c : Int} (hc : H[p]? = some (.cells [vint a, vint b, vint c] true 0)) : Sli H (.slice (some ⟨p, 0, none⟩) 3 3) 1 ([a, b, c] : List Int).length (([a, b, c] : List Int).map vint) := ownX_sli (ownX_new (s := 1) (n := 3) hc rfl rfl)
theorem good21 {W0 : World} {Post : Value → World → Prop} (hK : ∀ H', SameX [] (unch H) H' → K (.bool true) H') : Good prog (J2 prog W0 Post) 21 [] H K := by
  have hJ := J2.closed prog W0 Post
  refine g21 hJ fun ok => ?_
  rw [e21]
  refine good67 hJ fun H1 S1 => ⟨⟨by decide, by decide, rfl⟩, fill3 (qNew fun H2 p2 e2 S2 c2 l2 => ?_)⟩
  refine good32 hJ (p := mead) (heads := fives) (w := [100, 119, 100]) (sli3 c2) (by decide) (by decide) (fun h => absurd x_asks h) fun _ H3 v3 S3 s3 => ext0 (ext1 ?_)
  rw [show ([100, 119, 100] : List UInt8).length = 3 from rfl, x_ends] at s3
  refine good67 hJ fun H4 S4 => ⟨⟨by decide, by decide, rfl⟩, fill3 (qNew fun H5 p5 e5 S5 c5 l5 => good68 hJ fun H6 S6 => ?_)⟩
  refine good41 hJ (p := mead) (s := seas) (hs := fives) (S6.sli (sli3 c5) (by simp)) (by decide) (fun h => absurd x_ckd h) fun _ H7 v7 S7 s7 => ext0 (ext1 ?_)
  rw [x_spans] at s7
  refine good67 hJ fun H8 S8 => ⟨⟨by decide, by decide, rfl⟩, fill3 (qNew fun H9 p9 e9 S9 c9 l9 => good68 hJ fun H10 S10 => ?_)⟩
  refine good51 hJ (p := mead) (s := seas) (hs := fives) (S10.sli (sli3 c9) (by simp)) (by decide) fun H11 S11 => ?_
  rw [x_worst]
  refine ext30 (ext31 (ext32 ?_))
  refine good67 hJ fun H12 S12 => good68 hJ fun H13 S13 => good33 hJ (p := mead) (s := seas) (fr := 0) (dy := 3) fun H14 S14 => ?_
  rw [x_heads.1, x_heads.2]
  refine ext0 (ext1 (good67 hJ fun H15 S15 => good67 hJ fun H16 S16 => ⟨⟨by decide, by decide, rfl⟩, ?_⟩))
  refine fillO (l := mead.cells) rfl rfl rfl (by decide) (fillO (l := mead.cells) rfl rfl rfl (by rw [wrAt_length]; decide) (fillI (qNew fun H17 p17 e17 S17 c17 l17 => good68 hJ fun H18 S18 => ?_)))
  have c17 : H17[p17]? = some (.cells ([mead, mead].flatMap Pas.cells) true 0) := c17
  have hl : SliE H18 (.slice (some ⟨p17, 0, none⟩) 2 2) 6 Pas.cells [mead, mead] := S18.sli (ownX_sli (ownX_new (s := 6) (n := 2) c17 rfl rfl)) (by simp)
  refine good27 (q := mead) (s := seas) (heads := 6) (by decide) (by decide) (by decide) 2 rfl hl ?_
  rw [x_turn]
  intro H19 v19 S19 s19
  have T318 : SameX [] H3 H18 := (((((((((((((S4.trans S5).trans S6).trans S7).trans S8).trans S9).trans S10).trans S11).trans S12).trans S13).trans S14).trans S15).trans S16).trans S17).trans S18
  have T718 : SameX [] H7 H18 := (((((((((S8.trans S9).trans S10).trans S11).trans S12).trans S13).trans S14).trans S15).trans S16).trans S17).trans S18
  have T18 : SameX [] H H18 := ((S1.trans S2).trans S3).trans T318
  have TU : SameX [] (unch H) H19 := by
    refine SameX.trans ⟨by rw [unch_len, unch_len]; exact T18.1, fun i hi _ => ?_⟩ S19
    rw [unch_len] at hi
    unfold unch
    rw [List.getElem?_map, List.getElem?_map, T18.2 i hi (by simp)]
  have s3' := S19.sli (unch_sli (T318.sli s3 (by simp))) (by simp)
  have s7' := S19.sli (unch_sli (T718.sli s7 (by simp))) (by simp)
  refine ext0 (ext1 ?_)
  refine eqlI (cndI (fun _ => ?_) fun h => absurd rfl h)
  refine eqlI (cndI (fun _ => ?_) fun h => absurd rfl h)
  refine eqlI (cndI (fun _ => ?_) fun h => absurd rfl h)
  refine eqlI (cndI (fun _ => ?_) fun h => absurd rfl h)
  refine eqlI (cndI (fun _ => ?_) fun h => absurd rfl h)
  refine eqlStr (cnd_true.2 ?_)
  refine eqlI (cndI (fun _ => ?_) fun h => absurd rfl h)
  refine eqlI (cndI (fun _ => ?_) fun h => absurd rfl h)
  refine ⟨⟨by decide, by decide, rfl⟩, fill3 (qNew fun H20 p20 e20 S20 c20 l20 => ?_)⟩
  refine good29 hJ (xs := [8, 7, 2]) (ys := [8, 7, 2]) (S20.sli s3' (by simp)) (sli3 c20) (by decide) (cndI (fun _ => ?_) fun h => absurd rfl h)
  refine fillO (l := [vint 8]) rfl rfl rfl (by decide) (fillO (l := [vint 11]) rfl rfl rfl (by decide) (fillI ?_))
  refine fillO (l := [vint 4]) rfl rfl rfl (by decide) (fillO (l := [vint 10]) rfl rfl rfl (by decide) (fillI ?_))
  refine fillO (l := [vint 6]) rfl rfl rfl (by decide) (fillI ?_)
  refine ⟨⟨by decide, by decide, rfl⟩, fillO (l := [vint 8, vint 11]) rfl rfl rfl (by decide) (fillO (l := [vint 4, vint 10]) rfl rfl rfl (by rw [wrAt_length]; decide) (fillO (l := [vint 0, vint 6]) rfl rfl rfl (by rw [wrAt_length, wrAt_length]; decide) (fillI (qNew fun H21 p21 e21 S21 c21 l21 => ?_))))⟩
  have c21 : H21[p21]? = some (.cells (([(8, 11, true), (4, 10, true), (0, 6, true)] : List Span).flatMap rngC) true 0) := c21
  have T21 := S20.trans S21
  refine good53 hJ (xs := [(8, 11, true), (4, 10, true), (0, 6, true)]) (T21.sli s7' (by simp)) (ownX_sli (ownX_new (s := 2) (n := 3) c21 rfl rfl)) (by decide) (cnd_true.2 ?_)
  refine ⟨⟨by decide, by decide, rfl⟩, fill3 (qNew fun H22 p22 e22 S22 c22 l22 => ?_)⟩
  refine good29 hJ (xs := [0, 0, 1]) (ys := [0, 0, 1]) ((T21.trans S22).sli s19 (by simp)) (sli3 c22) (by decide) (retL_same (by simp [unk]) ?_)
  have := hK H22 (TU.trans (T21.trans S22))
  simpa [pack] using this
end
end Go.Proofs.Ythnccaajpdnndaa
namespace Go.Proofs.Ythnccaajpdnndaa
open Go.Conc Go.Proofs.Try
set_option maxRecDepth 100000
set_option maxHeartbeats 4000000
set_option linter.unusedVariables false
section
variable {main : Bool} {J : JT} {n0 : Nat} {h : List AObj} {K : Value → List AObj → Prop}
theorem at54 : prog.funcs[54]? = some f54 := by kernel_rfl
theorem body54 : f54.body = some (codeOf f54) := by kernel_rfl
def pl54 : Plans := [(1, false, .take 0 (.take 1 (.take 2 (.take 3 (.take 4 (.take 5 (.take 7 (.last 6 true (.last 8 true (.take 9 (.take 10 (.take 11 (.take 12 (.take 13 (.fin)))))))))))))))]
def ct54 : Cuts := .go
theorem pok54 : plansOk prog pl54 (codeOf f54) = true := by kernel_rfl
theorem e54 {a0 a1 a2 a3 a4 : Value} : W prog J 30 h.length 54 (codeOf f54) (RG.mk (regs [a0, a1, a2, a3, a4]) []) h (RetQ prog [.tmp 10, .tmp 11] h.length K) =
(aBox a0 h fun v1 h2 =>
 aBox a1 h2 fun v3 h4 =>
(∃ B, aLoad true 6 v1 h4 fun v5 =>
 RdOk (some B) (ptrBlk v1) ∧ (aOff v3 0 fun v6 =>
 aLoad false 1 v6 h4 fun v7 =>
 RdOk (some B) (ptrBlk v6) ∧ (aLoad true 3 v3 h4 fun v8 =>
 RdOk (some B) (ptrBlk v3) ∧ (Good prog J 100 [v7, a2, a3, a4] h4 fun v9 h10 =>
 SameB (some B) h4 h10 ∧ (Good prog J 49 [v5, v9, v8] h10 fun v11 h12 =>
 SameB (some B) h4 h12 ∧ (aExt v11 0 fun v13 =>
 aExt v11 1 fun v14 =>
 aBin prog .eql 3 v13 (vint 1) fun v15 =>
 aBin prog .eql 37 v14 (vint 0) fun v16 =>
 retL h.length K [] [v15, v16] h12))))))) := top_eq pok54 ct54 (by kernel_rfl)
theorem g54 (hJ : Closed prog main J) {a0 a1 a2 a3 a4 : Value} (hs : heapOk h → W prog J 30 h.length 54 (codeOf f54) (RG.mk (regs [a0, a1, a2, a3, a4]) []) h (RetQ prog [.tmp 10, .tmp 11] h.length K)) : Good prog J 54 [a0, a1, a2, a3, a4] h K :=
  good_of_W hJ mixed at54 body54 (by kernel_rfl) (Nat.le_of_ble_eq_true rfl) hs
end
section
variable {main : Bool} {J : JT} {n0 : Nat} {h : List AObj} {K : Value → List AObj → Prop}
theorem at100 : prog.funcs[100]? = some f100 := by kernel_rfl
theorem body100 : f100.body = some (codeOf f100) := by kernel_rfl
def pl100 : Plans := []
def ct100 : Cuts := .go
theorem pok100 : plansOk prog pl100 (codeOf f100) = true := by kernel_rfl
theorem e100 {a0 a1 a2 a3 : Value} : W prog J 26 h.length 100 (codeOf f100) (RG.mk (regs [a0, a1, a2, a3]) []) h (RetQ prog [.tmp 8] h.length K) =
(((List.length [(vint 0)] = 1 ∧ (8 : Nat) ≤ 1024) ∧ aMkS [(vint 0)] a0 a0 h fun v1 h2 =>
 Sem J 26 h.length 100 (subC [1, 1, 0, 1, 0] (codeOf f100)) (RG.p (RG.p (RG.p (RG.p (RG.p (RG.p (RG.mk (regs [a0, a1, a2, a3]) []) 8 (Value.slice none 0 0)) 11 a0) 12 v1) 9 v1) 13 a2) 10 a2) h2 (contX pl100 prog J 26 h.length 100 ct100 [1, 1, 0, 1, 0] (codeOf f100) [] (RetQ prog [.tmp 8] h.length K)))) := top_eq pok100 ct100 (by kernel_rfl)
theorem g100 (hJ : Closed prog main J) {a0 a1 a2 a3 : Value} (hs : heapOk h → W prog J 26 h.length 100 (codeOf f100) (RG.mk (regs [a0, a1, a2, a3]) []) h (RetQ prog [.tmp 8] h.length K)) : Good prog J 100 [a0, a1, a2, a3] h K :=
  good_of_W hJ mixed at100 body100 (by kernel_rfl) (Nat.le_of_ble_eq_true rfl) hs
theorem s100_1 {f : RG} {nx0 : RG → List AObj → Prop} : W prog J 26 n0 100 (subC [1, 1, 0, 1, 0, 0] (codeOf f100)) f h (thenK nx0 (contX pl100 prog J 26 n0 100 ct100 [1, 1, 0, 1, 0] (codeOf f100) [] (RetQ prog [.tmp 8] n0 K))) =
(aBin prog .add 3 (f.r 2) (f.r 3) fun v1 =>
 aBin prog .lss 3 (f.r 10) v1 fun v2 =>
 cnd v2
(aIdx 1 (f.r 9) (f.r 10) fun v3 =>
 aStore 1 v3 (f.r 1) h fun h4 =>
 aBin prog .add 3 (f.r 10) (vint 1) fun v5 =>
 nx0 (RG.p (RG.p (RG.p (RG.p (RG.p (RG.p (RG.p (RG.p (RG.p (RG.p (RG.p (RG.p f 14 (f.r 10)) 15 (f.r 2)) 16 (f.r 3)) 17 v1) 18 v2) 21 (f.r 9)) 22 (f.r 10)) 23 (f.r 1)) 24 v3) 19 (f.r 10)) 20 v5) 10 v5) h4)
(retL n0 K f.ds [(f.r 9)] h)) := sub_eq pok100 ct100 (by kernel_rfl)
theorem l100_1 (hJ : Closed prog main J) {S : Type} (μ : S → Nat) (I : S → RG → List AObj → Prop) (hI : ∀ s f h, I s f h → heapOk h → n0 ≤ h.length → W prog J 26 n0 100 (subC [1, 1, 0, 1, 0, 0] (codeOf f100)) f h (thenK (Nx n0 μ I s) (contX pl100 prog J 26 n0 100 ct100 [1, 1, 0, 1, 0] (codeOf f100) [] (RetQ prog [.tmp 8] n0 K))))
  {s : S} {f : RG} (hi : Gets n0 I s f h) : Sem J 26 n0 100 (subC [1, 1, 0, 1, 0] (codeOf f100)) f h (contX pl100 prog J 26 n0 100 ct100 [1, 1, 0, 1, 0] (codeOf f100) [] (RetQ prog [.tmp 8] n0 K)) :=
  loop_rule hJ mixed (b := subC [1, 1, 0, 1, 0, 0] (codeOf f100)) (by kernel_rfl) μ I hI hi
end
end Go.Proofs.Ythnccaajpdnndaa
namespace Go.Proofs.Ythnccaajpdnndaa
open Go.Conc Go.Proofs.Try
set_option maxRecDepth 100000
def strsB : Nat → List (List UInt8)
  | 0 => [[]]
  | n + 1 => (strsB n).map (100 :: ·) ++ (strsB n).map (119 :: ·)
def fallX (s : SkyR) : Spl → List UInt8 → Bool
  | _, [] => true
  | x, c :: u => nextOk s x c && fallX s (nextX x c) u
theorem growB_strs {s : SkyR} : ∀ {n : Nat} {w : List UInt8} {x : Spl}, growB s n w x = ((strsB n).filter (fallX s x)).map (w ++ ·)
  | 0, w, x => by
    have e : List.filter (fallX s x) [[]] = [[]] := by
      rw [List.filter_cons, if_pos (show fallX s x [] = true by unfold fallX; rfl)]
      rfl
    show [w] = (List.filter (fallX s x) [[]]).map (w ++ ·)
    rw [e]
    simp
  | n + 1, w, x => by
    have part : ∀ c : UInt8, (if nextOk s x c = true then growB s n (w ++ [c]) (nextX x c) else []) = (((strsB n).map (c :: ·)).filter (fallX s x)).map (w ++ ·) := by
      intro c
      rw [List.filter_map]
      by_cases h : nextOk s x c = true
      · rw [if_pos h, growB_strs]
        have : (fallX s x ∘ fun x => c :: x) = fallX s (nextX x c) := by
          funext u
          show (nextOk s x c && fallX s (nextX x c) u) = _
          rw [h, Bool.true_and]
        rw [this, List.map_map]
        congr 1
        funext u
        simp
      · rw [if_neg h]
        have h' : nextOk s x c = false := by simpa using h
        have : (fallX s x ∘ fun x => c :: x) = fun _ => false := by
          funext u
          show (nextOk s x c && fallX s (nextX x c) u) = _
          rw [h', Bool.false_and]
        rw [this]
        simp
    unfold growB strsB
    rw [part, part, List.filter_append, List.map_append]
theorem rainsB_strs {s : SkyR} : rainsB s = (strsB s.days.toNat).filter (fallX s (0, 0)) := by
  unfold rainsB
  rw [growB_strs]
  simp
theorem strsB_len : ∀ {n : Nat}, ∀ u ∈ strsB n, u.length = n ∧ ∀ c ∈ u, c = 100 ∨ c = 119
  | 0, u, hu => by
    rw [List.mem_singleton.1 hu]
    exact ⟨rfl, by simp⟩
  | n + 1, u, hu => by
    unfold strsB at hu
    rcases List.mem_append.1 hu with hu | hu <;> obtain ⟨v, hv, rfl⟩ := List.mem_map.1 hu <;> obtain ⟨h1, h2⟩ := strsB_len v hv
    · exact ⟨by rw [List.length_cons, h1], fun c hc => by
        rcases List.mem_cons.1 hc with h | h
        · exact .inl h
        · exact h2 c h⟩
    · exact ⟨by rw [List.length_cons, h1], fun c hc => by
        rcases List.mem_cons.1 hc with h | h
        · exact .inr h
        · exact h2 c h⟩
section
variable {main : Bool} {J : JT} {h H Hb : List AObj} {K : Value → List AObj → Prop} {KV : Value → Prop} {HL : List AObj → Prop} {n0 : Nat}
def TillN (n : Nat) (H H' : List AObj) : Prop := H.length ≤ H'.length ∧ ∀ i, i < n → H'[i]? = H[i]?
theorem TillN.same {X : List Nat} (T : TillN Hb.length H h) (S : SameX X Hb H) : SameX X Hb h := ⟨Nat.le_trans S.1 T.1, fun i hi hx => by rw [T.2 i hi]; exact S.2 i hi hx⟩
theorem TillN.trans {n : Nat} {H1 H2 H3 : List AObj} (a : TillN n H1 H2) (b : TillN n H2 H3) : TillN n H1 H3 := ⟨Nat.le_trans a.1 b.1, fun i hi => (b.2 i hi).trans (a.2 i hi)⟩
theorem tillN_of {n : Nat} {X : List Nat} {H1 H2 : List AObj} (S : SameX X H1 H2) (hn : n ≤ H1.length) (hX : ∀ x ∈ X, n ≤ x) : TillN n H1 H2 := ⟨S.1, fun i hi => S.2 i (by omega) fun hx => by have := hX i hx; omega⟩
def Own3 (n : Nat) (H : List AObj) (a b c : List Int) (va vb vc : Value) : Prop :=
  ∃ oa ob oc, OwnX H 1 (a.map vint) a.length va oa ∧ OwnX H 1 (b.map vint) b.length vb ob ∧ OwnX H 1 (c.map vint) c.length vc oc ∧ (∀ j, oa = some j → n ≤ j ∧ ob ≠ some j ∧ oc ≠ some j) ∧ (∀ j, ob = some j → n ≤ j ∧ oc ≠ some j) ∧ (∀ j, oc = some j → n ≤ j)
theorem Own3.keep {n : Nat} {a b c : List Int} {va vb vc : Value} {X : List Nat} {H' : List AObj} (O : Own3 n H a b c va vb vc) (S : SameX X H H') (hX : ∀ x ∈ X, x < n) : Own3 n H' a b c va vb vc := by
  obtain ⟨oa, ob, oc, A, B, C, h1, h2, h3⟩ := O
  refine ⟨oa, ob, oc, ownX_keep A S fun i hi hx => ?_, ownX_keep B S fun i hi hx => ?_, ownX_keep C S fun i hi hx => ?_, h1, h2, h3⟩
  · have := h1 i hi; have := hX i hx; omega
  · have := h2 i hi; have := hX i hx; omega
  · have := h3 i hi; have := hX i hx; omega
theorem Own3.nil {n : Nat} : Own3 n H [] [] [] (.slice none 0 0) (.slice none 0 0) (.slice none 0 0) := ⟨none, none, none, ⟨rfl, rfl, .inl ⟨rfl, rfl, rfl⟩⟩, ⟨rfl, rfl, .inl ⟨rfl, rfl, rfl⟩⟩, ⟨rfl, rfl, .inl ⟨rfl, rfl, rfl⟩⟩, by simp, by simp, by simp⟩
theorem Own3.add {n : Nat} {a b c : List Int} {va vb vc : Value} {x : Int} {K : Value → Value → List AObj → Prop} (O : Own3 n H a b c va vb vc) (hl : a.length < 90000) (hn : n ≤ H.length)
    (hK : ∀ y v' H', TillN n H H' → Own3 n H' (a ++ [x]) b c v' vb vc → K y v' H') :
    (((1 * 1 : Nat) ≤ 16777216 ∧ (1 : Nat) ≤ 16777216 ∧ List.length [(vint 0)] = 1) ∧ aFill (zrep [(vint 0)] 1) [(0, 1, vint x)] fun c6 => aNewS 1 c6 H fun v7 h8 =>
      ((List.length [(vint 0)] = 1 ∧ 0 < (1 : Nat) ∧ 0 < (8 : Nat) ∧ (8 : Nat) ≤ 1024) ∧ aApp 1 va v7 h8 (K v7))) := by
  obtain ⟨oa, ob, oc, A, B, C, h1, h2, h3⟩ := O
  refine ⟨by decide, fillO (l := [vint x]) rfl rfl rfl (by decide) (fillI (qNew fun H1 p1 e1 S1 c1 l1 => ⟨by decide, ?_⟩))⟩
  have c1 : H1[p1]? = some (.cells [vint x] true 0) := c1
  have hS := S1.1
  refine ownX_more (ownX_keep A S1 (by simp)) (by omega) (by omega) (ownX_sli (ownX_new (s := 1) (n := 1) c1 rfl rfl)) fun v' H' p' e' O' S' => ?_
  have hb1 := ownX_lt B
  have hc1 := ownX_lt C
  have na : ∀ z ∈ oa.toList, n ≤ z := fun z hz => (h1 z (Option.mem_toList.1 hz)).1
  refine hK _ v' H' ((tillN_of S1 hn (by simp)).trans (tillN_of S' (by omega) na)) ⟨some p', ob, oc, ?_, ownX_keep (ownX_keep B S1 (by simp)) S' fun j hj hm => (h1 j (Option.mem_toList.1 hm)).2.1 hj, ownX_keep (ownX_keep C S1 (by simp)) S' fun j hj hm => (h1 j (Option.mem_toList.1 hm)).2.2 hj, fun j hj => ?_, h2, h3⟩
  · rw [List.map_append, List.length_append]
    exact O'
  · cases hj
    exact ⟨by omega, fun e => by have := hb1 _ e; omega, fun e => by have := hc1 _ e; omega⟩
set_option maxHeartbeats 800000 in
/-- A rain, day by day. -/
theorem good100 (hJ : Closed prog main J) {a fr dy : Nat} {n : Int} (ha : a ≤ 8) (hfd : fr + dy ≤ a) (hK : ∀ H' v o, SameX [] H H' → OwnX H' 1 ((stayH a fr dy n).map vint) (stayH a fr dy n).length v (some o) → H.length ≤ o → K v H') : Good prog J 100 [vint (a : Nat), vint n, vint (fr : Nat), vint (dy : Nat)] H K := by
  refine g100 hJ fun ok => ?_
  rw [e100]
  have hrm : (2000 : Nat) < room := by decide
  refine ⟨by decide, by omega, Int.le_refl _, by omega, ?_⟩
  rw [Int.toNat_natCast]
  have zl : ∀ k, zrep [vint 0] k = (List.replicate k (0 : Int)).map vint := by
    intro k
    induction k with
    | zero => rfl
    | succ k ih =>
      show [vint 0] ++ zrep [vint 0] k = _
      rw [ih, List.replicate_succ]
      rfl
  generalize hH5 : H ++ [AObj.cells (zrep [vint 0] a) true 0] = H5
  have c5 : H5[H.length]? = some (.cells ((stayH a fr 0 n).map vint) true 0) := by rw [← hH5, zl, stayH_zero]; simp
  have S5 : SameX [] H H5 := by rw [← hH5]; exact SameX.refl.app
  generalize hpl : H.length = pl at c5
  refine l100_1 hJ (fun i : Nat => dy - i) (fun i F H' => i ≤ dy ∧ SameX [pl] H5 H' ∧ H'[pl]? = some (.cells ((stayH a fr i n).map vint) true 0) ∧ F.ds = [] ∧ F.r 1 = vint n ∧ F.r 2 = vint (fr : Nat) ∧ F.r 3 = vint (dy : Nat) ∧ F.r 9 = .slice (some ⟨pl, 0, none⟩) a a ∧ F.r 10 = vint ((fr + i : Nat) : Int)) ?_ (s := 0)
    (.inl ⟨by omega, SameX.refl, c5, rfl, rfl, rfl, rfl, rfl, rfl⟩)
  rintro i F H' ⟨hi, S, cl, ds, r1, r2, r3, r9, r10⟩ okc hnc
  rw [s100_1, r1, r2, r3, r9, r10, ds]
  refine addI (by omega) (lssI (cndI (fun hlt => ?_) fun hge => ?_))
  · refine idxI ⟨by omega, by omega⟩ ?_
    have e1 : 0 + ((fr + i : Nat) : Int).toNat * 1 = fr + i := by omega
    rw [e1]
    refine qSt cl (by simp [stayH_len]; omega) rfl rfl fun H8 S8 c8' l8 => addI (by omega) ⟨i + 1, by dsimp only; omega, .inl ⟨by omega, S.trans S8, ?_, ds, r1, r2, r3, r9, by show vint _ = vint _; congr 1⟩⟩
    rw [c8', ← List.map_set, stayH_set (by omega)]
  · have hid : i = dy := by omega
    subst hid
    refine retL_same (by simp [unk]) (hK H' (.slice (some ⟨pl, 0, none⟩) a a) pl (S5.thru S (by simp; omega)) ⟨by simp, knV _, .inr ⟨pl, a, 0, rfl, by rw [stayH_len], cl, .inr (by rw [stayH_len])⟩⟩ (by omega))
end
section
variable {main : Bool} {J : JT} {h H : List AObj} {K : Value → List AObj → Prop} {KV : Value → Prop} {HL : List AObj → Prop} {n0 : Nat}
theorem good54 (hJ : Closed prog main J) {p : Pas} {s : SkyR} {n : Int} {a fr dy : Nat} (ha : s.days = (a : Int)) (ha8 : a ≤ 8) (hfd : fr + dy ≤ a)
    (hK : ∀ H', SameX [] H H' → K (.tuple ⟨[.bool (decide (feedN p (stayH a fr dy n) s = 1)), .bool (decide (ckdE p (stayH a fr dy n) s = 0))]⟩) H') : Good prog J 54 [.agg ⟨p.cells⟩, .agg ⟨s.cells⟩, vint n, vint (fr : Nat), vint (dy : Nat)] H K := by
  refine g54 hJ fun ok => ?_
  rw [e54]
  refine qBox (l := p.cells) rfl fun H1 p4 e1 S1 c4 l1 => qBox (l := s.cells) rfl fun H2 p5 e2 S2 c5 l2 => ?_
  have c42 := S2.get c4 (by simp)
  have T2 := S1.trans S2
  have b4 := lt_of_get c42
  have b5 := lt_of_get c5
  have sb : ∀ {H'}, SameX [] H2 H' → SameB (some [p4, p5]) H2 H' := fun S => sbTwo S b4 b5 (by simp) (by simp)
  refine ⟨[p4, p5], load_part (c := p.cells) c42 (by simp [Pas.cells]) rfl rfl ⟨by simp [RdOk, ptrBlk], offI (ldI (v := vint s.days) c5 rfl rfl ⟨by simp [RdOk, ptrBlk], load_part (c := s.cells) c5 (by simp [SkyR.cells]) rfl rfl ⟨by simp [RdOk, ptrBlk], ?_⟩⟩)⟩⟩
  rw [ha]
  refine good100 hJ ha8 hfd fun H3 v o S3 O ho => ⟨sb S3, ?_⟩
  refine good49 hJ (ownX_sli O) (by rw [stayH_len]; omega) fun H4 S4 => ⟨sb (S3.trans S4), ext0 (ext1 (eqlI (eqlI (retL_same (nu2 (by simp [unk]) (by simp [unk])) (hK H4 ((T2.trans S3).trans S4))))))⟩
end
theorem ckd_stay {p : Pas} {s : SkyR} {n : Int} {a fr dy : Nat} (f : pasOk p) (g : skyOk s) (hn : 0 ≤ n ∧ n ≤ 40) (ha : s.days = (a : Int)) : ckdE p (stayH a fr dy n) s = 0 := by
  unfold ckdE fst2 pasE skyE
  rw [if_pos f, if_pos g, if_neg (by decide)]
  unfold hunE
  have h1 : cntE ((stayH a fr dy n).length : Nat) s.days s.days = 0 := by
    rw [stayH_len]
    unfold cntE
    rw [if_neg (by omega), if_neg (by omega)]
  have hq : ∀ k ∈ stayH a fr dy n, 0 ≤ k ∧ k ≤ 40 := stayH_ok hn
  rw [if_neg (by rw [h1]; decide), if_pos hq]
theorem feed_stay {p : Pas} {s : SkyR} {n : Int} {a fr dy : Nat} (f : pasOk p) (g : skyOk s) (hn : 0 ≤ n ∧ n ≤ 40) (ha : s.days = (a : Int)) : decide (feedN p (stayH a fr dy n) s = 1) = stayB p s n fr dy := by
  have h0 := ckd_stay (p := p) (fr := fr) (dy := dy) f g hn ha
  have e : stayB p s n (fr : Nat) (dy : Nat) = fedB p (stayH a fr dy n) s := by
    unfold stayB
    rw [ha]
    rfl
  rw [e]
  unfold feedN
  rw [if_neg (by omega)]
  cases fedB p (stayH a fr dy n) s with
  | true => rfl
  | false =>
    rw [if_neg (by decide)]
    split <;> rfl
def better (a b : Std) : Prop := b.1 ≤ a.1 ∧ a.2 ≤ b.2
structure MoreG (q p : Pas) : Prop where
  grass : p.grass ≤ q.grass
  bears : q.bears = p.bears
  dry : q.dry = p.dry
  wet : q.wet = p.wet
  stubble : q.stubble = p.stubble
  sleep : q.sleep = p.sleep
theorem MoreG.refl {p : Pas} : MoreG p p := ⟨Int.le_refl _, rfl, rfl, rfl, rfl, rfl⟩
theorem stdR_sleep {p : Pas} {heads : List Int} {w : List UInt8} (f : pasOk p) : ∀ k, (stdR p heads w k).2 ≤ p.sleep
  | 0 => by
    show (0 : Int) ≤ p.sleep
    exact f.2.2.2.2.2.1
  | k + 1 => by
    have ih := stdR_sleep (heads := heads) (w := w) f k
    have := f.2.2.2.2.2.1
    show (dayR p (stdR p heads w k) (heads.getD k 0) (wetB (w.getD k 0))).2 ≤ p.sleep
    unfold dayR
    split
    · exact Int.le_refl _
    · split
      · dsimp only; omega
      · dsimp only; omega
theorem dayR_better {q p : Pas} (G : MoreG q p) (fp : pasOk p) {a b : Std} {m n : Int} {w : Bool} (h : better a b) (o : StdOk p b) (hs : a.2 ≤ p.sleep) (hm : 0 ≤ m) (hmn : m ≤ n) : better (dayR q a m w) (dayR p b n w) := by
  obtain ⟨h1, h2⟩ := h
  obtain ⟨g1, g2, g3, g4, g5, g6⟩ := G
  obtain ⟨f1, f2, f3, f4, f5, f6⟩ := fp
  have hl : leftR b n ≤ leftR a m := by unfold leftR; omega
  have hb := leftR_bd o (by omega : 0 ≤ n)
  have ho := o.g
  have hsh : shortR q a m = true → shortR p b n = true := by
    unfold shortR
    rw [Bool.and_eq_true, Bool.and_eq_true, decide_eq_true_eq, decide_eq_true_eq, decide_eq_true_eq, decide_eq_true_eq]
    rintro ⟨x, y⟩
    exact ⟨by omega, by omega⟩
  have hg : 0 ≤ (if w = true then p.wet else p.dry) := by split <;> omega
  have hgq : (if w = true then q.wet else q.dry) = (if w = true then p.wet else p.dry) := by rw [g4, g3]
  unfold better dayR
  rw [hgq, g2]
  generalize (if w = true then p.wet else p.dry) = gr at *
  by_cases s1 : shortR q a m = true
  · rw [if_pos s1, if_pos (hsh s1)]
    dsimp only
    omega
  · rw [if_neg s1]
    by_cases s2 : shortR p b n = true
    · rw [if_pos s2]
      split
      · dsimp only; exact ⟨hl, by omega⟩
      · dsimp only
        exact ⟨by omega, hs⟩
    · rw [if_neg s2]
      by_cases ha : a.2 > 0
      · rw [if_pos ha, if_pos (by omega)]
        exact ⟨hl, by dsimp only; omega⟩
      · rw [if_neg ha]
        split
        · exact ⟨by dsimp only; omega, by dsimp only; omega⟩
        · exact ⟨by dsimp only; omega, h2⟩
theorem stdR_better {q p : Pas} (G : MoreG q p) (fp : pasOk p) (fq : pasOk q) {hs' hs : List Int} {w : List UInt8} (hh : headsOk hs) (h : ∀ i, 0 ≤ hs'.getD i 0 ∧ hs'.getD i 0 ≤ hs.getD i 0) : ∀ k, better (stdR q hs' w k) (stdR p hs w k)
  | 0 => ⟨G.grass, Int.le_refl _⟩
  | k + 1 => dayR_better G fp (stdR_better G fp fq hh h k) (stdR_ok fp hh k) (by rw [← G.sleep]; exact stdR_sleep fq k) (h k).1 (h k).2
theorem hung_less {q p : Pas} (G : MoreG q p) (fp : pasOk p) (fq : pasOk q) {hs' hs : List Int} {w : List UInt8} (hh : headsOk hs) (h : ∀ i, 0 ≤ hs'.getD i 0 ∧ hs'.getD i 0 ≤ hs.getD i 0) (k : Nat) (hx : hungAt q hs' w k = true) : hungAt p hs w k = true := by
  have b := (stdR_better G fp fq (w := w) hh h k).1
  have := (h k).2
  unfold hungAt hungR at *
  rw [decide_eq_true_eq] at *
  omega
theorem starv_less {q p : Pas} (G : MoreG q p) (fp : pasOk p) (fq : pasOk q) {hs' hs : List Int} {w : List UInt8} (hh : headsOk hs) (h : ∀ i, 0 ≤ hs'.getD i 0 ∧ hs'.getD i 0 ≤ hs.getD i 0) (hx : starvR p hs w < 0) : starvR q hs' w < 0 := by
  by_cases e : starvR q hs' w < 0
  · exact e
  · unfold starvR at *
    obtain ⟨h1, h2, _⟩ := fstH_iff (show 0 ≤ fstH (hungAt q hs' w) w.length by omega)
    have := fstH_pos (hung_less G fp fq hh h _ h2) h1
    omega
theorem fed_less {q p : Pas} (G : MoreG q p) (fp : pasOk p) (fq : pasOk q) {hs' hs : List Int} {s : SkyR} (hh : headsOk hs) (h : ∀ i, 0 ≤ hs'.getD i 0 ∧ hs'.getD i 0 ≤ hs.getD i 0) (hx : fedB p hs s = true) : fedB q hs' s = true := by
  unfold fedB at *
  rw [List.all_eq_true] at *
  intro w hw
  have := hx w hw
  rw [decide_eq_true_eq] at *
  exact starv_less G fp fq hh h this
theorem stayH_le {a f d d' : Nat} {n n' : Int} (hn : 0 ≤ n') (hnn : n' ≤ n) (hd : d' ≤ d) (i : Nat) : 0 ≤ (stayH a f d' n').getD i 0 ∧ (stayH a f d' n').getD i 0 ≤ (stayH a f d n).getD i 0 := by
  by_cases hi : i < a
  · rw [stayH_getD hi, stayH_getD hi]
    split
    · split
      · omega
      · omega
    · split
      · omega
      · omega
  · rw [List.getD_eq_getElem?_getD, List.getD_eq_getElem?_getD, List.getElem?_eq_none (by rw [stayH_len]; omega), List.getElem?_eq_none (by rw [stayH_len]; omega)]
    exact ⟨Int.le_refl _, Int.le_refl _⟩
theorem stay_less {q p : Pas} (G : MoreG q p) (fp : pasOk p) (fq : pasOk q) {s : SkyR} {n n' : Int} {fr dy dy' : Int} (h0 : 0 ≤ n') (hnn : n' ≤ n) (hn : n ≤ 40) (hd : dy' ≤ dy) (hx : stayB p s n fr dy = true) : stayB q s n' fr dy' = true :=
  fed_less G fp fq (stayH_ok ⟨by omega, hn⟩) (fun i => stayH_le h0 hnn (by omega) i) hx
theorem stay_zero {p : Pas} (fp : pasOk p) {s : SkyR} {fr dy : Int} : stayB p s 0 fr dy = true := by
  unfold stayB fedB
  rw [List.all_eq_true]
  intro w _
  rw [decide_eq_true_eq]
  unfold starvR
  rw [fstH_none fun i _ => ?_]
  · decide
  · have z : (stayH s.days.toNat fr.toNat dy.toNat 0).getD i 0 = 0 := by
      by_cases hi : i < s.days.toNat
      · rw [stayH_getD hi]
        split <;> rfl
      · rw [List.getD_eq_getElem?_getD, List.getElem?_eq_none (by rw [stayH_len]; omega)]
        rfl
    have o := (stdR_ok (rain := w) fp (stayH_ok (a := s.days.toNat) (f := fr.toNat) (d := dy.toNat) (n := 0) (by decide)) i).g
    unfold hungAt hungR
    rw [z]
    exact decide_eq_false (by omega)
theorem topH_mono {q q' : Int → Bool} : ∀ {N : Nat}, (∀ k : Nat, k ≤ N → q k = true → q' k = true) → topH q N ≤ topH q' N
  | 0, _ => Int.le_refl _
  | N + 1, h => by
    have b : ∀ {q : Int → Bool} {N : Nat}, topH q N ≤ N := by
      intro q N
      induction N with
      | zero => exact Int.le_refl _
      | succ N ih => unfold topH; split <;> omega
    unfold topH
    split
    · rename_i x
      rw [if_pos (h _ (Nat.le_refl _) x)]
      exact Int.le_refl _
    · split
      · have := b (q := q) (N := N)
        omega
      · exact topH_mono fun k hk => h k (by omega)
def flipB (b : UInt8) : UInt8 := if b = 119 then 100 else 119
theorem flipB_ne (b : UInt8) : b ≠ flipB b := by
  unfold flipB
  split
  · rename_i h
    rw [h]
    decide
  · assumption
theorem flipB_ok (b : UInt8) : flipB b = 100 ∨ flipB b = 119 := by
  unfold flipB
  split
  · exact .inl rfl
  · exact .inr rfl
def tailB (w : List UInt8) : List UInt8 := w.tail ++ [flipB (w.tail.getLast?.getD 0)]
theorem strsB_mem : ∀ {n : Nat} {u : List UInt8}, u.length = n → (∀ c ∈ u, c = 100 ∨ c = 119) → u ∈ strsB n
  | 0, u, h, _ => by
    rw [List.length_eq_zero_iff] at h
    subst h
    exact List.mem_singleton.2 rfl
  | n + 1, [], h, _ => by simp at h
  | n + 1, c :: u, h, hc => by
    have := strsB_mem (n := n) (u := u) (by simpa using h) fun d hd => hc d (List.mem_cons_of_mem _ hd)
    unfold strsB
    rw [List.mem_append]
    rcases hc c (List.mem_cons_self ..) with rfl | rfl
    · exact .inl (List.mem_map.2 ⟨u, this, rfl⟩)
    · exact .inr (List.mem_map.2 ⟨u, this, rfl⟩)
theorem rainsB_mem {s : SkyR} {w : List UInt8} : w ∈ rainsB s ↔ w.length = s.days.toNat ∧ (∀ c ∈ w, c = 100 ∨ c = 119) ∧ fallX s (0, 0) w = true := by
  rw [rainsB_strs, List.mem_filter]
  constructor
  · rintro ⟨h1, h2⟩
    obtain ⟨h3, h4⟩ := strsB_len w h1
    exact ⟨h3, h4, h2⟩
  · rintro ⟨h1, h2, h3⟩
    exact ⟨strsB_mem h1 h2, h3⟩
theorem fallX_under {s : SkyR} : ∀ {u : List UInt8} {x x' : Spl}, (∀ c ∈ u, c = 100 ∨ c = 119) → (x'.1 = 0 ∨ (x'.1 = x.1 ∧ x'.2 ≤ x.2)) → 0 ≤ x.2 → fallX s x u = true → fallX s x' u = true
  | [], _, _, _, _, _, _ => rfl
  | c :: u, x, x', hc, hx, h0, h => by
    have h : (nextOk s x c && fallX s (nextX x c) u) = true := h
    show (nextOk s x' c && fallX s (nextX x' c) u) = true
    rw [Bool.and_eq_true] at *
    have c0 : c ≠ 0 := by rcases hc c (List.mem_cons_self ..) with h | h <;> rw [h] <;> decide
    refine ⟨?_, fallX_under (x := nextX x c) (fun d hd => hc d (List.mem_cons_of_mem _ hd)) ?_ ?_ h.2⟩
    · have h1 := h.1
      unfold nextOk at *
      by_cases e : x'.1 ≠ c
      · rw [if_pos e]
      · have e := Classical.not_not.1 e
        rw [if_neg (not_not_intro e)]
        rcases hx with hx | ⟨hx, hle⟩
        · exact absurd (e.symm.trans hx) c0
        · rw [if_neg (not_not_intro (hx.symm.trans e)), decide_eq_true_iff] at h1
          rw [decide_eq_true_iff]
          omega
    · right
      unfold nextX
      by_cases e : x'.1 ≠ c
      · rw [if_pos e]
        split
        · exact ⟨rfl, Int.le_refl _⟩
        · exact ⟨rfl, by dsimp only; omega⟩
      · have e := Classical.not_not.1 e
        rcases hx with hx | ⟨hx, hle⟩
        · exact absurd (e.symm.trans hx) c0
        · rw [if_neg (not_not_intro e), if_neg (not_not_intro (hx.symm.trans e))]
          exact ⟨rfl, by dsimp only; omega⟩
    · unfold nextX
      split <;> dsimp only <;> omega
theorem fallX_snoc {s : SkyR} : ∀ {u : List UInt8} {x : Spl} {c : UInt8}, u.getLast?.getD x.1 ≠ c → fallX s x u = true → fallX s x (u ++ [c]) = true
  | [], x, c, hc, _ => by
    show (nextOk s x c && fallX s (nextX x c) []) = true
    unfold nextOk
    rw [if_pos (show x.1 ≠ c from hc)]
    rfl
  | d :: u, x, c, hc, h => by
    have h : (nextOk s x d && fallX s (nextX x d) u) = true := h
    show (nextOk s x d && fallX s (nextX x d) (u ++ [c])) = true
    rw [Bool.and_eq_true] at *
    refine ⟨h.1, fallX_snoc ?_ h.2⟩
    have e : (nextX x d).1 = d := by unfold nextX; split <;> rfl
    rw [e]
    rw [List.getLast?_cons] at hc
    exact hc
theorem tail_rain {s : SkyR} {w : List UInt8} (g : skyOk s) (h : w ∈ rainsB s) : tailB w ∈ rainsB s := by
  obtain ⟨h1, h2, h3⟩ := rainsB_mem.1 h
  obtain ⟨g1, _, _⟩ := g
  cases w with
  | nil => simp at h1; omega
  | cons c u =>
    refine rainsB_mem.2 ⟨?_, ?_, ?_⟩
    · rw [← h1]
      simp [tailB]
    · intro d hd
      unfold tailB at hd
      rw [List.mem_append] at hd
      rcases hd with hd | hd
      · exact h2 d (List.mem_cons_of_mem _ hd)
      · rw [List.mem_singleton.1 hd]
        exact flipB_ok _
    · refine fallX_snoc (flipB_ne _) ?_
      have h3 : (nextOk s (0, 0) c && fallX s (nextX (0, 0) c) u) = true := h3
      rw [Bool.and_eq_true] at h3
      refine fallX_under (x := nextX (0, 0) c) (fun d hd => h2 d (List.mem_cons_of_mem _ hd)) (.inl rfl) ?_ h3.2
      unfold nextX
      split <;> dsimp only <;> omega
theorem tailB_get {w : List UInt8} {i : Nat} (h : i + 1 < w.length) : (tailB w).getD i 0 = w.getD (i + 1) 0 := by
  cases w with
  | nil => simp at h
  | cons c u =>
    have hi : i < u.length := by simpa using h
    unfold tailB
    rw [List.getD_eq_getElem?_getD, List.getD_eq_getElem?_getD, List.getElem?_append_left (by simpa using hi)]
    rfl
theorem tailB_len {w : List UInt8} (h : 0 < w.length) : (tailB w).length = w.length := by
  cases w with
  | nil => simp at h
  | cons c u => simp [tailB]
theorem std_later {p : Pas} {hs hs' : List Int} {w : List UInt8} (fp : pasOk p) (hh : headsOk hs') (h0 : hs.getD 0 0 = 0) (h : ∀ i, 0 ≤ hs.getD (i + 1) 0 ∧ hs.getD (i + 1) 0 ≤ hs'.getD i 0) (hq : ∀ i, 0 ≤ hs.getD i 0 ∧ hs.getD i 0 ≤ 40) :
    ∀ k, k + 1 ≤ w.length → better (stdR p hs w (k + 1)) (stdR p hs' (tailB w) k)
  | 0, _ => by
    show better (dayR p (p.grass, 0) (hs.getD 0 0) (wetB (w.getD 0 0))) (p.grass, 0)
    obtain ⟨f1, f2, f3, f4, f5, f6⟩ := fp
    rw [h0]
    have e : leftR (p.grass, 0) 0 = p.grass := by unfold leftR; dsimp only; omega
    unfold better dayR shortR
    rw [e]
    rw [if_neg (by simp), if_neg (by dsimp only; omega)]
    dsimp only
    split <;> exact ⟨by omega, Int.le_refl _⟩
  | k + 1, hk => by
    have ih := std_later (w := w) fp hh h0 h hq k (by omega)
    show better (dayR p (stdR p hs w (k + 1)) (hs.getD (k + 1) 0) (wetB (w.getD (k + 1) 0))) (dayR p (stdR p hs' (tailB w) k) (hs'.getD k 0) (wetB ((tailB w).getD k 0)))
    rw [tailB_get (w := w) (i := k) (by omega)]
    exact dayR_better MoreG.refl fp ih (stdR_ok fp hh k) (stdR_sleep fp (k + 1)) (h k).1 (h k).2
theorem starv_later {p : Pas} {hs hs' : List Int} {w : List UInt8} (fp : pasOk p) (hw : 0 < w.length) (hh : headsOk hs') (h0 : hs.getD 0 0 = 0) (h : ∀ i, 0 ≤ hs.getD (i + 1) 0 ∧ hs.getD (i + 1) 0 ≤ hs'.getD i 0) (hq : ∀ i, 0 ≤ hs.getD i 0 ∧ hs.getD i 0 ≤ 40)
    (hx : starvR p hs' (tailB w) < 0) : starvR p hs w < 0 := by
  by_cases e : starvR p hs w < 0
  · exact e
  · unfold starvR at *
    obtain ⟨h1, h2, _⟩ := fstH_iff (show 0 ≤ fstH (hungAt p hs w) w.length by omega)
    generalize (fstH (hungAt p hs w) w.length).toNat = i at h1 h2
    cases i with
    | zero =>
      unfold hungAt hungR at h2
      rw [h0, decide_eq_true_iff] at h2
      have : (stdR p hs w 0).1 = p.grass := rfl
      have := fp.2.1
      omega
    | succ i =>
      have b := (std_later (w := w) fp hh h0 h hq i (by omega)).1
      have := (h i).2
      have hx2 : hungAt p hs' (tailB w) i = true := by
        unfold hungAt hungR at *
        rw [decide_eq_true_iff] at *
        omega
      have := fstH_pos (q := hungAt p hs' (tailB w)) hx2 (n := (tailB w).length) (by rw [tailB_len hw]; omega)
      omega
theorem stay_later {p : Pas} {s : SkyR} {n : Int} {fr dy : Nat} (fp : pasOk p) (g : skyOk s) (hn : 0 ≤ n ∧ n ≤ 40) (hx : stayB p s n fr dy = true) : stayB p s n ((fr + 1 : Nat) : Int) dy = true := by
  unfold stayB fedB at *
  rw [List.all_eq_true] at *
  intro w hw
  have hl := rainsB_len hw
  have gd := g.1
  have e1 : ((fr + 1 : Nat) : Int).toNat = fr + 1 := by omega
  have e2 : ((fr : Nat) : Int).toNat = fr := by omega
  have e3 : ((dy : Nat) : Int).toNat = dy := by omega
  have := hx (tailB w) (tail_rain g hw)
  rw [decide_eq_true_eq] at *
  rw [e2, e3] at this
  rw [e1, e3]
  generalize hA : s.days.toNat = a at *
  refine starv_later fp (by omega) (stayH_ok hn) ?_ (fun i => ?_) (fun i => headsOk_getD (stayH_ok hn) i) this
  · rw [stayH_getD (by omega), if_neg (by omega)]
  · by_cases hi : i + 1 < a
    · rw [stayH_getD hi, stayH_getD (by omega)]
      split
      · rw [if_pos (by omega)]
        omega
      · split <;> omega
    · have z : (stayH a (fr + 1) dy n).getD (i + 1) 0 = 0 := by
        rw [List.getD_eq_getElem?_getD, List.getElem?_eq_none (by rw [stayH_len]; omega)]
        rfl
      rw [z]
      exact ⟨Int.le_refl _, (headsOk_getD (stayH_ok hn) i).1⟩
theorem topH_bd {q : Int → Bool} : ∀ {N : Nat}, 0 ≤ topH q N ∧ topH q N ≤ N
  | 0 => ⟨Int.le_refl _, Int.le_refl _⟩
  | N + 1 => by
    have := topH_bd (q := q) (N := N)
    unfold topH
    split <;> omega
theorem topH_is {q : Int → Bool} (h0 : q 0 = true) : ∀ {N : Nat}, q (topH q N) = true
  | 0 => h0
  | N + 1 => by
    unfold topH
    split
    · assumption
    · exact topH_is h0
theorem topH_over {q : Int → Bool} : ∀ {N : Nat} {k : Int}, topH q N < k → k ≤ N → q k = false
  | 0, k, h1, h2 => by
    have : topH q 0 = 0 := rfl
    omega
  | N + 1, k, h1, h2 => by
    unfold topH at h1
    split at h1
    · omega
    · rename_i h
      by_cases e : k = ((N + 1 : Nat) : Int)
      · rw [e]
        simpa using h
      · exact topH_over h1 (by omega)
theorem head_ok {p : Pas} {s : SkyR} {fr dy : Int} (f : pasOk p) (g : skyOk s) (h1 : 0 ≤ fr ∧ fr ≤ s.days - 1) (h2 : 1 ≤ dy ∧ dy ≤ s.days - fr) : headE p s fr dy = 0 := by
  have z : fst2 (pasE p) (skyE s) = 0 := by
    unfold pasE skyE
    rw [if_pos f, if_pos g]
    rfl
  unfold headE
  rw [if_neg (not_not_intro z), if_neg (not_not_intro h1), if_neg (not_not_intro h2)]
theorem head_is {p : Pas} {s : SkyR} {fr dy : Int} (f : pasOk p) (g : skyOk s) (h1 : 0 ≤ fr ∧ fr ≤ s.days - 1) (h2 : 1 ≤ dy ∧ dy ≤ s.days - fr) : headN p s fr dy = topH (fun n => stayB p s n fr dy) 40 := by
  unfold headN
  rw [if_pos (head_ok f g h1 h2)]
section
variable {W0 : World} {Post : Value → World → Prop} {h : List AObj} {K : Value → List AObj → Prop}
set_option maxHeartbeats 1000000 in
theorem walk12 {nv : Value} {ns : List Int} (sn : Sli h nv 1 ns.length (ns.map vint)) (hln : ns.length < 4611686018427387904) (hK : ∀ H', K (.bool true) H') :
    W prog (J2 prog W0 Post) 126 h.length 12 (codeOf f12) (RG.mk (regs [nv]) []) h (RetQ prog [.tmp 2] h.length K) := by
  have hJ := J2.closed prog W0 Post
  rw [e12]
  refine newX hJ sn hln fun H1 a1 => good24 hJ a1 (by omega) fun p H2 fp _ S2 a2 => good25 hJ a2 (by omega) (by decide) fun s H3 gs hs7 S3 a3 => ?_
  obtain ⟨g1, g2, g3⟩ := id gs
  refine qAl fun H4 p4 e4 S4 c4 l4 => qAl fun H5 p5 e5 S5 c5 l5 => ?_
  have l3 := hxLt a3
  refine qStA (c := p.cells) (S5.get c4 (by simp)) rfl rfl rfl fun H6 S6 c6 l6 => qStA (c := s.cells) (S6.get c5 (by simp; omega)) rfl rfl rfl fun H7 S7 c7 l7 => ?_
  have c67 := S7.get c6 (by simp; omega)
  have T37 : SameX [] H3 H7 := ((S4.trans S5).thru S6 (by simp; omega)).thru S7 (by simp; omega)
  have a7 := HX.same a3 T37 (by simp)
  refine offI (ldI (v := vint s.days) c7 rfl rfl (subI (by omega) ?_))
  refine upX hJ a7 (by omega) (by omega) fun fr H8 f0 f1 S8 l8 a8 => ?_
  have c68 := S8.get c67 (by simp; omega)
  have c78 := S8.get c7 (by simp; omega)
  refine offI (ldI (v := vint s.days) c78 rfl rfl (subI (by omega) ?_))
  refine amX hJ a8 (by omega) (by omega) (by omega) fun dy H9 n0 n1 S9 l9 a9 => ?_
  have c69 := S9.get c68 (by simp; omega)
  have c79 := S9.get c78 (by simp; omega)
  obtain ⟨frn, rfl⟩ := Int.eq_ofNat_of_zero_le f0
  obtain ⟨dyn, rfl⟩ := Int.eq_ofNat_of_zero_le (by omega : 0 ≤ dy)
  obtain ⟨a, ha⟩ := Int.eq_ofNat_of_zero_le (by omega : (0 : Int) ≤ s.days)
  have hfd : frn + dyn ≤ a := by omega
  refine load_part (c := p.cells) c69 (by simp [Pas.cells]) rfl rfl (load_part (c := s.cells) c79 (by simp [SkyR.cells]) rfl rfl ?_)
  refine good33 hJ fun H10 S10 => ?_
  rw [head_ok fp gs (by omega) (by omega), head_is fp gs (by omega) (by omega)]
  have hb := topH_bd (q := fun n => stayB p s n frn dyn) (N := 40)
  have hyes := topH_is (q := fun n => stayB p s n frn dyn) (stay_zero fp) (N := 40)
  have hno := fun k => topH_over (q := fun n => stayB p s n frn dyn) (N := 40) (k := k)
  have hless : 1 < dyn → topH (fun n => stayB p s n frn dyn) 40 ≤ topH (fun n => stayB p s n frn ((dyn : Int) - 1)) 40 := fun h1 => topH_mono fun k hk hq => stay_less MoreG.refl fp fp (by omega) (Int.le_refl _) (by omega) (by omega) hq
  have hlate : topH (fun n => stayB p s n frn dyn) 40 ≤ topH (fun n => stayB p s n ((frn : Int) + 1) dyn) 40 := topH_mono fun k hk hq => by
    have := stay_later fp gs (by omega) hq
    simpa using this
  generalize topH (fun n => stayB p s n frn dyn) 40 = n at hb hyes hno hless hlate
  have tail5 : ∀ {F : RG} {H' : List AObj}, F.ds = [] → F.r 124 = .bool false → W prog (J2 prog W0 Post) 126 h.length 12 (subC [1, 1, 1, 1, 1, 1, 1, 1, 1, 1, 1, 0, 1, 0, 1, 1] (codeOf f12)) F H' (contX pl12 prog (J2 prog W0 Post) 126 h.length 12 ct12 [1, 1, 1, 1, 1, 1, 1, 1, 1, 1, 1, 0, 1, 0, 1, 1] (codeOf f12) [] (RetQ prog [.tmp 2] h.length K)) := by
    intro F H' ds rr
    rw [s12_5, rr, ds]
    exact cnd_false.2 (good21 fun H13 _ => retL_same (by simp [unk]) (hK H13))
  have tail4 : ∀ {F : RG} {H' : List AObj}, SameX [] H9 H' → F.ds = [] → F.r 4 = ptr p4 0 → F.r 5 = ptr p5 0 → F.r 6 = vint (frn : Nat) → F.r 7 = vint (dyn : Nat) → F.r 8 = vint n → F.r 102 = .bool false → W prog (J2 prog W0 Post) 126 h.length 12 (subC [1, 1, 1, 1, 1, 1, 1, 1, 1, 1, 0, 1, 0, 1, 1] (codeOf f12)) F H' (contX pl12 prog (J2 prog W0 Post) 126 h.length 12 ct12 [1, 1, 1, 1, 1, 1, 1, 1, 1, 1, 0, 1, 0, 1, 1] (codeOf f12) [] (RetQ prog [.tmp 2] h.length K)) := by
    intro F H' S ds r4 r5 r6 r7 r8 rr
    rw [s12_4, r4, r5, r6, r7, r8, rr, ds]
    refine cnd_false.2 ?_
    refine addI (by omega) (offI (ldI (v := vint s.days) (S.get c79 (by simp)) rfl rfl (lssI (cndI (fun hlt => ?_) fun hge => ?_))))
    · refine load_part (c := p.cells) (S.get c69 (by simp)) (by simp [Pas.cells]) rfl rfl (load_part (c := s.cells) (S.get c79 (by simp)) (by simp [SkyR.cells]) rfl rfl (addI (by omega) ?_))
      refine good33 hJ fun H12 S12 => ?_
      rw [head_ok fp gs (by omega) (by omega), head_is fp gs (by omega) (by omega)]
      exact ext0 (ext1 (neqI (cndI (fun h => absurd rfl h) fun _ => lssI (hold.2 (tail5 ds (congrArg Value.bool (decide_eq_false (by omega))))))))
    · exact good21 fun H13 _ => retL_same (by simp [unk]) (hK H13)
  have tail3 : ∀ {F : RG} {H' : List AObj}, SameX [] H9 H' → F.ds = [] → F.r 4 = ptr p4 0 → F.r 5 = ptr p5 0 → F.r 6 = vint (frn : Nat) → F.r 7 = vint (dyn : Nat) → F.r 8 = vint n → F.r 84 = .bool false → W prog (J2 prog W0 Post) 126 h.length 12 (subC [1, 1, 1, 1, 1, 1, 1, 1, 1, 0, 1, 0, 1, 1] (codeOf f12)) F H' (contX pl12 prog (J2 prog W0 Post) 126 h.length 12 ct12 [1, 1, 1, 1, 1, 1, 1, 1, 1, 0, 1, 0, 1, 1] (codeOf f12) [] (RetQ prog [.tmp 2] h.length K)) := by
    intro F H' S ds r4 r5 r6 r7 r8 rr
    rw [s12_3, r4, r5, r6, r7, r8, rr, ds]
    refine cnd_false.2 ?_
    refine gtrI (cndI (fun hlt => ?_) fun hge => ?_)
    · refine load_part (c := p.cells) (S.get c69 (by simp)) (by simp [Pas.cells]) rfl rfl (load_part (c := s.cells) (S.get c79 (by simp)) (by simp [SkyR.cells]) rfl rfl (subI (by omega) ?_))
      refine good33 hJ fun H12 S12 => ?_
      rw [head_ok fp gs (by omega) (by omega), head_is fp gs (by omega) (by omega)]
      have := hless (by omega)
      exact ext0 (ext1 (neqI (cndI (fun h => absurd rfl h) fun _ => lssI (hold.2 (tail4 (S.trans S12) ds r4 r5 r6 r7 r8 (congrArg Value.bool (decide_eq_false (by omega))))))))
    · refine addI (by omega) (offI (ldI (v := vint s.days) (S.get c79 (by simp)) rfl rfl (lssI (cndI (fun hlt => ?_) fun hge => ?_))))
      · refine load_part (c := p.cells) (S.get c69 (by simp)) (by simp [Pas.cells]) rfl rfl (load_part (c := s.cells) (S.get c79 (by simp)) (by simp [SkyR.cells]) rfl rfl (addI (by omega) ?_))
        refine good33 hJ fun H12 S12 => ?_
        rw [head_ok fp gs (by omega) (by omega), head_is fp gs (by omega) (by omega)]
        exact ext0 (ext1 (neqI (cndI (fun h => absurd rfl h) fun _ => lssI (hold.2 (tail5 ds (congrArg Value.bool (decide_eq_false (by omega))))))))
      · exact good21 fun H13 _ => retL_same (by simp [unk]) (hK H13)
  have tail2 : ∀ {F : RG} {H' : List AObj}, SameX [] H9 H' → F.ds = [] → F.r 4 = ptr p4 0 → F.r 5 = ptr p5 0 → F.r 6 = vint (frn : Nat) → F.r 7 = vint (dyn : Nat) → F.r 8 = vint n → F.r 67 = .bool false → W prog (J2 prog W0 Post) 126 h.length 12 (subC [1, 1, 1, 1, 1, 1, 1, 1, 0, 1] (codeOf f12)) F H' (contX pl12 prog (J2 prog W0 Post) 126 h.length 12 ct12 [1, 1, 1, 1, 1, 1, 1, 1, 0, 1] (codeOf f12) [] (RetQ prog [.tmp 2] h.length K)) := by
    intro F H' S ds r4 r5 r6 r7 r8 rr
    rw [s12_2, r4, r5, r6, r7, r8, rr, ds]
    refine cnd_false.2 (lssI (cndI (fun hn40 => ?_) fun hn40 => ?_))
    · refine load_part (c := p.cells) (S.get c69 (by simp)) (by simp [Pas.cells]) rfl rfl (load_part (c := s.cells) (S.get c79 (by simp)) (by simp [SkyR.cells]) rfl rfl (addI (by omega) ?_))
      refine good54 hJ ha (by omega) (fr := frn) (dy := dyn) hfd fun H12 S12 => ?_
      rw [feed_stay fp gs (by omega) ha, hno (n + 1) (by omega) (by omega), ckd_stay fp gs (by omega) ha]
      exact ext0 (ext1 (cnd_false.2 (notI (hold.2 (tail3 (S.trans S12) ds r4 r5 r6 r7 r8 rfl)))))
    · refine gtrI (cndI (fun hlt => ?_) fun hge => ?_)
      · refine load_part (c := p.cells) (S.get c69 (by simp)) (by simp [Pas.cells]) rfl rfl (load_part (c := s.cells) (S.get c79 (by simp)) (by simp [SkyR.cells]) rfl rfl (subI (by omega) ?_))
        refine good33 hJ fun H12 S12 => ?_
        rw [head_ok fp gs (by omega) (by omega), head_is fp gs (by omega) (by omega)]
        have := hless (by omega)
        exact ext0 (ext1 (neqI (cndI (fun h => absurd rfl h) fun _ => lssI (hold.2 (tail4 (S.trans S12) ds r4 r5 r6 r7 r8 (congrArg Value.bool (decide_eq_false (by omega))))))))
      · refine addI (by omega) (offI (ldI (v := vint s.days) (S.get c79 (by simp)) rfl rfl (lssI (cndI (fun hlt => ?_) fun hge => ?_))))
        · refine load_part (c := p.cells) (S.get c69 (by simp)) (by simp [Pas.cells]) rfl rfl (load_part (c := s.cells) (S.get c79 (by simp)) (by simp [SkyR.cells]) rfl rfl (addI (by omega) ?_))
          refine good33 hJ fun H12 S12 => ?_
          rw [head_ok fp gs (by omega) (by omega), head_is fp gs (by omega) (by omega)]
          exact ext0 (ext1 (neqI (cndI (fun h => absurd rfl h) fun _ => lssI (hold.2 (tail5 ds (congrArg Value.bool (decide_eq_false (by omega))))))))
        · exact good21 fun H13 _ => retL_same (by simp [unk]) (hK H13)
  have tail1 : ∀ {F : RG} {H' : List AObj}, SameX [] H9 H' → F.ds = [] → F.r 4 = ptr p4 0 → F.r 5 = ptr p5 0 → F.r 6 = vint (frn : Nat) → F.r 7 = vint (dyn : Nat) → F.r 8 = vint n → F.r 52 = .bool false → W prog (J2 prog W0 Post) 126 h.length 12 (subC [1, 1, 1, 1, 1, 1, 0, 1] (codeOf f12)) F H' (contX pl12 prog (J2 prog W0 Post) 126 h.length 12 ct12 [1, 1, 1, 1, 1, 1, 0, 1] (codeOf f12) [] (RetQ prog [.tmp 2] h.length K)) := by
    intro F H' S ds r4 r5 r6 r7 r8 rr
    rw [s12_1, r4, r5, r6, r7, r8, rr, ds]
    refine cnd_false.2 (load_part (c := p.cells) (S.get c69 (by simp)) (by simp [Pas.cells]) rfl rfl (load_part (c := s.cells) (S.get c79 (by simp)) (by simp [SkyR.cells]) rfl rfl ?_))
    refine good54 hJ ha (by omega) (fr := frn) (dy := dyn) hfd fun H12 S12 => ?_
    rw [feed_stay fp gs (by omega) ha, hyes, ckd_stay fp gs (by omega) ha]
    exact ext0 (ext1 (notI (cnd_false.2 (notI (hold.2 (tail2 (S.trans S12) ds r4 r5 r6 r7 r8 rfl))))))
  refine ext0 (ext1 (neqI (cndI (fun h => absurd rfl h) fun _ => lssI (cndI (fun h => absurd h (by omega)) fun _ => gtrI (hold.2 ?_)))))
  exact tail1 S10 rfl rfl rfl rfl rfl rfl (congrArg Value.bool (decide_eq_false (by omega)))
end
end Go.Proofs.Ythnccaajpdnndaa
namespace Go.Proofs.Ythnccaajpdnndaa
open Go.Conc Go.RowKit
def idEnv : Env := ⟨fun b => b, fun _ => 0⟩
def startFt (w : World) : Foot := ⟨fun b => b < w.heap.size, fun _ => False, 0⟩
def startFC (w : World) : Frm := ⟨fun b => w.heap[b]?, fun _ => False⟩
def Fine (n : Nat) (v : Value) : Prop := VOk n v ∧ one v = true ∧ ren idEnv v = v
open Classical in
noncomputable def clean (n : Nat) (v : Value) : Value := if Fine n v then v else unk
noncomputable def absO (n : Nat) : Obj → AObj
  | .cells c _ _ => .cells (c.toList.map (clean n)) false 0
  | _ => .dead
noncomputable def absH (w : World) : List AObj := w.heap.toList.map (absO w.heap.size)
section
variable {w w' : World} {n : Nat}
theorem clean_fine {v : Value} (h : Fine n v) : clean n v = v := by simp [clean, h]
theorem absH_len : (absH w).length = w.heap.size := by simp [absH]
theorem absH_get {b : Nat} : (absH w)[b]? = (w.heap[b]?).map (absO w.heap.size) := by simp [absH]
theorem absO_wrt (x : Obj) : (absO n x).wrt = false := by cases x <;> rfl
theorem start_rel (w : World) : HRel idEnv (absH w) (startFC w) w (startFt w) where
  obj := fun b o hb => by
    rw [absH_get] at hb
    obtain ⟨x, hx, rfl⟩ := Option.map_eq_some_iff.1 hb
    show ORel (absH w).length idEnv b (absO w.heap.size x) w.heap[b]?
    rw [absH_len, hx]
    cases x with
    | cells c ty fr =>
      refine ⟨fun i v hv => ?_, fun _ => by simp, fun hz => absurd rfl hz, fun e => by cases e⟩
      rw [List.getElem?_map] at hv
      obtain ⟨u, hu, rfl⟩ := Option.map_eq_some_iff.1 hv
      by_cases hf : Fine w.heap.size u
      · rw [clean_fine hf]
        exact .inr ⟨hf.1, hf.2.1, by rw [hf.2.2]; simpa using hu⟩
      · exact .inl ⟨by simp [clean, hf], rfl⟩
    | _ => trivial
  inj := fun b b' o o' _ _ _ _ e => e
  rd := fun b o hb _ => by
    have : b < (absH w).length := (List.getElem?_eq_some_iff.1 hb).1
    rw [absH_len] at this
    exact this
  wr := fun b o hb hw => by
    rw [absH_get] at hb
    obtain ⟨x, hx, rfl⟩ := Option.map_eq_some_iff.1 hb
    rw [absO_wrt] at hw
    cases hw
  lt := fun b hb => hb
  sub := fun b hb => hb.elim
  kept := fun b o hb => by
    refine ⟨hb, ?_, fun a oa ha hw => ?_⟩
    · exact (Array.getElem?_eq_some_iff.1 hb).1
    · rw [absH_get] at ha
      obtain ⟨x, hx, rfl⟩ := Option.map_eq_some_iff.1 ha
      rw [absO_wrt] at hw
      cases hw
  keptW := fun b hb => hb.elim
  tag := fun b x hb => by
    rw [absH_get] at hb
    obtain ⟨y, _, e⟩ := Option.map_eq_some_iff.1 hb
    cases y <;> cases e
theorem absH_cell {b o : Nat} {v : Value} (hc : w.cell? ⟨b, o, none⟩ = some v) (hf : Fine w.heap.size v) : ∃ c, (absH w)[b]? = some (.cells c false 0) ∧ c[o]? = some v := by
  unfold World.cell? at hc
  simp only at hc
  split at hc
  · rename_i c ty fr hx
    refine ⟨c.toList.map (clean w.heap.size), by rw [absH_get, hx]; rfl, ?_⟩
    have hc' : c[o]? = some v := by simpa using hc
    rw [List.getElem?_map, Array.getElem?_toList, hc']
    simp [clean_fine hf]
  · cases hc
theorem below_of {ρ' : Env} {h' : List AObj} {ft' : Foot} (H : HRel ρ' h' (startFC w) w' ft') (B : Base w w') : Below w.heap.size w w' :=
  ⟨B.os, B.tape, B.output, B.size, fun k hk => by
    have : (startFC w).ob k = some w.heap[k] := by simp [startFC, hk]
    rw [(H.kept k _ this).1, Array.getElem?_eq_getElem hk]⟩
end
end Go.Proofs.Ythnccaajpdnndaa
namespace Go.Proofs.Ythnccaajpdnndaa
open Go.Conc Go.ChangeShapes Go.WideShapes Go.ChangeAt Go.RowKit Go.Proofs.Try
set_option maxRecDepth 100000
theorem own : ownKnob prog.godebug = none := by kernel_rfl
theorem laidOut : laidOutB prog = true := by kernel_rfl
def ArgOk (W : World) (v : Value) : Prop := VOk W.heap.size v ∧ ren idEnv v = v
section
variable {H : Type} {enc : TypeId × Value → H}
theorem arg_ints {t e : TypeId} (ht : prog.underlying t = some (.slice e)) (he : prog.underlying e = some (.int .i64)) (hc : prog.cellsOf e = 1) {W : World} {base : Nat} {v : Value} {d : DataW H} {ps : List MemPlace}
    (hval : Value.okWide prog W .any base t v) (hd : DataW.Trod enc prog W 0 (fun _ => true) true t v d ps) :
    ∃ zs : List Int, Sli (absH W) v 1 zs.length (zs.map vint) ∧ ArgOk W v ∧ (zs = [] ∨ ∃ es sp, d = .slice es sp ∧ zs.length ≤ es.length + sp.length) := by
  obtain ⟨a0, len, cap, rfl⟩ := okWide_slice ht hval
  obtain ⟨fuel, hf⟩ := hd
  rcases open_ints ht he hc hf with ⟨hcs, hx⟩ | ⟨a, len', cap', zs, hcs, _, hl, hm, hz, hx, hcell, hwz⟩
  · simp [Value.cells] at hcs
    obtain ⟨rfl, rfl, rfl⟩ := hcs
    exact ⟨[], sli_nil, ⟨by simp [VOk], by simp [ren]⟩, .inl rfl⟩
  · simp [Value.cells] at hcs
    obtain ⟨rfl, rfl, rfl⟩ := hcs
    simp only [Prod.mk.injEq] at hx
    obtain ⟨rfl, rfl⟩ := hx
    simp only [if_true] at hz
    simp only [Value.okWide, ht, Cell.okWide, Cell.ok, World.has] at hval
    obtain ⟨_, _, _, hspot, row, cells, hshape, _⟩ := hval
    obtain ⟨b, o, spot⟩ := a
    simp only at hspot hshape
    subst hspot
    have hb : b < W.heap.size := by
      unfold World.shape? at hshape
      split at hshape
      · rename_i h
        exact (Array.getElem?_eq_some_iff.1 h).1
      · cases hshape
    have hlen : (zs.take len).length = len := by simp; omega
    have hcell' : ∀ i, i < zs.length → W.cell? ⟨b, o + i, none⟩ = some (vint (zs.getD i 0)) := by
      intro i hi
      have := hcell i hi
      unfold Addr.add at this
      by_cases h0 : i = 0
      · subst h0; simpa using this
      · simpa [h0] using this
    have hmax : cap < fz := by
      simp only [maxLen] at hm
      unfold fz
      omega
    refine ⟨zs.take len, ?_, ⟨by simp only [VOk, AddrOk]; exact ⟨hb, trivial⟩, ?_⟩, .inr ⟨_, _, rfl, ?_⟩⟩
    · refine ⟨some ⟨b, o, none⟩, cap, by rw [hlen], ⟨by simp, kn_ints _⟩, .inr ⟨b, o, rfl, ?_⟩⟩
      rw [hlen]
      by_cases h0 : len = 0
      · exact .inl h0
      · right
        have fine : ∀ n : Int, Fine W.heap.size (vint n) := fun n => ⟨by simp [VOk], rfl, by simp [ren]⟩
        obtain ⟨c, hc1, hc2⟩ := absH_cell (hcell' 0 (by omega)) (fine _)
        refine ⟨c, false, 0, hc1, ?_⟩
        apply List.ext_getElem?
        intro i
        rw [Nat.mul_one]
        by_cases hi : i < len
        · obtain ⟨c', hc1', hc2'⟩ := absH_cell (hcell' i (by omega)) (fine _)
          rw [hc1] at hc1'
          cases hc1'
          rw [List.getElem?_take, if_pos hi, List.getElem?_drop, hc2']
          have hzi : i < zs.length := by omega
          simp [hi, hzi]
        · rw [List.getElem?_take, if_neg hi, List.getElem?_eq_none (by simp; omega)]
    · have hnf : ¬ fz ≤ cap := by omega
      simp [ren, renAddr, renCap, idEnv, hnf]
    · simp only [lits, List.length_map, List.length_take, List.length_drop]
      omega
end
end Go.Proofs.Ythnccaajpdnndaa
namespace Go.Proofs.Ythnccaajpdnndaa
open Go.Conc
section
variable {P : Program} {W0 : World} {Post : Value → World → Prop} {ρ : Env} {h : List AObj} {FC : Frm} {w : World} {ft : Foot} {f : RG} {a : Act} {b : FB} {K : Value → List AObj → Prop} {n0 : Nat}
theorem leave_top2 {fn : Func} (hk : b.kind = .normal) (hf : P.funcs[b.fn]? = some fn) (hin : P.inits.idxOf? b.fn = none)
    (hc : ∀ v h' ρ' w' ft' cv, K v h' → HRel ρ' h' FC w' ft' → Env.upto n0 ρ ρ' → n0 ≤ h'.length → VRel h'.length ρ' v cv → Base W0 w' → Post cv w') :
    ∀ (ds : List Nat) (h : List AObj) (w : World) (ft : Foot) (a : Act) (fr : Frame), fr.fn = b.fn → fr.kind = .normal → fr.mode = .returning → fr.tmps = a.tmps → fr.defers = ds.map (fun d => { target := .collected (ρ.blk d), args := #[] }) → RegRel h.length ρ f.r a.tmps → HRel ρ h FC w ft → n0 ≤ h.length →
      takeW ds h (fun h => resW P fn.results.toList f.r h fun vs => K (pack vs) h ∨ ∃ σ h' v, GC n0 σ h h' ∧ pack vs = sub σ v ∧ VOk h'.length v ∧ K v h') → J2 P W0 Post (G fr []) w ft
  | [], h, w, ft, a, fr, e1, e2, e3, e4, e5, hr, H, hn, hq => by
    obtain ⟨fn', tmps, todo, defers, mode, kind, ro⟩ := fr
    simp only at e1 e2 e3 e4 e5
    subst e1 e2 e3 e4 e5
    refine J2.both rfl fun w₁ h₁ hbase => .inr ?_
    have H₁ := H.rely h₁
    have hrun : RunsTo P (EvOk ft) (results fn a.tmps) w₁ fun cv w' => w' = w₁ ∧ ∃ vs, cv = ren ρ (pack vs) ∧ (∀ v ∈ vs, VOk h.length v) ∧ (K (pack vs) h ∨ ∃ σ h' v, GC n0 σ h h' ∧ pack vs = sub σ v ∧ VOk h'.length v ∧ K v h') := by
      unfold results
      have : (fn.results.mapM (resF a.tmps)) = Functor.map List.toArray (fn.results.toList.mapM (resF a.tmps)) := by
        rw [Array.mapM_eq_mapM_toList]
      show RunsTo P (EvOk ft) (do
        let vs ← fn.results.mapM (resF a.tmps)
        pure (if h : vs.size = 1 then vs[0] else .tuple vs)) w₁ _
      rw [this]
      refine RunsTo.bind (RunsTo.map (res_run (n := 0) H₁ hr fn.results.toList hq fun vs hvs hok => RunsTo.pure ⟨rfl, vs, ?_, hok, hvs⟩))
      exact pack_ren vs
    obtain ⟨cv, w', es, hr', he, rfl, vs, rfl, hvok, hvs⟩ := hrun #[] (by simp)
    have hes : ∀ e ∈ seen P b.fn es, EvOk ft e := fun e hm => he e (mem_seen hm)
    refine ⟨ren ρ (pack vs), seen P b.fn es, ?_, hes, ?_⟩
    · simp only [G, stepG, unwind, List.map_nil, hf, hr']
      simp [doReturn, GStep.after, hin]
    · rcases hvs with hK | ⟨σ, h', v, g, hp, hok, hK⟩
      · exact hc _ h _ w' ft _ hK H₁ (Env.upto_refl _ _) hn (.inr ⟨pack_ok hvok, rfl⟩) hbase
      · rw [hp, ren_sub]
        exact hc v h' _ w' ft _ hK (g.rel H₁) g.upto g.le (.inr ⟨hok, rfl⟩) hbase
  | d :: ds, h, w, ft, a, fr, e1, e2, e3, e4, e5, hr, H, hn, hq => by
    obtain ⟨fn', tmps, todo, defers, mode, kind, ro⟩ := fr
    simp only at e1 e2 e3 e4 e5
    subst e1 e2 e3 e4 e5
    obtain ⟨hd, hq⟩ := hq
    refine (J2.closed P W0 Post).step rfl fun w₁ h₁ => ?_
    have H₁ := H.rely h₁
    obtain ⟨cv, w', es, hr', he, rfl, H', hst, hsz⟩ := take_run (P := P) H₁ hd (Q := fun l w' => l = [] ∧ HRel ρ (h.set d .dead) FC w' ft ∧ Stays ft w₁ w' ∧ w'.heap.size = w₁.heap.size) (fun w' a1 a2 a3 => ⟨rfl, a1, a2, a3⟩) #[] (by simp)
    have hes : ∀ e ∈ seen P b.fn es, EvOk ft e := fun e hm => he e (mem_seen hm)
    refine ⟨G { fn := b.fn, tmps := a.tmps, todo := todo, defers := ds.map (fun d => { target := .collected (ρ.blk d), args := #[] }), mode := .returning, kind := .normal, roundOf := ro } [], w', seen P b.fn es, ?_, rfl, hst.guar hes, ?_⟩
    · simp only [G, stepG, unwind, List.map_cons, hr']
      simp [GStep.after]
    · rw [hsz, Foot.ext_self]
      exact leave_top2 hk hf hin hc ds _ w' ft a _ rfl rfl rfl rfl rfl (by rw [List.length_set]; exact hr) H' (by rw [List.length_set]; exact hn) hq
theorem top_of_W2 (hm : P.follows .mixedOrders = true) {g : FuncId} {fn : Func} (hf : P.funcs[g]? = some fn) {c : Code} (hb : fn.body = some c) (hin : P.inits.idxOf? g = none) {args : List Value} {cargs : Array Value} (ha : args.length ≤ fn.ntmps) (hl : cargs.size = args.length)
    (hr : ∀ i : Nat, VRel h.length ρ (args.getD i unk) (cargs.toList.getD i undef)) (H : HRel ρ h FC w ft)
    (hs : W P (J2 P W0 Post) fn.ntmps h.length g c ⟨regs args, []⟩ h (RetQ P fn.results.toList h.length K))
    (hc : ∀ v h' ρ' w' ft' cv, K v h' → HRel ρ' h' FC w' ft' → Env.upto h.length ρ ρ' → h.length ≤ h'.length → VRel h'.length ρ' v cv → Base W0 w' → Post cv w') : J2 P W0 Post (G (Frame.enter P g cargs .normal) []) w ft := by
  have hJ := J2.closed P W0 Post
  obtain ⟨cargs⟩ := cargs
  simp only at hl hr
  have he : Frame.enter P g ⟨cargs⟩ .normal = FB.at ⟨g, .normal, none, []⟩ ⟨⟨cargs⟩ ++ Array.replicate (fn.ntmps - cargs.length) undef, []⟩ [.code c] := by
    simp [Frame.enter, FB.at, hf, hb]
  rw [he]
  have A : ActRel h.length ρ fn.ntmps ⟨regs args, []⟩ ⟨⟨cargs⟩ ++ Array.replicate (fn.ntmps - cargs.length) undef, []⟩ := by
    refine ⟨fun t => ?_, by simp at hl ⊢; omega, rfl, by simp⟩
    have := hr t
    have ht : ((⟨cargs⟩ : Array Value) ++ Array.replicate (fn.ntmps - cargs.length) undef).getD t undef = cargs.getD t undef := by
      rw [Array.getD_eq_getD_getElem?, List.getD_eq_getElem?_getD]
      by_cases hx : t < cargs.length
      · rw [Array.getElem?_append_left (by simpa using hx)]
        simp
      · rw [Array.getElem?_append_right (by simp; omega), List.getElem?_eq_none (by omega)]
        simp only [Array.getElem?_replicate]
        split <;> rfl
    rw [ht]
    exact this
  have last : ∀ f' h' ρ' w' ft' a' todo, RetQ P fn.results.toList h.length K .ret f' h' → ActRel h'.length ρ' fn.ntmps f' a' → HRel ρ' h' FC w' ft' → Env.upto h.length ρ ρ' → h.length ≤ h'.length →
      J2 P W0 Post (G { (FB.at ⟨g, .normal, none, []⟩ a' todo) with mode := .returning } []) w' ft' := by
    intro f' h' ρ' w' ft' a' todo q A' H' hu hl
    exact leave_top2 (b := ⟨g, .normal, none, []⟩) (f := f') (n0 := h.length) (ρ := ρ') rfl hf hin (fun v h2 ρ2 w2 ft2 cv k H2 u2 l2 v2 => hc v h2 ρ2 w2 ft2 cv k H2 (Env.upto_trans hu u2) l2 v2) f'.ds h' w' ft' a' _ rfl rfl rfl rfl ((List.append_nil _).trans A'.defers) A'.regs H' hl q
  refine W_sound hJ hm c hs ⟨g, .normal, none, []⟩ _ [] [] (fun jump a w ft => jump = some .ret ∧ ∀ todo, J2 P W0 Post (G { (FB.at ⟨g, .normal, none, []⟩ a todo) with mode := .returning } []) w ft) ρ FC w ft rfl (by simp) ?_ A H (Nat.le_refl _) ?_
  · rintro jump a w ft todo ⟨rfl, hj⟩ hh
    rcases hh with ⟨_, k, rfl⟩ | ⟨id, k, e, _⟩ | ⟨e, _⟩
    · exact hJ.ctrl rfl rfl (fun w => by simp [G, stepG, stepG.exec, FB.at]) (hj (.code .ret :: k))
    · cases e
    · cases e
  · intro e f' h' ρ' w' ft' a' q A' H' hu hl
    cases e with
    | normal => exact hJ.ctrl rfl rfl (fun w => by simp [G, stepG, stepG.exec, FB.at]) (last f' h' ρ' w' ft' a' [] q A' H' hu hl)
    | ret => exact ⟨rfl, fun todo => last f' h' ρ' w' ft' a' todo q A' H' hu hl⟩
    | exit id => exact q.elim
    | goto l => exact q.elim
    | panic l => exact q.elim
    | outgrown => exact q.elim
end
end Go.Proofs.Ythnccaajpdnndaa
namespace Go.Proofs.Ythnccaajpdnndaa
open Go.Conc Go.ChangeShapes Go.WideShapes Go.ChangeAt Go.RowKit Go.Proofs.Try
set_option maxRecDepth 100000
theorem law_run2 {g : FuncId} {fn : Func} {c : Code} (hf : prog.funcs[g]? = some fn) (hb : fn.body = some c) (hin : prog.inits.idxOf? g = none) (W₀ : World) (args : List Value) (ha : args.length ≤ fn.ntmps) (hok : ∀ v ∈ args, ArgOk W₀ v)
    (walk : ∀ Post, W prog (J2 prog W₀ Post) fn.ntmps (absH W₀).length g c ⟨regs args, []⟩ (absH W₀) (RetQ prog fn.results.toList (absH W₀).length fun v _ => v = .bool true)) :
    Ends prog (fun v w' => v = .bool true ∧ Below W₀.heap.size W₀ w') (solo (G (Frame.enter prog g ⟨args⟩ .normal) []) W₀) #[] := by
  refine run_of_J2 (W0 := W₀) (ft := startFt W₀) (top_of_W2 mixed hf hb hin ha rfl (fun i => ?_) (start_rel W₀) (walk _) ?_) (fun b hb => hb) (fun b hb => hb.elim) rfl
  · show VRel (absH W₀).length idEnv (args.getD i unk) (args.getD i undef)
    simp only [List.getD_eq_getElem?_getD]
    cases hi : args[i]? with
    | none => exact .inl rfl
    | some v =>
      obtain ⟨h1, h2⟩ := hok v (List.mem_of_getElem? hi)
      exact .inr ⟨by rw [absH_len]; exact h1, h2.symm⟩
  · intro v h' ρ' w' ft' cv hv H' _ _ hcv hB
    subst hv
    refine ⟨?_, below_of H' hB⟩
    rcases hcv with e | ⟨_, e⟩
    · cases e
    · rw [e]
      rfl
theorem lifted12 (os : Os) (started : os.Started) (H : Type) (enc : TypeId × Value → H) :
    ReturnsInLeavingWide {} checked os 12 .any (Rows.grassMostSpec.pre6 enc prog f12 Rows.grassMostRow.domain false) (Rows.grassMostSpec.post enc prog f12 false true false false) := by
  refine returnsInLeavingWide_of_change_sized (C := checked) own started at12
    (ChangeSpec.witness6 (enc := enc) (C := checked) false ⟨#[], #[.slice none 0 0], []⟩ 8 (by kernel_rfl) (by kernel_rfl) (by kernel_rfl) (by kernel_rfl)) ?_
  intro W base args ds gs before hval0 hW _ hsz0 _
  have hsz : (DataW.weightsEach prog (f12.params.toList ++ Rows.grassMostSpec.plain.varTypes prog) (ds ++ gs)).all (· ≤ reachBytes) = true := hsz0
  clear hsz0
  have hval : ∀ (j : Nat) t v, f12.params[j]? = some t → args[j]? = some v → Value.okWide prog W .any base t v := hval0
  have hW' := hW
  obtain ⟨p, q, hA0, hV, rfl, _, _⟩ := hW
  have hA : DataW.TrodAll enc prog W 0 (fun _ => true) true f12.params.toList args.toList ds p := hA0
  have hps : f12.params = #[25] := by kernel_rfl
  rw [hps] at hA hval hsz
  obtain ⟨v0, d0, rfl, rfl, h0⟩ := trodAll_one hA
  obtain ⟨rfl, rfl⟩ := trodVars_none hV
  have u3 : prog.underlying 3 = some (.int .i64) := by kernel_rfl
  have u27 : prog.underlying 25 = some (.slice 3) := by kernel_rfl
  have u4 : prog.underlying 4 = some .bool := by kernel_rfl
  have c3 : prog.cellsOf 3 = 1 := by kernel_rfl
  have b3 : prog.bytesOf 3 = 8 := by kernel_rfl
  have hlt : ∀ x ∈ p, x.block < W.heap.size := fun x hx => by simpa using hW'.lt x (by simpa using hx)
  have hargs : ∀ (W' : World), Below W.heap.size W W' → DataW.TrodAll enc prog W' 0 (fun b => decide (b < W.heap.size)) true [25] [v0] [d0] p := fun W' hn =>
    trodAll_mk1 (Below.trod laidOut (by kernel_rfl) (of_decide_eq_true (by kernel_rfl)) h0 hn hlt)
  obtain ⟨ns, sn, ok2, hbig⟩ := arg_ints u27 u3 c3 (hval 0 25 v0 rfl rfl) h0
  have hln : ns.length < 4611686018427387904 := by
    rcases hbig with rfl | ⟨es, sp, rfl, hle⟩
    · simp
    · have := sized_slice hsz (j := 0) (t := 25) (e := 3) rfl rfl u27
      rw [b3] at this
      simp only [reachBytes] at this
      omega
  obtain ⟨M, last, o, w', t', r1, r2, r3, r4⟩ := law_run2 (g := 12) (fn := f12) at12 body12 (by kernel_rfl) W [v0] (Nat.le_of_ble_eq_true (by kernel_rfl : Nat.ble 1 f12.ntmps = true))
    (by
      intro v hv
      simp only [List.mem_cons, List.not_mem_nil, or_false] at hv
      subst hv
      exact ok2)
    (fun Post => walk12 (K := fun v _ => v = .bool true) sn hln fun _ => rfl)
  refine ⟨M, last, o, w', t', r1, r2, r3, r4.mono fun v hF => ?_⟩
  obtain ⟨rfl, hbelow⟩ := hF
  refine ⟨_, _, _, [], _, [], hW', ?_, hargs _ hbelow, by rfl, hbelow.frame _, fun h => by cases h⟩
  exact trodAll_mk1 (shut_bool u4 true)
theorem grassMost_holds : Rows.GrassMostSaid :=
  OpenClaim.holds_of_wide_leaving 12 f12 rfl rfl rfl rfl rfl rfl rfl ⟨rfl, rfl, rfl, rfl, rfl⟩ rfl rfl rfl rfl rfl (by kernel_rfl) at12 (by kernel_rfl)
    (of_decide_eq_true (by kernel_rfl)) (by unfold Func.isWrapper; first | (rw [if_pos (by decide +kernel)]; kernel_rfl) | (rw [if_neg (by decide +kernel)]; exact ⟨rfl, rfl⟩))
    (fun os started H enc _ => lifted12 os started H enc)
#print axioms grassMost_holds
end Go.Proofs.Ythnccaajpdnndaa
