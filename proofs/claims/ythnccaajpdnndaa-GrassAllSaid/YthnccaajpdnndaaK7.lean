/- GrassAll answers true at every input, and its argument reads behind the call as it read before. No conditions. -/
import Derived.Test.YthnccaajpdnndaaK3
import Derived.Test.YthnccaajpdnndaaK2
import Derived.Test.YthnccaajpdnndaaK6
import Derived.Test.YthnccaajpdnndaaK5
namespace Go.Proofs.Ythnccaajpdnndaa
open Go.Conc Go.Proofs.Try
set_option maxRecDepth 100000
set_option maxHeartbeats 4000000
set_option linter.unusedVariables false
section
variable {main : Bool} {J : JT} {n0 : Nat} {h : List AObj} {K : Value → List AObj → Prop}
theorem at7 : prog.funcs[7]? = some f7 := by kernel_rfl
theorem body7 : f7.body = some (codeOf f7) := by kernel_rfl
def pl7 : Plans := [(10, false, .take 0 (.take 1 (.take 2 (.take 3 (.take 4 (.take 5 (.take 6 (.last 7 true (.take 8 (.take 9 (.take 10 (.take 11 (.take 12 (.take 13 (.take 14 (.take 15 (.last 16 true (.take 17 (.fin))))))))))))))))))),
  (11, true, .take 0 (.take 1 (.take 2 (.take 3 (.take 4 (.take 5 (.take 6 (.take 7 (.take 8 (.take 9 (.take 10 (.take 11 (.take 12 (.take 13 (.take 14 (.fin))))))))))))))))]
def ct7 : Cuts := .bin (.go) (.bin (.go) (.bin (.go) (.bin (.go) (.bin (.go) (.bin (.go) (.bin (.bin (.go) (.un (.un (.bin (.go) (.bin (.un (.bin (.bin (.go) (.cut (.go))) (.bin (.bin (.go) (.cut (.go))) (.go)))) (.go)))))) (.go)))))))
theorem pok7 : plansOk prog pl7 (codeOf f7) = true := by kernel_rfl
theorem e7 {a0 : Value} : W prog J 74 h.length 7 (codeOf f7) (RG.mk (regs [a0]) []) h (RetQ prog [.tmp 2] h.length K) =
(Good prog J 22 [a0] h fun v1 h2 =>
 Good prog J 25 [v1, (vint 8)] h2 fun v3 h4 =>
 aAlloc [(vint 0), (vint 0), (vint 0)] h4 fun v5 h6 =>
 aStore 3 v5 v3 h6 fun h7 =>
 aLoad true 3 v5 h7 fun v8 =>
 Good prog J 34 [v8] h7 fun v9 h10 =>
 aExt v9 0 fun v11 =>
 aExt v9 1 fun v12 =>
 aBin prog .neq 37 v12 (vint 0) fun v13 =>
 cnd v13
(retL h.length K [] [(Value.bool false)] h10)
(aOff v5 0 fun v14 =>
 aLoad false 1 v14 h10 fun v15 =>
 Good prog J 39 [v15] h10 fun v16 h17 =>
 Sem J 74 h.length 7 (subC [1, 1, 1, 1, 1, 1, 0, 1, 0] (codeOf f7)) (RG.p (RG.p (RG.p (RG.p (RG.p (RG.p (RG.p (RG.p (RG.p (RG.p (RG.p (RG.p (RG.p (RG.p (RG.p (RG.p (RG.p (RG.p (RG.p (RG.p (RG.mk (regs [a0]) []) 2 (Value.bool false)) 9 a0) 10 v1) 11 v3) 3 v5) 13 v8) 14 v9) 12 v9) 15 v11) 16 v12) 4 v11) 5 v12) 17 v12) 18 v13) 19 v14) 20 v15) 21 v16) 6 v16) 7 (vint 0)) 8 (vint 0)) h17 (contX pl7 prog J 74 h.length 7 ct7 [1, 1, 1, 1, 1, 1, 0, 1, 0] (codeOf f7) [] (RetQ prog [.tmp 2] h.length K)))) := top_eq pok7 ct7 (by kernel_rfl)
theorem s7_1 {f : RG} {nx0 : RG → List AObj → Prop} : W prog J 74 n0 7 (subC [1, 1, 1, 1, 1, 1, 0, 1, 0, 0] (codeOf f7)) f h (thenK nx0 (contX pl7 prog J 74 n0 7 ct7 [1, 1, 1, 1, 1, 1, 0, 1, 0] (codeOf f7) [] (RetQ prog [.tmp 2] n0 K))) =
(aLenS (f.r 6) fun v1 =>
 aBin prog .lss 3 (f.r 8) v1 fun v2 =>
 cnd v2
((∃ B, aIdx 1 (f.r 6) (f.r 8) fun v3 =>
 aLoad false 1 v3 h fun v4 =>
 RdOk (some B) (ptrBlk v3) ∧ (aOff (f.r 3) 1 fun v5 =>
 aLoad false 1 v5 h fun v6 =>
 RdOk (some B) (ptrBlk v5) ∧ (aBin prog .add 3 v6 (vint 1) fun v7 =>
 Good prog J 40 [v4, (Value.int .u8 100), v7] h fun v8 h9 =>
 SameB (some B) h h9 ∧ (cnd v8
(Hold (W prog J 74 n0 7 (subC [1, 1, 1, 1, 1, 1, 0, 1, 0, 0, 1, 0, 0, 0, 1] (codeOf f7)) (RG.p (RG.p (RG.p (RG.p (RG.p (RG.p (RG.p (RG.p (RG.p (RG.p (RG.p (RG.p (RG.p (RG.p (RG.p (RG.p (RG.p (RG.p (RG.p (RG.p (RG.p (RG.p (RG.p f 22 (f.r 8)) 23 (f.r 6)) 24 v1) 25 v2) 28 (f.r 6)) 29 (f.r 8)) 30 v3) 31 v4) 32 v5) 33 v6) 34 v7) 35 v8) 36 v8) 36 (Value.bool true)) 37 undef) 38 undef) 39 undef) 40 undef) 41 undef) 42 undef) 43 undef) 44 undef) 45 (Value.bool true)) h9 (contX pl7 prog J 74 n0 7 ct7 [1, 1, 1, 1, 1, 1, 0, 1, 0, 0, 1, 0, 0, 0, 1] (codeOf f7) [nx0] (RetQ prog [.tmp 2] n0 K))))
(aIdx 1 (f.r 6) (f.r 8) fun v10 =>
 aLoad false 1 v10 h9 fun v11 =>
 RdOk (some B) (ptrBlk v10) ∧ (aOff (f.r 3) 2 fun v12 =>
 aLoad false 1 v12 h9 fun v13 =>
 RdOk (some B) (ptrBlk v12) ∧ (aBin prog .add 3 v13 (vint 1) fun v14 =>
 Good prog J 40 [v11, (Value.int .u8 119), v14] h9 fun v15 h16 =>
 SameB (some B) h h16 ∧ (Hold (W prog J 74 n0 7 (subC [1, 1, 1, 1, 1, 1, 0, 1, 0, 0, 1, 0, 0, 0, 1] (codeOf f7)) (RG.p (RG.p (RG.p (RG.p (RG.p (RG.p (RG.p (RG.p (RG.p (RG.p (RG.p (RG.p (RG.p (RG.p (RG.p (RG.p (RG.p (RG.p (RG.p (RG.p (RG.p (RG.p (RG.p f 22 (f.r 8)) 23 (f.r 6)) 24 v1) 25 v2) 28 (f.r 6)) 29 (f.r 8)) 30 v3) 31 v4) 32 v5) 33 v6) 34 v7) 35 v8) 36 v8) 36 (Value.bool false)) 37 (f.r 6)) 38 (f.r 8)) 39 v10) 40 v11) 41 v12) 42 v13) 43 v14) 44 v15) 45 v15) h16 (contX pl7 prog J 74 n0 7 ct7 [1, 1, 1, 1, 1, 1, 0, 1, 0, 0, 1, 0, 0, 0, 1] (codeOf f7) [nx0] (RetQ prog [.tmp 2] n0 K))))))))))))
(aLenS (f.r 4) fun v17 =>
 aBin prog .eql 3 (f.r 7) v17 fun v18 =>
 cnd v18
(aBin prog .gtr 3 (f.r 7) (vint 0) fun v19 =>
 cnd v19
(Good prog J 21 [] h fun v20 h21 =>
 retL n0 K f.ds [v20] h21)
(retL n0 K f.ds [(Value.bool false)] h))
(retL n0 K f.ds [(Value.bool false)] h))) := sub_eq pok7 ct7 (by kernel_rfl)
theorem l7_1 (hJ : Closed prog main J) {S : Type} (μ : S → Nat) (I : S → RG → List AObj → Prop) (hI : ∀ s f h, I s f h → heapOk h → n0 ≤ h.length → W prog J 74 n0 7 (subC [1, 1, 1, 1, 1, 1, 0, 1, 0, 0] (codeOf f7)) f h (thenK (Nx n0 μ I s) (contX pl7 prog J 74 n0 7 ct7 [1, 1, 1, 1, 1, 1, 0, 1, 0] (codeOf f7) [] (RetQ prog [.tmp 2] n0 K))))
  {s : S} {f : RG} (hi : Gets n0 I s f h) : Sem J 74 n0 7 (subC [1, 1, 1, 1, 1, 1, 0, 1, 0] (codeOf f7)) f h (contX pl7 prog J 74 n0 7 ct7 [1, 1, 1, 1, 1, 1, 0, 1, 0] (codeOf f7) [] (RetQ prog [.tmp 2] n0 K)) :=
  loop_rule hJ mixed (b := subC [1, 1, 1, 1, 1, 1, 0, 1, 0, 0] (codeOf f7)) (by kernel_rfl) μ I hI hi
theorem s7_2 {f : RG} {nx0 : RG → List AObj → Prop} : W prog J 74 n0 7 (subC [1, 1, 1, 1, 1, 1, 0, 1, 0, 0, 1, 0, 0, 0, 1] (codeOf f7)) f h (contX pl7 prog J 74 n0 7 ct7 [1, 1, 1, 1, 1, 1, 0, 1, 0, 0, 1, 0, 0, 0, 1] (codeOf f7) [nx0] (RetQ prog [.tmp 2] n0 K)) =
(cnd (f.r 45)
(aBin prog .add 3 (f.r 8) (vint 1) fun v1 =>
 nx0 (RG.p (RG.p (RG.p f 26 (f.r 8)) 27 v1) 8 v1) h)
(aLenS (f.r 4) fun v2 =>
 aBin prog .geq 3 (f.r 7) v2 fun v3 =>
 cnd v3
(Hold (W prog J 74 n0 7 (subC [1, 1, 1, 1, 1, 1, 0, 1, 0, 0, 1, 0, 0, 1, 0, 1] (codeOf f7)) (RG.p (RG.p (RG.p (RG.p (RG.p (RG.p (RG.p (RG.p (RG.p (RG.p (RG.p (RG.p (RG.p (RG.p (RG.p (RG.p f 46 (f.r 7)) 47 (f.r 4)) 48 v2) 49 v3) 50 v3) 50 (Value.bool true)) 51 undef) 52 undef) 53 undef) 54 undef) 55 undef) 56 undef) 57 undef) 58 undef) 59 undef) 60 (Value.bool true)) h (contX pl7 prog J 74 n0 7 ct7 [1, 1, 1, 1, 1, 1, 0, 1, 0, 0, 1, 0, 0, 1, 0, 1] (codeOf f7) [nx0] (RetQ prog [.tmp 2] n0 K))))
(aIdx 1 (f.r 4) (f.r 7) fun v4 =>
 aLoad false 1 v4 h fun v5 =>
 aIdx 1 (f.r 6) (f.r 8) fun v6 =>
 aLoad false 1 v6 h fun v7 =>
 aBin prog .neq 9 v5 v7 fun v8 =>
 Hold (W prog J 74 n0 7 (subC [1, 1, 1, 1, 1, 1, 0, 1, 0, 0, 1, 0, 0, 1, 0, 1] (codeOf f7)) (RG.p (RG.p (RG.p (RG.p (RG.p (RG.p (RG.p (RG.p (RG.p (RG.p (RG.p (RG.p (RG.p (RG.p (RG.p (RG.p f 46 (f.r 7)) 47 (f.r 4)) 48 v2) 49 v3) 50 v3) 50 (Value.bool false)) 51 (f.r 4)) 52 (f.r 7)) 53 v4) 54 v5) 55 (f.r 6)) 56 (f.r 8)) 57 v6) 58 v7) 59 v8) 60 v8) h (contX pl7 prog J 74 n0 7 ct7 [1, 1, 1, 1, 1, 1, 0, 1, 0, 0, 1, 0, 0, 1, 0, 1] (codeOf f7) [nx0] (RetQ prog [.tmp 2] n0 K)))))) := sub_eq pok7 ct7 (by kernel_rfl)
theorem s7_3 {f : RG} {nx0 : RG → List AObj → Prop} : W prog J 74 n0 7 (subC [1, 1, 1, 1, 1, 1, 0, 1, 0, 0, 1, 0, 0, 1, 0, 1] (codeOf f7)) f h (contX pl7 prog J 74 n0 7 ct7 [1, 1, 1, 1, 1, 1, 0, 1, 0, 0, 1, 0, 0, 1, 0, 1] (codeOf f7) [nx0] (RetQ prog [.tmp 2] n0 K)) =
(cnd (f.r 60)
(retL n0 K f.ds [(Value.bool false)] h)
(aBin prog .add 3 (f.r 7) (vint 1) fun v1 =>
 aBin prog .add 3 (f.r 8) (vint 1) fun v2 =>
 nx0 (RG.p (RG.p (RG.p (RG.p (RG.p (RG.p f 61 (f.r 7)) 62 v1) 7 v1) 26 (f.r 8)) 27 v2) 8 v2) h)) := sub_eq pok7 ct7 (by kernel_rfl)
theorem at40 : prog.funcs[40]? = some f40 := by kernel_rfl
theorem body40 : f40.body = some (codeOf f40) := by kernel_rfl
def pl40 : Plans := []
def ct40 : Cuts := .bin (.go) (.bin (.bin (.go) (.un (.un (.bin (.go) (.bin (.un (.bin (.go) (.bin (.un (.un (.bin (.bin (.go) (.cut (.go))) (.go)))) (.go)))) (.go)))))) (.go))
theorem pok40 : plansOk prog pl40 (codeOf f40) = true := by kernel_rfl
theorem e40 {a0 a1 a2 : Value} : W prog J 34 h.length 40 (codeOf f40) (RG.mk (regs [a0, a1, a2]) []) h (RetQ prog [.tmp 6] h.length K) =
(Sem J 34 h.length 40 (subC [1, 0, 1, 0] (codeOf f40)) (RG.p (RG.p (RG.mk (regs [a0, a1, a2]) []) 6 (Value.bool false)) 7 (vint 0)) h (contX pl40 prog J 34 h.length 40 ct40 [1, 0, 1, 0] (codeOf f40) [] (RetQ prog [.tmp 6] h.length K))) := top_eq pok40 ct40 (by kernel_rfl)
theorem g40 (hJ : Closed prog main J) {a0 a1 a2 : Value} (hs : heapOk h → W prog J 34 h.length 40 (codeOf f40) (RG.mk (regs [a0, a1, a2]) []) h (RetQ prog [.tmp 6] h.length K)) : Good prog J 40 [a0, a1, a2] h K :=
  good_of_W hJ mixed at40 body40 (by kernel_rfl) (Nat.le_of_ble_eq_true rfl) hs
theorem s40_1 {f : RG} {nx0 : RG → List AObj → Prop} : W prog J 34 n0 40 (subC [1, 0, 1, 0, 0] (codeOf f40)) f h (thenK nx0 (contX pl40 prog J 34 n0 40 ct40 [1, 0, 1, 0] (codeOf f40) [] (RetQ prog [.tmp 6] n0 K))) =
(aBin prog .add 3 (f.r 7) (f.r 2) fun v1 =>
 aLenStr (f.r 0) fun v2 =>
 aBin prog .leq 3 v1 v2 fun v3 =>
 cnd v3
(Sem J 34 n0 40 (subC [1, 0, 1, 0, 0, 1, 0, 0, 1, 0, 0] (codeOf f40)) (RG.p (RG.p (RG.p (RG.p (RG.p (RG.p (RG.p f 9 (f.r 7)) 10 (f.r 2)) 11 v1) 12 (f.r 0)) 13 v2) 14 v3) 8 (vint 0)) h (contX pl40 prog J 34 n0 40 ct40 [1, 0, 1, 0, 0, 1, 0, 0, 1, 0, 0] (codeOf f40) [nx0] (RetQ prog [.tmp 6] n0 K)))
(retL n0 K f.ds [(Value.bool false)] h)) := sub_eq pok40 ct40 (by kernel_rfl)
theorem l40_1 (hJ : Closed prog main J) {S : Type} (μ : S → Nat) (I : S → RG → List AObj → Prop) (hI : ∀ s f h, I s f h → heapOk h → n0 ≤ h.length → W prog J 34 n0 40 (subC [1, 0, 1, 0, 0] (codeOf f40)) f h (thenK (Nx n0 μ I s) (contX pl40 prog J 34 n0 40 ct40 [1, 0, 1, 0] (codeOf f40) [] (RetQ prog [.tmp 6] n0 K))))
  {s : S} {f : RG} (hi : Gets n0 I s f h) : Sem J 34 n0 40 (subC [1, 0, 1, 0] (codeOf f40)) f h (contX pl40 prog J 34 n0 40 ct40 [1, 0, 1, 0] (codeOf f40) [] (RetQ prog [.tmp 6] n0 K)) :=
  loop_rule hJ mixed (b := subC [1, 0, 1, 0, 0] (codeOf f40)) (by kernel_rfl) μ I hI hi
theorem s40_2 {f : RG} {nx0 nx1 : RG → List AObj → Prop} : W prog J 34 n0 40 (subC [1, 0, 1, 0, 0, 1, 0, 0, 1, 0, 0, 0] (codeOf f40)) f h (thenK nx1 (contX pl40 prog J 34 n0 40 ct40 [1, 0, 1, 0, 0, 1, 0, 0, 1, 0, 0] (codeOf f40) [nx0] (RetQ prog [.tmp 6] n0 K))) =
(aBin prog .lss 3 (f.r 8) (f.r 2) fun v1 =>
 cnd v1
(aBin prog .add 3 (f.r 7) (f.r 8) fun v2 =>
 aIdxStr (f.r 0) v2 fun v3 =>
 aBin prog .eql 5 v3 (f.r 1) fun v4 =>
 Hold (W prog J 34 n0 40 (subC [1, 0, 1, 0, 0, 1, 0, 0, 1, 0, 0, 0, 0, 1] (codeOf f40)) (RG.p (RG.p (RG.p (RG.p (RG.p (RG.p (RG.p (RG.p (RG.p (RG.p (RG.p (RG.p (RG.p f 17 (f.r 8)) 18 (f.r 2)) 19 v1) 20 v1) 20 (Value.bool true)) 21 (f.r 0)) 22 (f.r 7)) 23 (f.r 8)) 24 v2) 25 v3) 26 (f.r 1)) 27 v4) 28 v4) h (contX pl40 prog J 34 n0 40 ct40 [1, 0, 1, 0, 0, 1, 0, 0, 1, 0, 0, 0, 0, 1] (codeOf f40) [nx0, nx1] (RetQ prog [.tmp 6] n0 K))))
(Hold (W prog J 34 n0 40 (subC [1, 0, 1, 0, 0, 1, 0, 0, 1, 0, 0, 0, 0, 1] (codeOf f40)) (RG.p (RG.p (RG.p (RG.p (RG.p (RG.p (RG.p (RG.p (RG.p (RG.p (RG.p (RG.p (RG.p f 17 (f.r 8)) 18 (f.r 2)) 19 v1) 20 v1) 20 (Value.bool false)) 21 undef) 22 undef) 23 undef) 24 undef) 25 undef) 26 undef) 27 undef) 28 (Value.bool false)) h (contX pl40 prog J 34 n0 40 ct40 [1, 0, 1, 0, 0, 1, 0, 0, 1, 0, 0, 0, 0, 1] (codeOf f40) [nx0, nx1] (RetQ prog [.tmp 6] n0 K))))) := sub_eq pok40 ct40 (by kernel_rfl)
theorem l40_2 (hJ : Closed prog main J) {nx0 : RG → List AObj → Prop} {S : Type} (μ : S → Nat) (I : S → RG → List AObj → Prop) (hI : ∀ s f h, I s f h → heapOk h → n0 ≤ h.length → W prog J 34 n0 40 (subC [1, 0, 1, 0, 0, 1, 0, 0, 1, 0, 0, 0] (codeOf f40)) f h (thenK (Nx n0 μ I s) (contX pl40 prog J 34 n0 40 ct40 [1, 0, 1, 0, 0, 1, 0, 0, 1, 0, 0] (codeOf f40) [nx0] (RetQ prog [.tmp 6] n0 K))))
  {s : S} {f : RG} (hi : Gets n0 I s f h) : Sem J 34 n0 40 (subC [1, 0, 1, 0, 0, 1, 0, 0, 1, 0, 0] (codeOf f40)) f h (contX pl40 prog J 34 n0 40 ct40 [1, 0, 1, 0, 0, 1, 0, 0, 1, 0, 0] (codeOf f40) [nx0] (RetQ prog [.tmp 6] n0 K)) :=
  loop_rule hJ mixed (b := subC [1, 0, 1, 0, 0, 1, 0, 0, 1, 0, 0, 0] (codeOf f40)) (by kernel_rfl) μ I hI hi
theorem s40_3 {f : RG} {nx0 nx1 : RG → List AObj → Prop} : W prog J 34 n0 40 (subC [1, 0, 1, 0, 0, 1, 0, 0, 1, 0, 0, 0, 0, 1] (codeOf f40)) f h (contX pl40 prog J 34 n0 40 ct40 [1, 0, 1, 0, 0, 1, 0, 0, 1, 0, 0, 0, 0, 1] (codeOf f40) [nx0, nx1] (RetQ prog [.tmp 6] n0 K)) =
(cnd (f.r 28)
(aBin prog .add 3 (f.r 8) (vint 1) fun v1 =>
 nx1 (RG.p (RG.p (RG.p f 29 (f.r 8)) 30 v1) 8 v1) h)
(aBin prog .eql 3 (f.r 8) (f.r 2) fun v2 =>
 cnd v2
(retL n0 K f.ds [(Value.bool true)] h)
(aBin prog .add 3 (f.r 7) (vint 1) fun v3 =>
 nx0 (RG.p (RG.p (RG.p (RG.p (RG.p (RG.p f 31 (f.r 8)) 32 (f.r 2)) 33 v2) 15 (f.r 7)) 16 v3) 7 v3) h))) := sub_eq pok40 ct40 (by kernel_rfl)
end
section
variable {main : Bool} {J : JT} {n0 : Nat} {h : List AObj} {K : Value → List AObj → Prop}
theorem at34 : prog.funcs[34]? = some f34 := by kernel_rfl
theorem body34 : f34.body = some (codeOf f34) := by kernel_rfl
def pl34 : Plans := []
def ct34 : Cuts := .go
theorem pok34 : plansOk prog pl34 (codeOf f34) = true := by kernel_rfl
theorem e34 {a0 : Value} : W prog J 20 h.length 34 (codeOf f34) (RG.mk (regs [a0]) []) h (RetQ prog [.tmp 2, .tmp 3] h.length K) =
(aBox a0 h fun v1 h2 =>
 aLoad true 3 v1 h2 fun v3 =>
 Good prog J 72 [v3] h2 fun v4 h5 =>
 aBin prog .neq 37 v4 (vint 0) fun v6 =>
 cnd v6
(retL h.length K [] [(Value.slice none 0 0), v4] h5)
(aAlloc [(Value.slice none 0 0)] h5 fun v7 h8 =>
 aLoad true 3 v1 h8 fun v9 =>
 Good prog J 90 [v9] h8 fun v10 h11 =>
 Sem J 20 h.length 34 (subC [1, 1, 1, 0, 1, 0] (codeOf f34)) (RG.p (RG.p (RG.p (RG.p (RG.p (RG.p (RG.p (RG.p (RG.p (RG.p (RG.p (RG.mk (regs [a0]) []) 1 v1) 2 (Value.slice none 0 0)) 3 (vint 0)) 7 v3) 8 v4) 4 v4) 9 v4) 10 v6) 5 v7) 12 v9) 13 v10) h11 (contX pl34 prog J 20 h.length 34 ct34 [1, 1, 1, 0, 1, 0] (codeOf f34) [] (RetQ prog [.tmp 2, .tmp 3] h.length K)))) := top_eq pok34 ct34 (by kernel_rfl)
theorem g34 (hJ : Closed prog main J) {a0 : Value} (hs : heapOk h → W prog J 20 h.length 34 (codeOf f34) (RG.mk (regs [a0]) []) h (RetQ prog [.tmp 2, .tmp 3] h.length K)) : Good prog J 34 [a0] h K :=
  good_of_W hJ mixed at34 body34 (by kernel_rfl) (Nat.le_of_ble_eq_true rfl) hs
theorem a34_1 {f : RG} {fr : FuncId} {Q : QT} : W prog J 20 n0 fr (subC [1, 1, 1, 0, 1, 0, 0] (codeOf f34)) f h Q =
(Q .normal (RG.p f 6 (f.r 14)) h) := sub_eq pok34 ct34 (by kernel_rfl)
theorem b34_1 {f : RG} {fr : FuncId} {Q : QT} : W prog J 20 n0 fr (subC [1, 1, 1, 0, 1, 0, 1] (codeOf f34)) f h Q =
(aLoad false 1 (f.r 5) h fun v1 =>
(((1 * 1 : Nat) ≤ 16777216 ∧ (1 : Nat) ≤ 16777216 ∧ List.length [(Value.string { data := #[] })] = 1) ∧ aFill (zrep [(Value.string { data := #[] })] 1) [(0, 1, (f.r 6))] fun c2 =>
 aNewS 1 c2 h fun v3 h4 =>
((List.length [(Value.string { data := #[] })] = 1 ∧ 0 < (1 : Nat) ∧ 0 < (16 : Nat) ∧ (16 : Nat) ≤ 1024) ∧ aApp 1 v1 v3 h4 fun v5 h6 =>
 aStore 1 (f.r 5) v5 h6 fun h7 =>
 Q .normal (RG.p (RG.p (RG.p (RG.p f 15 v1) 16 (f.r 6)) 17 v3) 18 v5) h7))) := sub_eq pok34 ct34 (by kernel_rfl)
theorem c34_1 {f : RG} : (contX pl34 prog J 20 n0 34 ct34 [1, 1, 1, 0, 1, 0] (codeOf f34) [] (RetQ prog [.tmp 2, .tmp 3] n0 K)) .normal f h =
(aLoad false 1 (f.r 5) h fun v1 =>
 retL n0 K f.ds [v1, (vint 0)] h) := by kernel_rfl
theorem l34_1 (hJ : Closed prog main J) {f : RG} {g : FuncId} {first cap : List Value} (hx : ev f.r ((Go.Operand.tmp 13)) = .func (.func g) ⟨first⟩ ⟨cap⟩) (hg : g < prog.funcs.size)
  (hs : Good prog J g (first ++ [.func (.yield (h.length + 1)) ⟨[]⟩ ⟨[]⟩] ++ cap) (h ++ [.deferred] ++ [.loop .ready none 34 f.r 20 #[14] (subC [1, 1, 1, 0, 1, 0, 0] (codeOf f34)) (subC [1, 1, 1, 0, 1, 0, 1] (codeOf f34)) h.length]) (endQ h.length f (contX pl34 prog J 20 n0 34 ct34 [1, 1, 1, 0, 1, 0] (codeOf f34) [] (RetQ prog [.tmp 2, .tmp 3] n0 K)))) (hcall : callable prog g = true := by kernel_rfl) : Sem J 20 n0 34 (subC [1, 1, 1, 0, 1, 0] (codeOf f34)) f h (contX pl34 prog J 20 n0 34 ct34 [1, 1, 1, 0, 1, 0] (codeOf f34) [] (RetQ prog [.tmp 2, .tmp 3] n0 K)) :=
  Sem_range hJ (by decide) (fop := (Go.Operand.tmp 13)) (params := #[14]) (assign := subC [1, 1, 1, 0, 1, 0, 0] (codeOf f34)) (body := subC [1, 1, 1, 0, 1, 0, 1] (codeOf f34)) hx hg hs hcall
end
end Go.Proofs.Ythnccaajpdnndaa
namespace Go.Proofs.Ythnccaajpdnndaa
open Go.Conc Go.Proofs.Try
set_option maxRecDepth 100000
section
variable {main : Bool} {J : JT} {h H : List AObj} {K : Value → List AObj → Prop} {KV : Value → Prop} {HL : List AObj → Prop} {n0 : Nat}
theorem ownX_like {H' : List AObj} {s len : Nat} {cs : List Value} {v : Value} {o : Option Nat} (ho : OwnX H s cs len v o) (e : ∀ i, o = some i → H'[i]? = H[i]?) : OwnX H' s cs len v o := by
  obtain ⟨h1, h2, ⟨h0, r⟩ | ⟨b, c, sz, rfl, rfl, hb, hc⟩⟩ := ho
  · exact ⟨h1, h2, .inl ⟨h0, r⟩⟩
  · exact ⟨h1, h2, .inr ⟨b, c, sz, rfl, rfl, by rw [e b rfl]; exact hb, hc⟩⟩
noncomputable abbrev lpR (st : LoopState) (pend : Option Code) (r : Nat → Value) (d : Nat) : AObj := .loop st pend 34 r 20 #[14] (subC [1, 1, 1, 0, 1, 0, 0] (codeOf f34)) (subC [1, 1, 1, 0, 1, 0, 1] (codeOf f34)) d
theorem roundR (hJ : Closed prog main J) {l d p : Nat} {R : Nat → Value} {w : List UInt8} {L : List (List UInt8)} {v : Value} {o : Option Nat} {Q : Value → List AObj → Prop} (hl : H[l]? = some (lpR .ready none R d)) (r5 : R 5 = ptr p 0) (cp : H[p]? = some (.cells [v] true 0)) (O : OwnX H 1 (strL L) L.length v o) (np : p ≠ l) (no : o ≠ some l) (nop : o ≠ some p) (hL : L.length < 90000)
    (k : ∀ H' v' o', SameX (l :: p :: o.toList) H H' → H'[l]? = some (lpR .ready none R d) → H'[p]? = some (.cells [v'] true 0) → OwnX H' 1 (strL (L ++ [w])) (L ++ [w]).length v' (some o') → H.length ≤ o' → Q (.bool true) H') :
    callV prog (Good prog J) (.func (.yield l) ⟨[]⟩ ⟨[]⟩) [strV w] H Q := by
  show Good prog J (yid prog l) [strV w] H Q
  refine good_round hJ hl rfl (by decide) fun ok => W_sound hJ mixed _ ?_
  rw [a34_1]
  refine ⟨rfl, none, _, _, _, _, _, _, _, hl, W_sound hJ mixed _ ?_⟩
  rw [b34_1]
  have hll := lt_of_get hl
  have hpl := lt_of_get cp
  have hl3 : (H.set l (lpR .busy none R d))[l]? = some (lpR .busy none R d) := List.getElem?_set_self hll
  have S3 : SameX [l] H (H.set l (lpR .busy none R d)) := SameX.refl.set (.inl (by simp))
  have len3 : (H.set l (lpR .busy none R d)).length = H.length := List.length_set ..
  generalize H.set l (lpR .busy none R d) = H3 at hl3 S3 len3
  have O3 := ownX_keep O S3 (fun i hi => by simp; exact fun e => no (by rw [hi, e]))
  have kv := ownX_val O
  show aLoad false 1 (R 5) _ _
  rw [r5]
  refine ldI (v := v) (S3.get cp (by simpa using np)) rfl kv.2.2 ?_
  refine strMore O3 hL fun v' H5 o5 S5 O5 h5 => ?_
  have nx : ∀ {q : Nat}, o ≠ some q → q ∉ o.toList := fun {q} hq => by
    cases o with
    | none => simp
    | some i => simp; exact fun e => hq (by rw [e])
  have vv := ownX_val O5
  show aStore 1 (R 5) _ _ _
  rw [r5]
  refine qSt (S5.get (S3.get cp (by simpa using np)) (nx nop)) (by simp) vv.1 vv.2.1 fun H6 S6 c6 l6 => ?_
  have hl6 := S6.get (S5.get hl3 (nx no)) (by simpa using np.symm)
  refine ⟨.busy, none, _, _, _, _, _, _, _, hl6, .inl (k _ v' o5 ?_ (List.getElem?_set_self (lt_of_get hl6)) (get_set c6 np) ?_ (by omega))⟩
  · exact (((S3.weak (by simp)).trans (S5.weak (by simp; intro a ha; exact .inr (.inr ha)))).trans (S6.weak (by simp))).set (.inl (by simp))
  · refine ownX_keep (ownX_keep O5 S6 fun i hi => ?_) (SameX.refl.set (i := l) (.inl (List.mem_singleton.2 rfl))) fun i hi => ?_
    · cases hi
      simp
      omega
    · cases hi
      simp
      omega
set_option maxHeartbeats 800000 in
theorem good34 (hJ : Closed prog main J) {s : SkyR} (hK0 : skyE s ≠ 0 → ∀ H', SameX [] H H' → K (.tuple ⟨[.slice none 0 0, vint (skyE s)]⟩) H')
    (hK1 : skyE s = 0 → ∀ H' v, SameX [] H H' → Sli H' v 1 (rainsB s).length (strL (rainsB s)) → K (.tuple ⟨[v, vint 0]⟩) H') : Good prog J 34 [.agg ⟨s.cells⟩] H K := by
  refine g34 hJ fun ok => ?_
  rw [e34]
  refine qBox (l := s.cells) rfl fun H1 p1 e1 S1 c1 l1 => load_part (c := s.cells) c1 (by simp [SkyR.cells]) rfl rfl (good72 hJ (neqI (cndI (fun h1 => retL_same (nu2 (by simp [unk]) (by simp [unk])) (hK0 h1 H1 S1)) fun h1 => ?_)))
  have h0 : skyE s = 0 := by omega
  have g : skyOk s := by
    unfold skyE at h0
    split at h0
    · assumption
    · cases h0
  refine qAl fun H5 p5 e5 S5 c5 l5 => load_part (c := s.cells) (S5.get c1 (by simp)) (by simp [SkyR.cells]) rfl rfl ?_
  refine good90 hJ fun H10 ps S10 cs10 gs => ?_
  have TH : SameX [] H H10 := (S1.trans S5).trans S10
  refine l34_1 hJ (first := []) (cap := [ptr ps 0]) rfl (by decide) ?_
  obtain ⟨R, hRe⟩ : ∃ R : RG, R = RG.p (RG.p (RG.p (RG.p (RG.p (RG.p (RG.p (RG.p (RG.p (RG.p (RG.p (RG.mk (regs [.agg ⟨s.cells⟩]) []) 1 (ptr p1 0)) 2 (Value.slice none 0 0)) 3 (vint 0)) 7 (.agg ⟨s.cells⟩)) 8 (vint (skyE s))) 4 (vint (skyE s))) 9 (vint (skyE s))) 10 (.bool (decide (skyE s ≠ 0)))) 5 (ptr p5 0)) 12 (.agg ⟨s.cells⟩)) 13 (.func (.func 127) ⟨[]⟩ ⟨[ptr ps 0]⟩) := ⟨_, rfl⟩
  rw [← hRe]
  have R5 : R.r 5 = ptr p5 0 := by subst hRe; rfl
  have Rds : R.ds = [] := by subst hRe; rfl
  clear hRe
  have hl11 : (H10 ++ [AObj.deferred] ++ [lpR .ready none R.r H10.length])[H10.length + 1]? = some (lpR .ready none R.r H10.length) := by
    rw [List.append_assoc]
    simp
  have hd11 : (H10 ++ [AObj.deferred] ++ [lpR .ready none R.r H10.length])[H10.length]? = some .deferred := by
    rw [List.append_assoc]
    simp
  have hln : (H10 ++ [AObj.deferred] ++ [lpR .ready none R.r H10.length]).length = H10.length + 2 := by simp
  have S11 : SameX [] H10 (H10 ++ [AObj.deferred] ++ [lpR .ready none R.r H10.length]) := SameX.refl.app.app
  generalize hH11 : H10 ++ [AObj.deferred] ++ [lpR .ready none R.r H10.length] = H11 at hl11 hd11 hln S11
  have UH : SameX [] H H11 := TH.trans S11
  have w5 : H11[p5]? = some (.cells [.slice none 0 0] true 0) := (S10.trans S11).get c5 (by simp)
  have ws : H11[ps]? = some (.cells s.cells true 0) := S11.get cs10 (by simp)
  have b5 := lt_of_get c5
  have bs := lt_of_get cs10
  have h10 := S10.1
  have h1l := S1.1
  have h5l := S5.1
  have hfew := rainsB_few g
  have RD : Rnd J (rainsB s) (.func (.yield (H10.length + 1)) ⟨[]⟩ ⟨[]⟩) [H10.length + 1, p5] H11
      (fun k O H' => ∃ v o, O = o.toList ∧ H'[H10.length + 1]? = some (lpR .ready none R.r H10.length) ∧ H'[p5]? = some (.cells [v] true 0) ∧ OwnX H' 1 (strL ((rainsB s).take k)) ((rainsB s).take k).length v o ∧ ∀ i, o = some i → H11.length ≤ i) (fun H' => False) := by
    refine ⟨by simp; omega, ?_, ?_, ?_⟩
    · rintro k O H' ⟨v, o, rfl, i1, i2, i3, i4⟩ x hx
      exact ownX_lt i3 x (by simpa using hx)
    · rintro k O H1 H2 T ⟨v, o, rfl, i1, i2, i3, i4⟩
      refine ⟨v, o, rfl, by rw [T.2 _ (.inl (by omega))]; exact i1, by rw [T.2 _ (.inl (by omega))]; exact i2, ownX_like i3 fun i hi => T.2 i (.inr (by simpa using hi)), i4⟩
    · rintro k w O Ha Q hw Sa hOO ⟨v, o, rfl, i1, i2, i3, i4⟩ q1 q2
      have hSa := Sa.1
      have hk := (List.getElem?_eq_some_iff.1 hw).1
      refine roundR hJ i1 R5 i2 i3 (by omega) (fun e => by have := i4 _ e; omega) (fun e => by have := i4 _ e; omega) (by rw [List.length_take]; omega) fun Hb v' o' Sb hlb h5' O' ho' => ?_
      refine q1 [o'] Hb (Sb.weak (by simp)) (fun x hx => by rw [List.mem_singleton.1 hx]; exact .inr ho') ⟨v', some o', rfl, hlb, h5', ?_, fun i hi => by cases hi; omega⟩
      rw [List.take_add_one, hw]
      exact O'
  refine good127 hJ g RD ⟨rfl, rfl, rfl⟩ ws (by simp; omega) ⟨_, none, rfl, hl11, w5, ⟨rfl, rfl, .inl ⟨rfl, rfl, rfl⟩⟩, by simp⟩ (fun Hb O Sb _ hi => ?_) fun Hb Sb st => st.elim
  obtain ⟨v, o, rfl, i1, i2, i3, i4⟩ := hi
  rw [List.take_of_length_le (Nat.le_refl _)] at i3
  refine endQnorm i1 (by simp) ?_
  rw [c34_1]
  show aLoad false 1 (R.r 5) _ _
  rw [R5, Rds]
  have hd' := Sb.get hd11 (by simp; omega)
  have vv := ownX_val i3
  refine ldI (v := v) (get_set i2 (by omega)) rfl vv.2.2 ?_
  refine retLdef (get_set hd' (by omega)) (nu2 (ownU i3) (by simp [unk])) ?_
  refine hK1 h0 _ v (((UH.thru Sb (by simp; omega)).set (.inr (by omega))).set (.inr (by omega))) (ownX_sli (ownX_like i3 fun i hi => ?_))
  have := i4 i hi
  rw [List.getElem?_set_ne (by omega), List.getElem?_set_ne (by omega)]
end
def rowP (w : List UInt8) (c : UInt8) (m : Nat) : Prop := ∃ i, i + m ≤ w.length ∧ ∀ j, j < m → w.getD (i + j) 0 = c
theorem splN_run {w : List UInt8} : ∀ (k j : Nat), (j : Int) < (splN w (k + 1)).2 → j ≤ k ∧ w.getD (k - j) 0 = w.getD k 0 := by
  intro k
  induction k with
  | zero =>
    intro j hj
    have hr := splN_row (w := w) (0 + 1)
    have : j = 0 := by
      have := hr.2
      omega
    subst this
    exact ⟨Nat.le_refl _, rfl⟩
  | succ k ih =>
    intro j hj
    cases j with
    | zero => exact ⟨Nat.zero_le _, rfl⟩
    | succ j =>
      have e : splN w (k + 1 + 1) = nextX (splN w (k + 1)) (w.getD (k + 1) 0) := rfl
      rw [e] at hj
      unfold nextX at hj
      split at hj
      · dsimp only at hj
        omega
      · rename_i h
        have h := Classical.not_not.1 h
        rw [splN_letter] at h
        dsimp only at hj
        obtain ⟨h1, h2⟩ := ih j (by omega)
        exact ⟨by omega, by rw [show k + 1 - (j + 1) = k - j by omega, h2, h]⟩
theorem run_splN {w : List UInt8} {c : UInt8} : ∀ (m k : Nat), (∀ j, j ≤ m → w.getD (k + j) 0 = c) → (m : Int) + 1 ≤ (splN w (k + m + 1)).2 := by
  intro m
  induction m with
  | zero =>
    intro k _
    have e : splN w (k + 0 + 1) = nextX (splN w k) (w.getD k 0) := rfl
    have := (splN_row (w := w) k).1
    rw [e]
    unfold nextX
    split <;> dsimp only <;> omega
  | succ m ih =>
    intro k h
    have h1 := ih k fun j hj => h j (by omega)
    have e : splN w (k + (m + 1) + 1) = nextX (splN w (k + m + 1)) (w.getD (k + m + 1) 0) := rfl
    have e1 : (splN w (k + m + 1)).1 = c := by
      rw [splN_letter]
      exact h m (by omega)
    have e2 : w.getD (k + m + 1) 0 = c := h (m + 1) (Nat.le_refl _)
    rw [e, e2]
    unfold nextX
    rw [if_neg (not_not_intro e1)]
    dsimp only
    omega
theorem fall_row {s : SkyR} (g : skyOk s) {w : List UInt8} (hw : ∀ c ∈ w, c = 100 ∨ c = 119) {dr fl : Nat} (hd : s.drought = (dr : Int)) (hf : s.flood = (fl : Int)) : fallX s (0, 0) w = true ↔ ¬ rowP w 100 (dr + 1) ∧ ¬ rowP w 119 (fl + 1) := by
  have get : ∀ i, i < w.length → w.getD i 0 = 100 ∨ w.getD i 0 = 119 := fun i hi => by
    rw [List.getD_eq_getElem?_getD, List.getElem?_eq_getElem hi]
    exact hw _ (List.getElem_mem hi)
  rw [fallX_all]
  constructor
  · intro h
    have no : ∀ (c : UInt8) (m : Nat), (if c = 119 then s.flood else s.drought) = (m : Int) → ¬ rowP w c (m + 1) := by
      rintro c m hm ⟨i, hi, hr⟩
      have h1 := run_splN (w := w) (c := c) m i fun j hj => hr j (by omega)
      have h2 := h (i + m) (by omega)
      rw [next_row g, decide_eq_true_iff, hr m (by omega), hm] at h2
      omega
    exact ⟨no 100 dr (by rw [if_neg (by decide)]; exact hd), no 119 fl (by rw [if_pos rfl]; exact hf)⟩
  · rintro ⟨h1, h2⟩ i hi
    rw [next_row g, decide_eq_true_iff]
    intro hgt
    have mk : ∀ (c : UInt8) (m : Nat), w.getD i 0 = c → (m : Int) < (splN w (i + 1)).2 → rowP w c (m + 1) := fun c m hc hm => by
      have hle := (splN_run i m hm).1
      refine ⟨i - m, by omega, fun j hj => ?_⟩
      obtain ⟨_, e⟩ := splN_run (w := w) i (m - j) (by omega)
      rw [show i - m + j = i - (m - j) by omega, e, hc]
    rcases get i hi with e | e
    · rw [e, if_neg (by decide), hd] at hgt
      exact h1 (mk 100 dr e hgt)
    · rw [e, if_pos rfl, hf] at hgt
      exact h2 (mk 119 fl e hgt)
theorem growB_pos {s : SkyR} : ∀ {n : Nat} {w : List UInt8} {x : Spl}, 0 < (growB s n w x).length
  | 0, w, x => Nat.zero_lt_one
  | n + 1, w, x => by
    unfold growB
    rw [List.length_append]
    have h1 := growB_pos (s := s) (n := n) (w := w ++ [100]) (x := nextX x 100)
    have h2 := growB_pos (s := s) (n := n) (w := w ++ [119]) (x := nextX x 119)
    by_cases e : nextOk s x 100 = true
    · rw [if_pos e]
      omega
    · have : nextOk s x 119 = true := by
        unfold nextOk at *
        by_cases h : x.1 ≠ 100
        · rw [if_pos h] at e
          exact absurd rfl e
        · have h := Classical.not_not.1 h
          rw [if_pos (by rw [h]; decide)]
      rw [if_pos this]
      omega
theorem filt_get {α : Type} {q : α → Bool} {L : List α} {i : Nat} {u : α} (hu : L[i]? = some u) (hq : q u = true) : (L.filter q)[((L.take i).filter q).length]? = some u := by
  obtain ⟨hi, he⟩ := List.getElem?_eq_some_iff.1 hu
  have e : L = L.take i ++ u :: L.drop (i + 1) := by
    rw [← he, ← List.drop_eq_getElem_cons hi, List.take_append_drop]
  have e2 : L.filter q = (L.take i).filter q ++ u :: (L.drop (i + 1)).filter q := by
    conv => lhs; rw [e]
    rw [List.filter_append, List.filter_cons, if_pos hq]
  rw [e2, List.getElem?_append_right (Nat.le_refl _), Nat.sub_self]
  rfl
section
variable {main : Bool} {J : JT} {H : List AObj} {K : Value → List AObj → Prop} {KV : Value → Prop}
theorem neqStr {a : List UInt8} (hk : KV (.bool false)) : aBin prog .neq 9 (strV a) (strV a) KV := by
  have e : aBin prog .neq 9 (strV a) (strV a) KV = KV (.bool (!((ByteArray.mk ⟨a⟩).toList == (ByteArray.mk ⟨a⟩).toList))) := by kernel_rfl
  rw [e, beq_self_eq_true]
  exact hk
theorem strBlk {v : Value} {L : List (List UInt8)} (hs : Sli H v 1 L.length (strL L)) (h0 : 0 < L.length) : ∃ b cs wr sz, H[b]? = some (.cells cs wr sz) ∧ ∀ {i : Nat} {u : List UInt8} {K2 : Value → Value → Prop}, L[i]? = some u → (∀ o, K2 (ptr b o) (strV u)) → aIdx 1 v (vint (i : Nat)) fun p => aLoad false 1 p H (K2 p) := by
  obtain ⟨base, c, rfl, ⟨hl, hkn⟩, ⟨_, hz⟩ | ⟨b, o, rfl, hz | ⟨cs, wr, sz, hb, hc⟩⟩⟩ := hs
  · omega
  · omega
  · refine ⟨b, cs, wr, sz, hb, fun {i u K2} hx hk => ?_⟩
    have hi := (List.getElem?_eq_some_iff.1 hx).1
    refine idxI ⟨by omega, by omega⟩ (ldI (v := strV u) hb ?_ rfl (hk _))
    have e : (strL L)[i]? = some (strV u) := by unfold strL; rw [List.getElem?_map, hx]; rfl
    rw [← hc, List.getElem?_take_of_lt (by omega), List.getElem?_drop] at e
    rw [Int.toNat_natCast, Nat.mul_one]
    exact e
theorem good40 (hJ : Closed prog main J) {w : List UInt8} {c : UInt8} {m : Nat} (hw : w.length ≤ 1000) (hm : 1 ≤ m ∧ m ≤ 1000) (hK : ∀ z : Bool, (z = true ↔ rowP w c m) → K (.bool z) H) : Good prog J 40 [strV w, .int .u8 c.toNat, vint (m : Nat)] H K := by
  refine g40 hJ fun ok => ?_
  rw [e40]
  refine l40_1 hJ (fun i : Nat => w.length + 1 - i) (fun i F H' => i ≤ w.length + 1 ∧ H' = H ∧ (∀ k, k < i → k + m ≤ w.length → ¬ ∀ j, j < m → w.getD (k + j) 0 = c) ∧ F.ds = [] ∧ F.r 0 = strV w ∧ F.r 1 = .int .u8 c.toNat ∧ F.r 2 = vint (m : Nat) ∧ F.r 7 = vint (i : Nat)) ?_ (s := 0)
    (.inl ⟨Nat.zero_le _, rfl, fun k hk => absurd hk (Nat.not_lt_zero _), rfl, rfl, rfl, rfl, rfl⟩)
  rintro i F H' ⟨hi, rfl, hno, ds, r0, r1, r2, r7⟩ okc hnc
  rw [s40_1, r0, r2, r7, ds]
  refine addI (by omega) (lenStrI (leqI (cndI (fun hle => ?_) fun hgt => ?_)))
  · refine l40_2 hJ (fun n : Nat => m - n) (fun n F H2 => n ≤ m ∧ H2 = H' ∧ (∀ j, j < n → w.getD (i + j) 0 = c) ∧ F.ds = [] ∧ F.r 0 = strV w ∧ F.r 1 = .int .u8 c.toNat ∧ F.r 2 = vint (m : Nat) ∧ F.r 7 = vint (i : Nat) ∧ F.r 8 = vint (n : Nat)) ?_ (s := 0)
      (.inl ⟨Nat.zero_le _, rfl, fun j hj => absurd hj (Nat.not_lt_zero _), ds, r0, r1, r2, r7, rfl⟩)
    clear ds r0 r1 r2 r7
    rintro n F H2 ⟨hn, rfl, hyes, ds, r0, r1, r2, r7, r8⟩ okc2 hnc2
    rw [s40_2, r0, r1, r2, r7, r8]
    refine lssI (cndI (fun hlt => ?_) fun hge => hold.2 ?_)
    · refine addI (by omega) ?_
      have e1 : ((i : Nat) : Int) + ((n : Nat) : Int) = ((i + n : Nat) : Int) := by omega
      rw [e1]
      have hb : w[i + n]? = some (w.getD (i + n) 0) := by
        rw [List.getD_eq_getElem?_getD, List.getElem?_eq_getElem (by omega)]
        rfl
      refine byteI hb (eqlU (hold.2 ?_))
      rw [s40_3]
      refine cndI (fun he => ?_) fun he => ?_
      · show aBin prog .add 3 (F.r 8) (vint 1) _
        rw [r8]
        refine addI (by omega) ⟨n + 1, by dsimp only; omega, .inl ⟨by omega, rfl, fun j hj => ?_, ds, r0, r1, r2, r7, by show vint _ = vint _; congr 1⟩⟩
        by_cases e : j = n
        · rw [e]
          exact he
        · exact hyes j (by omega)
      · show aBin prog .eql 3 (F.r 8) (F.r 2) _
        rw [r8, r2]
        refine eqlI (cndI (fun h => absurd h (by omega)) fun _ => ?_)
        show aBin prog .add 3 (F.r 7) (vint 1) _
        rw [r7]
        refine addI (by omega) ⟨i + 1, by dsimp only; omega, .inl ⟨by omega, rfl, fun k hk hkm => ?_, ds, r0, r1, r2, by show vint _ = vint _; congr 1⟩⟩
        by_cases e : k = i
        · rw [e]
          exact fun h => he (h n (by omega))
        · exact hno k (by omega) hkm
    · rw [s40_3]
      refine cnd_false.2 ?_
      show aBin prog .eql 3 (F.r 8) (F.r 2) _
      rw [r8, r2]
      refine eqlI (cndI (fun _ => ?_) fun h => absurd (by omega) h)
      show retL _ K F.ds [.bool true] _
      rw [ds]
      exact retL_same (by simp [unk]) (hK true ⟨fun _ => ⟨i, by omega, fun j hj => hyes j (by omega)⟩, fun _ => rfl⟩)
  · refine retL_same (by simp [unk]) (hK false ⟨fun h => (by cases h), ?_⟩)
    rintro ⟨k, hk, hr⟩
    exact absurd hr (hno k (by omega) hk)
end
section
variable {W0 : World} {Post : Value → World → Prop} {h : List AObj} {K : Value → List AObj → Prop}
set_option maxHeartbeats 1000000 in
theorem walk7 {nv : Value} {ns : List Int} (sn : Sli h nv 1 ns.length (ns.map vint)) (hln : ns.length < 4611686018427387904) (hK : ∀ H', K (.bool true) H') :
    W prog (J2 prog W0 Post) 74 h.length 7 (codeOf f7) (RG.mk (regs [nv]) []) h (RetQ prog [.tmp 2] h.length K) := by
  have hJ := J2.closed prog W0 Post
  rw [e7]
  refine newX hJ sn hln fun H1 a1 => good25 hJ a1 (by omega) (by decide) fun s H3 gs hs7 S3 a3 => ?_
  obtain ⟨g1, g2, g3⟩ := id gs
  have l3 := hxLt a3
  refine qAl fun H4 p4 e4 S4 c4 l4 => qStA (c := s.cells) c4 rfl rfl rfl fun H5 S5 c5 l5 => ?_
  have b4 := lt_of_get c5
  refine load_part (c := s.cells) c5 (by simp [SkyR.cells]) rfl rfl ?_
  have z : skyE s = 0 := by unfold skyE; rw [if_pos gs]
  refine good34 hJ (fun h => absurd z h) fun _ H6 va S6 sa => ext0 (ext1 (neqI (cndI (fun h => absurd rfl h) fun _ => ?_)))
  obtain ⟨n, hn⟩ := Int.eq_ofNat_of_zero_le (by omega : 0 ≤ s.days)
  obtain ⟨dr, hdr⟩ := Int.eq_ofNat_of_zero_le (by omega : 0 ≤ s.drought)
  obtain ⟨fl, hfl⟩ := Int.eq_ofNat_of_zero_le (by omega : 0 ≤ s.flood)
  refine offI (ldI (v := vint s.days) (S6.get c5 (by simp)) rfl rfl ?_)
  rw [hn]
  refine good39 hJ n (by omega) fun H7 vb ob S7 O7 hob => ?_
  have sb := ownX_sli O7
  have sa' := S7.sli sa (by simp)
  have cp := (S6.trans S7).get c5 (by simp)
  have hr : rainsB s = (strsB n).filter (fallX s (0, 0)) := by
    rw [rainsB_strs, show s.days.toNat = n by omega]
  have hpos : 0 < (rainsB s).length := growB_pos
  have hfew3 := rainsB_few gs
  have hfew := strsB_few (n := n)
  have hfew2 : 2 ^ n ≤ 2 ^ 8 := Nat.pow_le_pow_right (by decide) (by omega)
  have hlen : (strsB n).length ≤ 256 := by omega
  refine l7_1 hJ (fun i : Nat => (strsB n).length - i) (fun i F H' => i ≤ (strsB n).length ∧ H' = H7 ∧ F.ds = [] ∧ F.r 3 = ptr p4 0 ∧ F.r 4 = va ∧ F.r 6 = vb ∧ F.r 7 = vint ((((strsB n).take i).filter (fallX s (0, 0))).length : Nat) ∧ F.r 8 = vint (i : Nat)) ?_ (s := 0)
    (.inl ⟨Nat.zero_le _, rfl, rfl, rfl, rfl, rfl, rfl, rfl⟩)
  rintro i F H' ⟨hi, rfl, ds, r3, r4, r6, r7, r8⟩ okc hnc
  rw [s7_1, r3, r4, r6, r7, r8, ds]
  refine lenI sb (lssI (cndI (fun hl => ?_) fun hge => ?_))
  · have hl : i < (strsB n).length := by omega
    obtain ⟨b1, cs1, w1, z1, q1, rd⟩ := strBlk sb (by omega)
    have hu : (strsB n)[i]? = some (strsB n)[i] := List.getElem?_eq_getElem hl
    obtain ⟨ul, uc⟩ := strsB_len _ (List.getElem_mem hl)
    generalize (strsB n)[i] = u at hu ul uc
    have hfr := fall_row gs uc hdr hfl
    have tk : ∀ {k : Nat}, (fallX s (0, 0) u = true → k = 1) → (fallX s (0, 0) u = false → k = 0) → (((strsB n).take (i + 1)).filter (fallX s (0, 0))).length = (((strsB n).take i).filter (fallX s (0, 0))).length + k := fun {k} h1 h0 => by
      rw [List.take_add_one, hu, List.filter_append, List.length_append]
      congr 1
      show (List.filter _ [u]).length = k
      rw [List.filter_cons]
      cases e : fallX s (0, 0) u with
      | true => rw [if_pos rfl, h1 e]; rfl
      | false => rw [if_neg (by decide), h0 e]; rfl
    have next : ∀ {F2 : RG} {y : Bool}, (y = false ↔ fallX s (0, 0) u = true) → F2.ds = [] → F2.r 3 = ptr p4 0 → F2.r 4 = va → F2.r 6 = vb → F2.r 7 = vint ((((strsB n).take i).filter (fallX s (0, 0))).length : Nat) → F2.r 8 = vint (i : Nat) → F2.r 45 = .bool y →
        W prog (J2 prog W0 Post) 74 h.length 7 (subC [1, 1, 1, 1, 1, 1, 0, 1, 0, 0, 1, 0, 0, 0, 1] (codeOf f7)) F2 H' (contX pl7 prog (J2 prog W0 Post) 74 h.length 7 ct7 [1, 1, 1, 1, 1, 1, 0, 1, 0, 0, 1, 0, 0, 0, 1] (codeOf f7) [Nx h.length (fun i : Nat => (strsB n).length - i) (fun i F H2 => i ≤ (strsB n).length ∧ H2 = H' ∧ F.ds = [] ∧ F.r 3 = ptr p4 0 ∧ F.r 4 = va ∧ F.r 6 = vb ∧ F.r 7 = vint ((((strsB n).take i).filter (fallX s (0, 0))).length : Nat) ∧ F.r 8 = vint (i : Nat)) i] (RetQ prog [.tmp 2] h.length K)) := by
      intro F2 y hy ds2 q3 q4 q6 q7 q8 q45
      rw [s7_2, q4, q6, q7, q8, q45]
      refine cndB (fun hy1 => ?_) fun hy0 => ?_
      · have hf : fallX s (0, 0) u = false := by
          cases e : fallX s (0, 0) u with
          | false => rfl
          | true => rw [hy.2 e] at hy1; cases hy1
        have := tk (k := 0) (fun h => by rw [hf] at h; cases h) fun _ => rfl
        exact addI (by omega) ⟨i + 1, by dsimp only; omega, .inl ⟨by omega, rfl, ds2, q3, q4, q6, by rw [this]; exact q7, by show vint _ = vint _; congr 1⟩⟩
      · have hf := hy.1 hy0
        have hg := filt_get hu hf
        rw [← hr] at hg
        have hlt := (List.getElem?_eq_some_iff.1 hg).1
        have := tk (k := 1) (fun _ => rfl) fun h => by rw [hf] at h; cases h
        refine lenI sa' (geqI (cndI (fun h => absurd h (by omega)) fun _ => ?_))
        refine strGet rfl sa' hg fun pa => strGet rfl sb hu fun pb => neqStr (hold.2 ?_)
        rw [s7_3]
        refine cnd_false.2 ?_
        show aBin prog .add 3 (F2.r 7) (vint 1) _
        rw [q7]
        refine addI (by omega) ?_
        show aBin prog .add 3 (F2.r 8) (vint 1) _
        rw [q8]
        exact addI (by omega) ⟨i + 1, by dsimp only; omega, .inl ⟨by omega, rfl, ds2, q3, q4, q6, by rw [this]; show vint _ = vint _; congr 1, by show vint _ = vint _; congr 1⟩⟩
    have e100 : (Value.int .u8 100) = .int .u8 (100 : UInt8).toNat := rfl
    have e119 : (Value.int .u8 119) = .int .u8 (119 : UInt8).toNat := rfl
    refine ⟨[b1, p4], rd hu fun o1 => ⟨by simp [RdOk, ptrBlk], offI (ldI (v := vint s.drought) cp rfl rfl ⟨by simp [RdOk, ptrBlk], addI (by omega) ?_⟩)⟩⟩
    have ed : s.drought + 1 = ((dr + 1 : Nat) : Int) := by omega
    have ef : s.flood + 1 = ((fl + 1 : Nat) : Int) := by omega
    rw [ed, e100]
    refine good40 hJ (by omega) (by omega) fun y1 h1 => ⟨fun b hb => rfl, cndB (fun hy => hold.2 (next (y := true) ⟨fun h => (by cases h), fun h => absurd (h1.1 hy) (hfr.1 h).1⟩ ds r3 r4 r6 r7 r8 rfl)) fun hy => ?_⟩
    refine rd hu fun o2 => ⟨by simp [RdOk, ptrBlk], offI (ldI (v := vint s.flood) cp rfl rfl ⟨by simp [RdOk, ptrBlk], addI (by omega) ?_⟩)⟩
    rw [ef, e119]
    refine good40 hJ (by omega) (by omega) fun y2 h2 => ⟨fun b hb => rfl, hold.2 (next (y := y2) ?_ ds r3 r4 r6 r7 r8 rfl)⟩
    rw [hfr]
    constructor
    · intro h
      exact ⟨fun x => (by rw [h1.2 x] at hy; cases hy), fun x => (by rw [h2.2 x] at h; cases h)⟩
    · intro h
      cases y2 with
      | false => rfl
      | true => exact absurd (h2.1 rfl) h.2
  · have : i = (strsB n).length := by omega
    subst this
    rw [List.take_of_length_le (Nat.le_refl _), ← hr]
    exact lenI sa' (eqlI (cndI (fun _ => gtrI (cndI (fun _ => good21 fun H13 _ => retL_same (by simp [unk]) (hK H13)) fun h => absurd (by omega) h)) fun h => absurd rfl h))
end
end Go.Proofs.Ythnccaajpdnndaa
namespace Go.Proofs.Ythnccaajpdnndaa
open Go.Conc Go.ChangeShapes Go.WideShapes Go.ChangeAt Go.RowKit Go.Proofs.Try
set_option maxRecDepth 100000
theorem lifted7 (os : Os) (started : os.Started) (H : Type) (enc : TypeId × Value → H) :
    ReturnsInLeavingWide {} checked os 7 .any (Rows.grassAllSpec.pre6 enc prog f7 Rows.grassAllRow.domain false) (Rows.grassAllSpec.post enc prog f7 false true false false) := by
  refine returnsInLeavingWide_of_change_sized (C := checked) own started at7
    (ChangeSpec.witness6 (enc := enc) (C := checked) false ⟨#[], #[.slice none 0 0], []⟩ 8 (by kernel_rfl) (by kernel_rfl) (by kernel_rfl) (by kernel_rfl)) ?_
  intro W base args ds gs before hval0 hW _ hsz0 _
  have hsz : (DataW.weightsEach prog (f7.params.toList ++ Rows.grassAllSpec.plain.varTypes prog) (ds ++ gs)).all (· ≤ reachBytes) = true := hsz0
  clear hsz0
  have hval : ∀ (j : Nat) t v, f7.params[j]? = some t → args[j]? = some v → Value.okWide prog W .any base t v := hval0
  have hW' := hW
  obtain ⟨p, q, hA0, hV, rfl, _, _⟩ := hW
  have hA : DataW.TrodAll enc prog W 0 (fun _ => true) true f7.params.toList args.toList ds p := hA0
  have hps : f7.params = #[25] := by kernel_rfl
  rw [hps] at hA hval hsz
  obtain ⟨v0, d0, rfl, rfl, h0⟩ := trodAll_one hA
  obtain ⟨rfl, rfl⟩ := trodVars_none hV
  have u3 : prog.underlying 3 = some (.int .i64) := by kernel_rfl
  have u27 : prog.underlying 25 = some (.slice 3) := by kernel_rfl
  have u4 : prog.underlying 4 = some .bool := by kernel_rfl
  have c3 : prog.cellsOf 3 = 1 := by kernel_rfl
  have b3 : prog.bytesOf 3 = 8 := by kernel_rfl
  have hlt : ∀ x ∈ p, x.block < W.heap.size := fun x hx => by simpa using hW'.lt x (by simpa using hx)
  have hargs : ∀ (W' : World), Below W.heap.size W W' → DataW.TrodAll enc prog W' 0 (fun b => decide (b < W.heap.size)) true [25] [v0] [d0] p := fun W' hn =>
    trodAll_mk1 (Below.trod laidOut (by kernel_rfl) (of_decide_eq_true (by kernel_rfl)) h0 hn hlt)
  obtain ⟨ns, sn, ok2, hbig⟩ := arg_ints u27 u3 c3 (hval 0 25 v0 rfl rfl) h0
  have hln : ns.length < 4611686018427387904 := by
    rcases hbig with rfl | ⟨es, sp, rfl, hle⟩
    · simp
    · have := sized_slice hsz (j := 0) (t := 25) (e := 3) rfl rfl u27
      rw [b3] at this
      simp only [reachBytes] at this
      omega
  obtain ⟨M, last, o, w', t', r1, r2, r3, r4⟩ := law_run2 (g := 7) (fn := f7) at7 body7 (by kernel_rfl) W [v0] (Nat.le_of_ble_eq_true (by kernel_rfl : Nat.ble 1 f7.ntmps = true))
    (by
      intro v hv
      simp only [List.mem_cons, List.not_mem_nil, or_false] at hv
      subst hv
      exact ok2)
    (fun Post => walk7 (K := fun v _ => v = .bool true) sn hln fun _ => rfl)
  refine ⟨M, last, o, w', t', r1, r2, r3, r4.mono fun v hF => ?_⟩
  obtain ⟨rfl, hbelow⟩ := hF
  refine ⟨_, _, _, [], _, [], hW', ?_, hargs _ hbelow, by rfl, hbelow.frame _, fun h => by cases h⟩
  exact trodAll_mk1 (shut_bool u4 true)
theorem grassAll_holds : Rows.GrassAllSaid :=
  OpenClaim.holds_of_wide_leaving 7 f7 rfl rfl rfl rfl rfl rfl rfl ⟨rfl, rfl, rfl, rfl, rfl⟩ rfl rfl rfl rfl rfl (by kernel_rfl) at7 (by kernel_rfl)
    (of_decide_eq_true (by kernel_rfl)) (by unfold Func.isWrapper; first | (rw [if_pos (by decide +kernel)]; kernel_rfl) | (rw [if_neg (by decide +kernel)]; exact ⟨rfl, rfl⟩))
    (fun os started H enc _ => lifted7 os started H enc)
#print axioms grassAll_holds
end Go.Proofs.Ythnccaajpdnndaa
