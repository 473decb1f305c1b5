/- GrassRains answers true at every input, and its arguments read behind the call as they read before. No conditions. -/
import Derived.Test.YthnccaajpdnndaaK3
import Derived.Test.YthnccaajpdnndaaK2
import Derived.Test.YthnccaajpdnndaaK6
import Derived.Test.YthnccaajpdnndaaK5
import Derived.Deep.Slices
namespace Go.Proofs.Ythnccaajpdnndaa
open Go.Conc Go.Proofs.Try
set_option maxRecDepth 100000
set_option maxHeartbeats 4000000
set_option linter.unusedVariables false
section
variable {main : Bool} {J : JT} {n0 : Nat} {h : List AObj} {K : Value → List AObj → Prop}
theorem at35 : prog.funcs[35]? = some f35 := by kernel_rfl
theorem body35 : f35.body = some (codeOf f35) := by kernel_rfl
def pl35 : Plans := []
def ct35 : Cuts := .go
theorem pok35 : plansOk prog pl35 (codeOf f35) = true := by kernel_rfl
theorem e35 {a0 : Value} : W prog J 12 h.length 35 (codeOf f35) (RG.mk (regs [a0]) []) h (RetQ prog [.tmp 2, .tmp 3] h.length K) =
(aBox a0 h fun v1 h2 =>
 aLoad true 3 v1 h2 fun v3 =>
 Good prog J 81 [v3] h2 fun v4 h5 =>
 aBin prog .neq 37 v4 (vint 0) fun v6 =>
 cnd v6
(retL h.length K [] [(Value.slice none 0 0), v4] h5)
(aLoad true 3 v1 h5 fun v7 =>
 Good prog J 91 [v7] h5 fun v8 h9 =>
 retL h.length K [] [v8, (vint 0)] h9)) := top_eq pok35 ct35 (by kernel_rfl)
theorem g35 (hJ : Closed prog main J) {a0 : Value} (hs : heapOk h → W prog J 12 h.length 35 (codeOf f35) (RG.mk (regs [a0]) []) h (RetQ prog [.tmp 2, .tmp 3] h.length K)) : Good prog J 35 [a0] h K :=
  good_of_W hJ mixed at35 body35 (by kernel_rfl) (Nat.le_of_ble_eq_true rfl) hs
theorem at38 : prog.funcs[38]? = some f38 := by kernel_rfl
theorem body38 : f38.body = some (codeOf f38) := by kernel_rfl
def pl38 : Plans := [(6, true, .take 0 (.take 1 (.take 2 (.take 3 (.take 4 (.take 5 (.take 6 (.take 7 (.take 8 (.fin))))))))))]
def ct38 : Cuts := .go
theorem pok38 : plansOk prog pl38 (codeOf f38) = true := by kernel_rfl
theorem e38 {a0 a1 : Value} : W prog J 26 h.length 38 (codeOf f38) (RG.mk (regs [a0, a1]) []) h (RetQ prog [.tmp 4] h.length K) =
(aLenS a0 fun v1 =>
 aLenS a1 fun v2 =>
 aBin prog .neq 3 v1 v2 fun v3 =>
 cnd v3
(retL h.length K [] [(Value.bool false)] h)
(Sem J 26 h.length 38 (subC [1, 1, 0, 1, 0] (codeOf f38)) (RG.p (RG.p (RG.p (RG.p (RG.p (RG.p (RG.p (RG.mk (regs [a0, a1]) []) 4 (Value.bool false)) 6 a0) 7 v1) 8 a1) 9 v2) 10 v3) 5 (vint 0)) h (contX pl38 prog J 26 h.length 38 ct38 [1, 1, 0, 1, 0] (codeOf f38) [] (RetQ prog [.tmp 4] h.length K)))) := top_eq pok38 ct38 (by kernel_rfl)
theorem g38 (hJ : Closed prog main J) {a0 a1 : Value} (hs : heapOk h → W prog J 26 h.length 38 (codeOf f38) (RG.mk (regs [a0, a1]) []) h (RetQ prog [.tmp 4] h.length K)) : Good prog J 38 [a0, a1] h K :=
  good_of_W hJ mixed at38 body38 (by kernel_rfl) (Nat.le_of_ble_eq_true rfl) hs
theorem s38_1 {f : RG} {nx0 : RG → List AObj → Prop} : W prog J 26 n0 38 (subC [1, 1, 0, 1, 0, 0] (codeOf f38)) f h (thenK nx0 (contX pl38 prog J 26 n0 38 ct38 [1, 1, 0, 1, 0] (codeOf f38) [] (RetQ prog [.tmp 4] n0 K))) =
(aLenS (f.r 0) fun v1 =>
 aBin prog .lss 3 (f.r 5) v1 fun v2 =>
 cnd v2
(aIdx 1 (f.r 0) (f.r 5) fun v3 =>
 aLoad false 1 v3 h fun v4 =>
 aIdx 1 (f.r 1) (f.r 5) fun v5 =>
 aLoad false 1 v5 h fun v6 =>
 aBin prog .neq 9 v4 v6 fun v7 =>
 cnd v7
(retL n0 K f.ds [(Value.bool false)] h)
(aBin prog .add 3 (f.r 5) (vint 1) fun v8 =>
 nx0 (RG.p (RG.p (RG.p (RG.p (RG.p (RG.p (RG.p (RG.p (RG.p (RG.p (RG.p (RG.p (RG.p (RG.p (RG.p (RG.p f 11 (f.r 5)) 12 (f.r 0)) 13 v1) 14 v2) 17 (f.r 0)) 18 (f.r 5)) 19 v3) 20 v4) 21 (f.r 1)) 22 (f.r 5)) 23 v5) 24 v6) 25 v7) 15 (f.r 5)) 16 v8) 5 v8) h))
(retL n0 K f.ds [(Value.bool true)] h)) := sub_eq pok38 ct38 (by kernel_rfl)
theorem l38_1 (hJ : Closed prog main J) {S : Type} (μ : S → Nat) (I : S → RG → List AObj → Prop) (hI : ∀ s f h, I s f h → heapOk h → n0 ≤ h.length → W prog J 26 n0 38 (subC [1, 1, 0, 1, 0, 0] (codeOf f38)) f h (thenK (Nx n0 μ I s) (contX pl38 prog J 26 n0 38 ct38 [1, 1, 0, 1, 0] (codeOf f38) [] (RetQ prog [.tmp 4] n0 K))))
  {s : S} {f : RG} (hi : Gets n0 I s f h) : Sem J 26 n0 38 (subC [1, 1, 0, 1, 0] (codeOf f38)) f h (contX pl38 prog J 26 n0 38 ct38 [1, 1, 0, 1, 0] (codeOf f38) [] (RetQ prog [.tmp 4] n0 K)) :=
  loop_rule hJ mixed (b := subC [1, 1, 0, 1, 0, 0] (codeOf f38)) (by kernel_rfl) μ I hI hi
theorem at6 : prog.funcs[6]? = some f6 := by kernel_rfl
theorem body6 : f6.body = some (codeOf f6) := by kernel_rfl
def pl6 : Plans := [(2, false, .take 0 (.take 1 (.take 4 (.take 5 (.last 2 true (.alt 3 true (.last 6 true (.take 8 (.last 7 true (.take 9 (.fin))))) (.last 6 true (.alt 3 true (.take 8 (.last 7 true (.take 9 (.fin)))) (.last 7 true (.last 3 true (.take 8 (.take 9 (.fin))))))))))))),
  (8, false, .take 0 (.take 1 (.take 2 (.take 3 (.take 5 (.take 6 (.take 7 (.take 8 (.last 4 true (.last 9 true (.take 10 (.take 11 (.take 12 (.take 13 (.take 14 (.take 15 (.take 16 (.take 17 (.take 18 (.last 19 true (.take 20 (.take 21 (.fin)))))))))))))))))))))))]
def ct6 : Cuts := .bin (.go) (.bin (.go) (.bin (.go) (.cut (.bin (.bin (.go) (.un (.un (.bin (.go) (.bin (.un (.bin (.go) (.bin (.go) (.bin (.go) (.cut (.go)))))) (.go)))))) (.go)))))
theorem pok6 : plansOk prog pl6 (codeOf f6) = true := by kernel_rfl
theorem e6 {a0 a1 a2 : Value} : W prog J 70 h.length 6 (codeOf f6) (RG.mk (regs [a0, a1, a2]) []) h (RetQ prog [.tmp 6] h.length K) =
(aBox a0 h fun v1 h2 =>
 aBox a1 h2 fun v3 h4 =>
 Good prog J 22 [a2] h4 fun v5 h6 =>
(∃ B, aLoad true 6 v1 h6 fun v7 =>
 RdOk (some B) (ptrBlk v1) ∧ (aLoad true 3 v3 h6 fun v8 =>
 RdOk (some B) (ptrBlk v3) ∧ (Good prog J 24 [v5] h6 fun v9 h10 =>
 SameB (some B) h6 h10 ∧ (((((2 * 6 : Nat) ≤ 16777216 ∧ (2 : Nat) ≤ 16777216 ∧ List.length [(vint 0), (vint 0), (vint 0), (vint 0), (vint 0), (vint 0)] = 6) ∧ aFill (zrep [(vint 0), (vint 0), (vint 0), (vint 0), (vint 0), (vint 0)] 2) [(0, 6, v7), (6, 6, v9)] fun c11 =>
 aNewS 2 c11 h10 fun v12 h13 =>
 SameB (some B) h6 h13 ∧ (Good prog J 25 [v5, (vint 8)] h13 fun v14 h15 =>
 SameB (some B) h6 h15 ∧ ((((2 * 3 : Nat) ≤ 16777216 ∧ (2 : Nat) ≤ 16777216 ∧ List.length [(vint 0), (vint 0), (vint 0)] = 3) ∧ aFill (zrep [(vint 0), (vint 0), (vint 0)] 2) [(0, 3, v8), (3, 3, v14)] fun c16 =>
 aNewS 2 c16 h15 fun v17 h18 =>
 SameB (some B) h6 h18 ∧ (Hold (W prog J 70 h.length 6 (subC [1, 1, 1] (codeOf f6)) (RG.p (RG.p (RG.p (RG.p (RG.p (RG.p (RG.p (RG.p (RG.p (RG.p (RG.p (RG.p (RG.p (RG.p (RG.p (RG.p (RG.mk (regs [a0, a1, a2]) []) 3 v1) 4 v3) 6 (Value.bool false)) 15 a2) 16 v5) 7 v5) 17 v7) 18 v5) 21 v8) 22 v5) 19 v9) 20 v12) 23 v14) 8 v12) 24 v17) 9 v17) h18 (contX pl6 prog J 70 h.length 6 ct6 [1, 1, 1] (codeOf f6) [] (RetQ prog [.tmp 6] h.length K))))))))) ∧ (Good prog J 25 [v5, (vint 8)] h10 fun v19 h20 =>
 SameB (some B) h6 h20 ∧ (((((2 * 6 : Nat) ≤ 16777216 ∧ (2 : Nat) ≤ 16777216 ∧ List.length [(vint 0), (vint 0), (vint 0), (vint 0), (vint 0), (vint 0)] = 6) ∧ aFill (zrep [(vint 0), (vint 0), (vint 0), (vint 0), (vint 0), (vint 0)] 2) [(0, 6, v7), (6, 6, v9)] fun c21 =>
 aNewS 2 c21 h20 fun v22 h23 =>
 SameB (some B) h6 h23 ∧ ((((2 * 3 : Nat) ≤ 16777216 ∧ (2 : Nat) ≤ 16777216 ∧ List.length [(vint 0), (vint 0), (vint 0)] = 3) ∧ aFill (zrep [(vint 0), (vint 0), (vint 0)] 2) [(0, 3, v8), (3, 3, v19)] fun c24 =>
 aNewS 2 c24 h23 fun v25 h26 =>
 SameB (some B) h6 h26 ∧ (Hold (W prog J 70 h.length 6 (subC [1, 1, 1] (codeOf f6)) (RG.p (RG.p (RG.p (RG.p (RG.p (RG.p (RG.p (RG.p (RG.p (RG.p (RG.p (RG.p (RG.p (RG.p (RG.p (RG.p (RG.mk (regs [a0, a1, a2]) []) 3 v1) 4 v3) 6 (Value.bool false)) 15 a2) 16 v5) 7 v5) 17 v7) 18 v5) 21 v8) 22 v5) 19 v9) 23 v19) 20 v22) 8 v22) 24 v25) 9 v25) h26 (contX pl6 prog J 70 h.length 6 ct6 [1, 1, 1] (codeOf f6) [] (RetQ prog [.tmp 6] h.length K)))))))) ∧ ((((2 * 3 : Nat) ≤ 16777216 ∧ (2 : Nat) ≤ 16777216 ∧ List.length [(vint 0), (vint 0), (vint 0)] = 3) ∧ aFill (zrep [(vint 0), (vint 0), (vint 0)] 2) [(0, 3, v8), (3, 3, v19)] fun c27 =>
 aNewS 2 c27 h20 fun v28 h29 =>
 SameB (some B) h6 h29 ∧ ((((2 * 6 : Nat) ≤ 16777216 ∧ (2 : Nat) ≤ 16777216 ∧ List.length [(vint 0), (vint 0), (vint 0), (vint 0), (vint 0), (vint 0)] = 6) ∧ aFill (zrep [(vint 0), (vint 0), (vint 0), (vint 0), (vint 0), (vint 0)] 2) [(0, 6, v7), (6, 6, v9)] fun c30 =>
 aNewS 2 c30 h29 fun v31 h32 =>
 SameB (some B) h6 h32 ∧ (Hold (W prog J 70 h.length 6 (subC [1, 1, 1] (codeOf f6)) (RG.p (RG.p (RG.p (RG.p (RG.p (RG.p (RG.p (RG.p (RG.p (RG.p (RG.p (RG.p (RG.p (RG.p (RG.p (RG.p (RG.mk (regs [a0, a1, a2]) []) 3 v1) 4 v3) 6 (Value.bool false)) 15 a2) 16 v5) 7 v5) 17 v7) 18 v5) 21 v8) 22 v5) 19 v9) 23 v19) 24 v28) 20 v31) 8 v31) 9 v28) h32 (contX pl6 prog J 70 h.length 6 ct6 [1, 1, 1] (codeOf f6) [] (RetQ prog [.tmp 6] h.length K))))))))))))))) := top_eq pok6 ct6 (by kernel_rfl)
theorem g6 (hJ : Closed prog main J) {a0 a1 a2 : Value} (hs : heapOk h → W prog J 70 h.length 6 (codeOf f6) (RG.mk (regs [a0, a1, a2]) []) h (RetQ prog [.tmp 6] h.length K)) : Good prog J 6 [a0, a1, a2] h K :=
  good_of_W hJ mixed at6 body6 (by kernel_rfl) (Nat.le_of_ble_eq_true rfl) hs
theorem s6_1 {f : RG} : W prog J 70 n0 6 (subC [1, 1, 1] (codeOf f6)) f h (contX pl6 prog J 70 n0 6 ct6 [1, 1, 1] (codeOf f6) [] (RetQ prog [.tmp 6] n0 K)) =
(Sem J 70 n0 6 (subC [1, 1, 1, 0, 1, 0] (codeOf f6)) (RG.p f 10 (vint 0)) h (contX pl6 prog J 70 n0 6 ct6 [1, 1, 1, 0, 1, 0] (codeOf f6) [] (RetQ prog [.tmp 6] n0 K))) := sub_eq pok6 ct6 (by kernel_rfl)
theorem s6_2 {f : RG} {nx0 : RG → List AObj → Prop} : W prog J 70 n0 6 (subC [1, 1, 1, 0, 1, 0, 0] (codeOf f6)) f h (thenK nx0 (contX pl6 prog J 70 n0 6 ct6 [1, 1, 1, 0, 1, 0] (codeOf f6) [] (RetQ prog [.tmp 6] n0 K))) =
(aLenS (f.r 8) fun v1 =>
 aBin prog .lss 3 (f.r 10) v1 fun v2 =>
 cnd v2
(aIdx 3 (f.r 9) (f.r 10) fun v3 =>
 aLoad true 3 v3 h fun v4 =>
 Good prog J 34 [v4] h fun v5 h6 =>
 aExt v5 0 fun v7 =>
 aExt v5 1 fun v8 =>
 aIdx 3 (f.r 9) (f.r 10) fun v9 =>
 aLoad true 3 v9 h6 fun v10 =>
 Good prog J 35 [v10] h6 fun v11 h12 =>
 aExt v11 0 fun v13 =>
 aExt v11 1 fun v14 =>
(∃ B, aIdx 6 (f.r 8) (f.r 10) fun v15 =>
 aLoad true 6 v15 h12 fun v16 =>
 RdOk (some B) (ptrBlk v15) ∧ (aIdx 6 (f.r 8) (f.r 10) fun v17 =>
 aLoad true 6 v17 h12 fun v18 =>
 RdOk (some B) (ptrBlk v17) ∧ (Good prog J 36 [v16] h12 fun v19 h20 =>
 SameB (some B) h12 h20 ∧ (Good prog J 37 [v18] h20 fun v21 h22 =>
 SameB (some B) h12 h22 ∧ (aBin prog .neq 37 v19 v21 fun v23 =>
 cnd v23
(Hold (W prog J 70 n0 6 (subC [1, 1, 1, 0, 1, 0, 0, 1, 0, 0, 1, 1, 1] (codeOf f6)) (RG.p (RG.p (RG.p (RG.p (RG.p (RG.p (RG.p (RG.p (RG.p (RG.p (RG.p (RG.p (RG.p (RG.p (RG.p (RG.p (RG.p (RG.p (RG.p (RG.p (RG.p (RG.p (RG.p (RG.p (RG.p (RG.p (RG.p (RG.p (RG.p (RG.p (RG.p (RG.p (RG.p (RG.p (RG.p (RG.p (RG.p (RG.p (RG.p (RG.p (RG.p (RG.p (RG.p (RG.p (RG.p (RG.p (RG.p (RG.p f 25 (f.r 10)) 26 (f.r 8)) 27 v1) 28 v2) 32 (f.r 9)) 33 (f.r 10)) 34 v3) 35 v4) 36 v5) 31 v5) 37 v7) 38 v8) 11 v7) 12 v8) 40 (f.r 9)) 41 (f.r 10)) 42 v9) 43 v10) 44 v11) 39 v11) 45 v13) 46 v14) 13 v13) 14 v14) 47 (f.r 8)) 48 (f.r 10)) 49 v15) 50 v16) 52 (f.r 8)) 53 (f.r 10)) 54 v17) 55 v18) 51 v19) 56 v21) 57 v23) 58 v23) 58 (Value.bool true)) 59 undef) 60 undef) 61 undef) 62 (Value.bool true)) 63 (Value.bool true)) 63 (Value.bool true)) 64 undef) 65 undef) 66 undef) 67 undef) 68 (Value.bool true)) h22 (contX pl6 prog J 70 n0 6 ct6 [1, 1, 1, 0, 1, 0, 0, 1, 0, 0, 1, 1, 1] (codeOf f6) [nx0] (RetQ prog [.tmp 6] n0 K))))
(aBin prog .neq 37 v8 v14 fun v24 =>
 cnd v24
(Hold (W prog J 70 n0 6 (subC [1, 1, 1, 0, 1, 0, 0, 1, 0, 0, 1, 1, 1] (codeOf f6)) (RG.p (RG.p (RG.p (RG.p (RG.p (RG.p (RG.p (RG.p (RG.p (RG.p (RG.p (RG.p (RG.p (RG.p (RG.p (RG.p (RG.p (RG.p (RG.p (RG.p (RG.p (RG.p (RG.p (RG.p (RG.p (RG.p (RG.p (RG.p (RG.p (RG.p (RG.p (RG.p (RG.p (RG.p (RG.p (RG.p (RG.p (RG.p (RG.p (RG.p (RG.p (RG.p (RG.p (RG.p (RG.p (RG.p (RG.p (RG.p f 25 (f.r 10)) 26 (f.r 8)) 27 v1) 28 v2) 32 (f.r 9)) 33 (f.r 10)) 34 v3) 35 v4) 36 v5) 31 v5) 37 v7) 38 v8) 11 v7) 12 v8) 40 (f.r 9)) 41 (f.r 10)) 42 v9) 43 v10) 44 v11) 39 v11) 45 v13) 46 v14) 13 v13) 14 v14) 47 (f.r 8)) 48 (f.r 10)) 49 v15) 50 v16) 52 (f.r 8)) 53 (f.r 10)) 54 v17) 55 v18) 51 v19) 56 v21) 57 v23) 58 v23) 58 (Value.bool false)) 59 v8) 60 v14) 61 v24) 62 v24) 63 v24) 63 (Value.bool true)) 64 undef) 65 undef) 66 undef) 67 undef) 68 (Value.bool true)) h22 (contX pl6 prog J 70 n0 6 ct6 [1, 1, 1, 0, 1, 0, 0, 1, 0, 0, 1, 1, 1] (codeOf f6) [nx0] (RetQ prog [.tmp 6] n0 K))))
(Good prog J 38 [v7, v13] h22 fun v25 h26 =>
 SameB (some B) h12 h26 ∧ (aUn .not v25 fun v27 =>
 Hold (W prog J 70 n0 6 (subC [1, 1, 1, 0, 1, 0, 0, 1, 0, 0, 1, 1, 1] (codeOf f6)) (RG.p (RG.p (RG.p (RG.p (RG.p (RG.p (RG.p (RG.p (RG.p (RG.p (RG.p (RG.p (RG.p (RG.p (RG.p (RG.p (RG.p (RG.p (RG.p (RG.p (RG.p (RG.p (RG.p (RG.p (RG.p (RG.p (RG.p (RG.p (RG.p (RG.p (RG.p (RG.p (RG.p (RG.p (RG.p (RG.p (RG.p (RG.p (RG.p (RG.p (RG.p (RG.p (RG.p (RG.p (RG.p (RG.p (RG.p (RG.p f 25 (f.r 10)) 26 (f.r 8)) 27 v1) 28 v2) 32 (f.r 9)) 33 (f.r 10)) 34 v3) 35 v4) 36 v5) 31 v5) 37 v7) 38 v8) 11 v7) 12 v8) 40 (f.r 9)) 41 (f.r 10)) 42 v9) 43 v10) 44 v11) 39 v11) 45 v13) 46 v14) 13 v13) 14 v14) 47 (f.r 8)) 48 (f.r 10)) 49 v15) 50 v16) 52 (f.r 8)) 53 (f.r 10)) 54 v17) 55 v18) 51 v19) 56 v21) 57 v23) 58 v23) 58 (Value.bool false)) 59 v8) 60 v14) 61 v24) 62 v24) 63 v24) 63 (Value.bool false)) 64 v7) 65 v13) 66 v25) 67 v27) 68 v27) h26 (contX pl6 prog J 70 n0 6 ct6 [1, 1, 1, 0, 1, 0, 0, 1, 0, 0, 1, 1, 1] (codeOf f6) [nx0] (RetQ prog [.tmp 6] n0 K))))))))))))
(Good prog J 21 [] h fun v28 h29 =>
 retL n0 K f.ds [v28] h29)) := sub_eq pok6 ct6 (by kernel_rfl)
theorem l6_2 (hJ : Closed prog main J) {S : Type} (μ : S → Nat) (I : S → RG → List AObj → Prop) (hI : ∀ s f h, I s f h → heapOk h → n0 ≤ h.length → W prog J 70 n0 6 (subC [1, 1, 1, 0, 1, 0, 0] (codeOf f6)) f h (thenK (Nx n0 μ I s) (contX pl6 prog J 70 n0 6 ct6 [1, 1, 1, 0, 1, 0] (codeOf f6) [] (RetQ prog [.tmp 6] n0 K))))
  {s : S} {f : RG} (hi : Gets n0 I s f h) : Sem J 70 n0 6 (subC [1, 1, 1, 0, 1, 0] (codeOf f6)) f h (contX pl6 prog J 70 n0 6 ct6 [1, 1, 1, 0, 1, 0] (codeOf f6) [] (RetQ prog [.tmp 6] n0 K)) :=
  loop_rule hJ mixed (b := subC [1, 1, 1, 0, 1, 0, 0] (codeOf f6)) (by kernel_rfl) μ I hI hi
theorem s6_3 {f : RG} {nx0 : RG → List AObj → Prop} : W prog J 70 n0 6 (subC [1, 1, 1, 0, 1, 0, 0, 1, 0, 0, 1, 1, 1] (codeOf f6)) f h (contX pl6 prog J 70 n0 6 ct6 [1, 1, 1, 0, 1, 0, 0, 1, 0, 0, 1, 1, 1] (codeOf f6) [nx0] (RetQ prog [.tmp 6] n0 K)) =
(cnd (f.r 68)
(retL n0 K f.ds [(Value.bool false)] h)
(aBin prog .add 3 (f.r 10) (vint 1) fun v1 =>
 nx0 (RG.p (RG.p (RG.p f 29 (f.r 10)) 30 v1) 10 v1) h)) := sub_eq pok6 ct6 (by kernel_rfl)
end
section
variable {main : Bool} {J : JT} {n0 : Nat} {h : List AObj} {K : Value → List AObj → Prop}
def pl7 : Plans := [(10, false, .take 0 (.take 1 (.take 2 (.take 3 (.take 4 (.take 5 (.take 6 (.last 7 true (.take 8 (.take 9 (.take 10 (.take 11 (.take 12 (.take 13 (.take 14 (.take 15 (.last 16 true (.take 17 (.fin))))))))))))))))))),
  (11, true, .take 0 (.take 1 (.take 2 (.take 3 (.take 4 (.take 5 (.take 6 (.take 7 (.take 8 (.take 9 (.take 10 (.take 11 (.take 12 (.take 13 (.take 14 (.fin))))))))))))))))]
def ct7 : Cuts := .bin (.go) (.bin (.go) (.bin (.go) (.bin (.go) (.bin (.go) (.bin (.go) (.bin (.bin (.go) (.un (.un (.bin (.go) (.bin (.un (.bin (.bin (.go) (.cut (.go))) (.bin (.bin (.go) (.cut (.go))) (.go)))) (.go)))))) (.go)))))))
theorem pok7 : plansOk prog pl7 (codeOf f7) = true := by kernel_rfl
theorem e7 {a0 : Value} : W prog J 74 h.length 7 (codeOf f7) (RG.mk (regs [a0]) []) h (RetQ prog [.tmp 2] h.length K) =
(Good prog J 22 [a0] h fun v1 h2 =>
 Good prog J 25 [v1, (vint 8)] h2 fun v3 h4 =>
 aAlloc [(vint 0), (vint 0), (vint 0)] h4 fun v5 h6 =>
 aStore 3 v5 v3 h6 fun h7 =>
 aLoad true 3 v5 h7 fun v8 =>
 Good prog J 34 [v8] h7 fun v9 h10 =>
 aExt v9 0 fun v11 =>
 aExt v9 1 fun v12 =>
 aBin prog .neq 37 v12 (vint 0) fun v13 =>
 cnd v13
(retL h.length K [] [(Value.bool false)] h10)
(aOff v5 0 fun v14 =>
 aLoad false 1 v14 h10 fun v15 =>
 Good prog J 39 [v15] h10 fun v16 h17 =>
 Sem J 74 h.length 7 (subC [1, 1, 1, 1, 1, 1, 0, 1, 0] (codeOf f7)) (RG.p (RG.p (RG.p (RG.p (RG.p (RG.p (RG.p (RG.p (RG.p (RG.p (RG.p (RG.p (RG.p (RG.p (RG.p (RG.p (RG.p (RG.p (RG.p (RG.p (RG.mk (regs [a0]) []) 2 (Value.bool false)) 9 a0) 10 v1) 11 v3) 3 v5) 13 v8) 14 v9) 12 v9) 15 v11) 16 v12) 4 v11) 5 v12) 17 v12) 18 v13) 19 v14) 20 v15) 21 v16) 6 v16) 7 (vint 0)) 8 (vint 0)) h17 (contX pl7 prog J 74 h.length 7 ct7 [1, 1, 1, 1, 1, 1, 0, 1, 0] (codeOf f7) [] (RetQ prog [.tmp 2] h.length K)))) := top_eq pok7 ct7 (by kernel_rfl)
end
section
variable {main : Bool} {J : JT} {n0 : Nat} {h : List AObj} {K : Value → List AObj → Prop}
theorem at34 : prog.funcs[34]? = some f34 := by kernel_rfl
theorem body34 : f34.body = some (codeOf f34) := by kernel_rfl
def pl34 : Plans := []
def ct34 : Cuts := .go
theorem pok34 : plansOk prog pl34 (codeOf f34) = true := by kernel_rfl
theorem e34 {a0 : Value} : W prog J 20 h.length 34 (codeOf f34) (RG.mk (regs [a0]) []) h (RetQ prog [.tmp 2, .tmp 3] h.length K) =
(aBox a0 h fun v1 h2 =>
 aLoad true 3 v1 h2 fun v3 =>
 Good prog J 72 [v3] h2 fun v4 h5 =>
 aBin prog .neq 37 v4 (vint 0) fun v6 =>
 cnd v6
(retL h.length K [] [(Value.slice none 0 0), v4] h5)
(aAlloc [(Value.slice none 0 0)] h5 fun v7 h8 =>
 aLoad true 3 v1 h8 fun v9 =>
 Good prog J 90 [v9] h8 fun v10 h11 =>
 Sem J 20 h.length 34 (subC [1, 1, 1, 0, 1, 0] (codeOf f34)) (RG.p (RG.p (RG.p (RG.p (RG.p (RG.p (RG.p (RG.p (RG.p (RG.p (RG.p (RG.mk (regs [a0]) []) 1 v1) 2 (Value.slice none 0 0)) 3 (vint 0)) 7 v3) 8 v4) 4 v4) 9 v4) 10 v6) 5 v7) 12 v9) 13 v10) h11 (contX pl34 prog J 20 h.length 34 ct34 [1, 1, 1, 0, 1, 0] (codeOf f34) [] (RetQ prog [.tmp 2, .tmp 3] h.length K)))) := top_eq pok34 ct34 (by kernel_rfl)
theorem g34 (hJ : Closed prog main J) {a0 : Value} (hs : heapOk h → W prog J 20 h.length 34 (codeOf f34) (RG.mk (regs [a0]) []) h (RetQ prog [.tmp 2, .tmp 3] h.length K)) : Good prog J 34 [a0] h K :=
  good_of_W hJ mixed at34 body34 (by kernel_rfl) (Nat.le_of_ble_eq_true rfl) hs
theorem a34_1 {f : RG} {fr : FuncId} {Q : QT} : W prog J 20 n0 fr (subC [1, 1, 1, 0, 1, 0, 0] (codeOf f34)) f h Q =
(Q .normal (RG.p f 6 (f.r 14)) h) := sub_eq pok34 ct34 (by kernel_rfl)
theorem b34_1 {f : RG} {fr : FuncId} {Q : QT} : W prog J 20 n0 fr (subC [1, 1, 1, 0, 1, 0, 1] (codeOf f34)) f h Q =
(aLoad false 1 (f.r 5) h fun v1 =>
(((1 * 1 : Nat) ≤ 16777216 ∧ (1 : Nat) ≤ 16777216 ∧ List.length [(Value.string { data := #[] })] = 1) ∧ aFill (zrep [(Value.string { data := #[] })] 1) [(0, 1, (f.r 6))] fun c2 =>
 aNewS 1 c2 h fun v3 h4 =>
((List.length [(Value.string { data := #[] })] = 1 ∧ 0 < (1 : Nat) ∧ 0 < (16 : Nat) ∧ (16 : Nat) ≤ 1024) ∧ aApp 1 v1 v3 h4 fun v5 h6 =>
 aStore 1 (f.r 5) v5 h6 fun h7 =>
 Q .normal (RG.p (RG.p (RG.p (RG.p f 15 v1) 16 (f.r 6)) 17 v3) 18 v5) h7))) := sub_eq pok34 ct34 (by kernel_rfl)
theorem c34_1 {f : RG} : (contX pl34 prog J 20 n0 34 ct34 [1, 1, 1, 0, 1, 0] (codeOf f34) [] (RetQ prog [.tmp 2, .tmp 3] n0 K)) .normal f h =
(aLoad false 1 (f.r 5) h fun v1 =>
 retL n0 K f.ds [v1, (vint 0)] h) := by kernel_rfl
theorem l34_1 (hJ : Closed prog main J) {f : RG} {g : FuncId} {first cap : List Value} (hx : ev f.r ((Go.Operand.tmp 13)) = .func (.func g) ⟨first⟩ ⟨cap⟩) (hg : g < prog.funcs.size)
  (hs : Good prog J g (first ++ [.func (.yield (h.length + 1)) ⟨[]⟩ ⟨[]⟩] ++ cap) (h ++ [.deferred] ++ [.loop .ready none 34 f.r 20 #[14] (subC [1, 1, 1, 0, 1, 0, 0] (codeOf f34)) (subC [1, 1, 1, 0, 1, 0, 1] (codeOf f34)) h.length]) (endQ h.length f (contX pl34 prog J 20 n0 34 ct34 [1, 1, 1, 0, 1, 0] (codeOf f34) [] (RetQ prog [.tmp 2, .tmp 3] n0 K)))) (hcall : callable prog g = true := by kernel_rfl) : Sem J 20 n0 34 (subC [1, 1, 1, 0, 1, 0] (codeOf f34)) f h (contX pl34 prog J 20 n0 34 ct34 [1, 1, 1, 0, 1, 0] (codeOf f34) [] (RetQ prog [.tmp 2, .tmp 3] n0 K)) :=
  Sem_range hJ (by decide) (fop := (Go.Operand.tmp 13)) (params := #[14]) (assign := subC [1, 1, 1, 0, 1, 0, 0] (codeOf f34)) (body := subC [1, 1, 1, 0, 1, 0, 1] (codeOf f34)) hx hg hs hcall
end
end Go.Proofs.Ythnccaajpdnndaa
namespace Go.Proofs.Ythnccaajpdnndaa
open Go.Conc Go.Proofs.Try
set_option maxRecDepth 100000
section
variable {main : Bool} {J : JT} {h H : List AObj} {K : Value → List AObj → Prop} {KV : Value → Prop} {HL : List AObj → Prop} {n0 : Nat}
theorem ownX_like {H' : List AObj} {s len : Nat} {cs : List Value} {v : Value} {o : Option Nat} (ho : OwnX H s cs len v o) (e : ∀ i, o = some i → H'[i]? = H[i]?) : OwnX H' s cs len v o := by
  obtain ⟨h1, h2, ⟨h0, r⟩ | ⟨b, c, sz, rfl, rfl, hb, hc⟩⟩ := ho
  · exact ⟨h1, h2, .inl ⟨h0, r⟩⟩
  · exact ⟨h1, h2, .inr ⟨b, c, sz, rfl, rfl, by rw [e b rfl]; exact hb, hc⟩⟩
noncomputable abbrev lpR (st : LoopState) (pend : Option Code) (r : Nat → Value) (d : Nat) : AObj := .loop st pend 34 r 20 #[14] (subC [1, 1, 1, 0, 1, 0, 0] (codeOf f34)) (subC [1, 1, 1, 0, 1, 0, 1] (codeOf f34)) d
theorem roundR (hJ : Closed prog main J) {l d p : Nat} {R : Nat → Value} {w : List UInt8} {L : List (List UInt8)} {v : Value} {o : Option Nat} {Q : Value → List AObj → Prop} (hl : H[l]? = some (lpR .ready none R d)) (r5 : R 5 = ptr p 0) (cp : H[p]? = some (.cells [v] true 0)) (O : OwnX H 1 (strL L) L.length v o) (np : p ≠ l) (no : o ≠ some l) (nop : o ≠ some p) (hL : L.length < 90000)
    (k : ∀ H' v' o', SameX (l :: p :: o.toList) H H' → H'[l]? = some (lpR .ready none R d) → H'[p]? = some (.cells [v'] true 0) → OwnX H' 1 (strL (L ++ [w])) (L ++ [w]).length v' (some o') → H.length ≤ o' → Q (.bool true) H') :
    callV prog (Good prog J) (.func (.yield l) ⟨[]⟩ ⟨[]⟩) [strV w] H Q := by
  show Good prog J (yid prog l) [strV w] H Q
  refine good_round hJ hl rfl (by decide) fun ok => W_sound hJ mixed _ ?_
  rw [a34_1]
  refine ⟨rfl, none, _, _, _, _, _, _, _, hl, W_sound hJ mixed _ ?_⟩
  rw [b34_1]
  have hll := lt_of_get hl
  have hpl := lt_of_get cp
  have hl3 : (H.set l (lpR .busy none R d))[l]? = some (lpR .busy none R d) := List.getElem?_set_self hll
  have S3 : SameX [l] H (H.set l (lpR .busy none R d)) := SameX.refl.set (.inl (by simp))
  have len3 : (H.set l (lpR .busy none R d)).length = H.length := List.length_set ..
  generalize H.set l (lpR .busy none R d) = H3 at hl3 S3 len3
  have O3 := ownX_keep O S3 (fun i hi => by simp; exact fun e => no (by rw [hi, e]))
  have kv := ownX_val O
  show aLoad false 1 (R 5) _ _
  rw [r5]
  refine ldI (v := v) (S3.get cp (by simpa using np)) rfl kv.2.2 ?_
  refine strMore O3 hL fun v' H5 o5 S5 O5 h5 => ?_
  have nx : ∀ {q : Nat}, o ≠ some q → q ∉ o.toList := fun {q} hq => by
    cases o with
    | none => simp
    | some i => simp; exact fun e => hq (by rw [e])
  have vv := ownX_val O5
  show aStore 1 (R 5) _ _ _
  rw [r5]
  refine qSt (S5.get (S3.get cp (by simpa using np)) (nx nop)) (by simp) vv.1 vv.2.1 fun H6 S6 c6 l6 => ?_
  have hl6 := S6.get (S5.get hl3 (nx no)) (by simpa using np.symm)
  refine ⟨.busy, none, _, _, _, _, _, _, _, hl6, .inl (k _ v' o5 ?_ (List.getElem?_set_self (lt_of_get hl6)) (get_set c6 np) ?_ (by omega))⟩
  · exact (((S3.weak (by simp)).trans (S5.weak (by simp; intro a ha; exact .inr (.inr ha)))).trans (S6.weak (by simp))).set (.inl (by simp))
  · refine ownX_keep (ownX_keep O5 S6 fun i hi => ?_) (SameX.refl.set (i := l) (.inl (List.mem_singleton.2 rfl))) fun i hi => ?_
    · cases hi
      simp
      omega
    · cases hi
      simp
      omega
set_option maxHeartbeats 800000 in
theorem good34 (hJ : Closed prog main J) {s : SkyR} (hK0 : skyE s ≠ 0 → ∀ H', SameX [] H H' → K (.tuple ⟨[.slice none 0 0, vint (skyE s)]⟩) H')
    (hK1 : skyE s = 0 → ∀ H' v, SameX [] H H' → Sli H' v 1 (rainsB s).length (strL (rainsB s)) → K (.tuple ⟨[v, vint 0]⟩) H') : Good prog J 34 [.agg ⟨s.cells⟩] H K := by
  refine g34 hJ fun ok => ?_
  rw [e34]
  refine qBox (l := s.cells) rfl fun H1 p1 e1 S1 c1 l1 => load_part (c := s.cells) c1 (by simp [SkyR.cells]) rfl rfl (good72 hJ (neqI (cndI (fun h1 => retL_same (nu2 (by simp [unk]) (by simp [unk])) (hK0 h1 H1 S1)) fun h1 => ?_)))
  have h0 : skyE s = 0 := by omega
  have g : skyOk s := by
    unfold skyE at h0
    split at h0
    · assumption
    · cases h0
  refine qAl fun H5 p5 e5 S5 c5 l5 => load_part (c := s.cells) (S5.get c1 (by simp)) (by simp [SkyR.cells]) rfl rfl ?_
  refine good90 hJ fun H10 ps S10 cs10 gs => ?_
  have TH : SameX [] H H10 := (S1.trans S5).trans S10
  refine l34_1 hJ (first := []) (cap := [ptr ps 0]) rfl (by decide) ?_
  obtain ⟨R, hRe⟩ : ∃ R : RG, R = RG.p (RG.p (RG.p (RG.p (RG.p (RG.p (RG.p (RG.p (RG.p (RG.p (RG.p (RG.mk (regs [.agg ⟨s.cells⟩]) []) 1 (ptr p1 0)) 2 (Value.slice none 0 0)) 3 (vint 0)) 7 (.agg ⟨s.cells⟩)) 8 (vint (skyE s))) 4 (vint (skyE s))) 9 (vint (skyE s))) 10 (.bool (decide (skyE s ≠ 0)))) 5 (ptr p5 0)) 12 (.agg ⟨s.cells⟩)) 13 (.func (.func 127) ⟨[]⟩ ⟨[ptr ps 0]⟩) := ⟨_, rfl⟩
  rw [← hRe]
  have R5 : R.r 5 = ptr p5 0 := by subst hRe; rfl
  have Rds : R.ds = [] := by subst hRe; rfl
  clear hRe
  have hl11 : (H10 ++ [AObj.deferred] ++ [lpR .ready none R.r H10.length])[H10.length + 1]? = some (lpR .ready none R.r H10.length) := by
    rw [List.append_assoc]
    simp
  have hd11 : (H10 ++ [AObj.deferred] ++ [lpR .ready none R.r H10.length])[H10.length]? = some .deferred := by
    rw [List.append_assoc]
    simp
  have hln : (H10 ++ [AObj.deferred] ++ [lpR .ready none R.r H10.length]).length = H10.length + 2 := by simp
  have S11 : SameX [] H10 (H10 ++ [AObj.deferred] ++ [lpR .ready none R.r H10.length]) := SameX.refl.app.app
  generalize hH11 : H10 ++ [AObj.deferred] ++ [lpR .ready none R.r H10.length] = H11 at hl11 hd11 hln S11
  have UH : SameX [] H H11 := TH.trans S11
  have w5 : H11[p5]? = some (.cells [.slice none 0 0] true 0) := (S10.trans S11).get c5 (by simp)
  have ws : H11[ps]? = some (.cells s.cells true 0) := S11.get cs10 (by simp)
  have b5 := lt_of_get c5
  have bs := lt_of_get cs10
  have h10 := S10.1
  have h1l := S1.1
  have h5l := S5.1
  have hfew := rainsB_few g
  have RD : Rnd J (rainsB s) (.func (.yield (H10.length + 1)) ⟨[]⟩ ⟨[]⟩) [H10.length + 1, p5] H11
      (fun k O H' => ∃ v o, O = o.toList ∧ H'[H10.length + 1]? = some (lpR .ready none R.r H10.length) ∧ H'[p5]? = some (.cells [v] true 0) ∧ OwnX H' 1 (strL ((rainsB s).take k)) ((rainsB s).take k).length v o ∧ ∀ i, o = some i → H11.length ≤ i) (fun H' => False) := by
    refine ⟨by simp; omega, ?_, ?_, ?_⟩
    · rintro k O H' ⟨v, o, rfl, i1, i2, i3, i4⟩ x hx
      exact ownX_lt i3 x (by simpa using hx)
    · rintro k O H1 H2 T ⟨v, o, rfl, i1, i2, i3, i4⟩
      refine ⟨v, o, rfl, by rw [T.2 _ (.inl (by omega))]; exact i1, by rw [T.2 _ (.inl (by omega))]; exact i2, ownX_like i3 fun i hi => T.2 i (.inr (by simpa using hi)), i4⟩
    · rintro k w O Ha Q hw Sa hOO ⟨v, o, rfl, i1, i2, i3, i4⟩ q1 q2
      have hSa := Sa.1
      have hk := (List.getElem?_eq_some_iff.1 hw).1
      refine roundR hJ i1 R5 i2 i3 (by omega) (fun e => by have := i4 _ e; omega) (fun e => by have := i4 _ e; omega) (by rw [List.length_take]; omega) fun Hb v' o' Sb hlb h5' O' ho' => ?_
      refine q1 [o'] Hb (Sb.weak (by simp)) (fun x hx => by rw [List.mem_singleton.1 hx]; exact .inr ho') ⟨v', some o', rfl, hlb, h5', ?_, fun i hi => by cases hi; omega⟩
      rw [List.take_add_one, hw]
      exact O'
  refine good127 hJ g RD ⟨rfl, rfl, rfl⟩ ws (by simp; omega) ⟨_, none, rfl, hl11, w5, ⟨rfl, rfl, .inl ⟨rfl, rfl, rfl⟩⟩, by simp⟩ (fun Hb O Sb _ hi => ?_) fun Hb Sb st => st.elim
  obtain ⟨v, o, rfl, i1, i2, i3, i4⟩ := hi
  rw [List.take_of_length_le (Nat.le_refl _)] at i3
  refine endQnorm i1 (by simp) ?_
  rw [c34_1]
  show aLoad false 1 (R.r 5) _ _
  rw [R5, Rds]
  have hd' := Sb.get hd11 (by simp; omega)
  have vv := ownX_val i3
  refine ldI (v := v) (get_set i2 (by omega)) rfl vv.2.2 ?_
  refine retLdef (get_set hd' (by omega)) (nu2 (ownU i3) (by simp [unk])) ?_
  refine hK1 h0 _ v (((UH.thru Sb (by simp; omega)).set (.inr (by omega))).set (.inr (by omega))) (ownX_sli (ownX_like i3 fun i hi => ?_))
  have := i4 i hi
  rw [List.getElem?_set_ne (by omega), List.getElem?_set_ne (by omega)]
end
section
variable {main : Bool} {J : JT} {H : List AObj} {K : Value → List AObj → Prop} {KV : Value → Prop}
theorem neqStr {a : List UInt8} (hk : KV (.bool false)) : aBin prog .neq 9 (strV a) (strV a) KV := by
  have e : aBin prog .neq 9 (strV a) (strV a) KV = KV (.bool (!((ByteArray.mk ⟨a⟩).toList == (ByteArray.mk ⟨a⟩).toList))) := by kernel_rfl
  rw [e, beq_self_eq_true]
  exact hk
end
def rnsL (s : SkyR) : List (List UInt8) := if skyE s = 0 then rainsB s else []
theorem skyE_ok {s : SkyR} (h : skyE s = 0) : skyOk s := by
  unfold skyE at h
  split at h
  · assumption
  · cases h
section
variable {main : Bool} {J : JT} {h H : List AObj} {K : Value → List AObj → Prop}
theorem sli_nilS : Sli H (.slice none 0 0) 1 ([] : List (List UInt8)).length (strL []) := ⟨none, 0, rfl, ⟨rfl, rfl⟩, .inl ⟨rfl, rfl⟩⟩
theorem rnsOwn (hJ : Closed prog main J) {s : SkyR} (hK : ∀ H' v, SameX [] H H' → Sli H' v 1 (rnsL s).length (strL (rnsL s)) → K (.tuple ⟨[v, vint (skyE s)]⟩) H') : Good prog J 34 [.agg ⟨s.cells⟩] H K := by
  refine good34 hJ (fun h0 H' S => hK H' _ S ?_) fun h0 H' v S sv => ?_
  · unfold rnsL
    rw [if_neg h0]
    exact sli_nilS
  · have := hK H' v S (by unfold rnsL; rw [if_pos h0]; exact sv)
    rw [h0] at this
    exact this
theorem good35 (hJ : Closed prog main J) {s : SkyR} (hK : ∀ H' v, SameX [] H H' → Sli H' v 1 (rnsL s).length (strL (rnsL s)) → K (.tuple ⟨[v, vint (skyE s)]⟩) H') : Good prog J 35 [.agg ⟨s.cells⟩] H K := by
  refine g35 hJ fun ok => ?_
  rw [e35]
  refine qBox (l := s.cells) rfl fun H1 p1 e1 S1 c1 l1 => load_part (c := s.cells) c1 (by simp [SkyR.cells]) rfl rfl (good81 hJ (neqI (cndI (fun h1 => ?_) fun h1 => ?_)))
  · exact retL_same (nu2 (by simp [unk]) (by simp [unk])) (hK H1 _ S1 (by unfold rnsL; rw [if_neg h1]; exact sli_nilS))
  · have h0 : skyE s = 0 := by omega
    refine load_part (c := s.cells) c1 (by simp [SkyR.cells]) rfl rfl (good91 hJ (skyE_ok h0) fun H2 v o S2 O ho => ?_)
    refine retL_same (nu2 (ownU O) (by simp [unk])) ?_
    have := hK H2 v (S1.trans S2) (by unfold rnsL; rw [if_pos h0]; exact ownX_sli O)
    rw [h0] at this
    exact this
theorem good38 (hJ : Closed prog main J) {va vb : Value} {L : List (List UInt8)} (sa : Sli H va 1 L.length (strL L)) (sb : Sli H vb 1 L.length (strL L)) (hl : L.length < 1000000) (hK : K (.bool true) H) : Good prog J 38 [va, vb] H K := by
  refine g38 hJ fun ok => ?_
  rw [e38]
  refine lenI sa (lenI sb (neqI (cndI (fun h => absurd rfl h) fun _ => ?_)))
  refine l38_1 hJ (fun i : Nat => L.length - i) (fun i F H' => i ≤ L.length ∧ H' = H ∧ F.ds = [] ∧ F.r 0 = va ∧ F.r 1 = vb ∧ F.r 5 = vint (i : Nat)) ?_ (s := 0)
    (.inl ⟨Nat.zero_le _, rfl, rfl, rfl, rfl, rfl⟩)
  rintro i F H' ⟨hi, rfl, ds, r0, r1, r5⟩ okc hnc
  rw [s38_1, r0, r1, r5, ds]
  refine lenI sa (lssI (cndI (fun hlt => ?_) fun _ => retL_same (by simp [unk]) hK))
  have hu : L[i]? = some L[i] := List.getElem?_eq_getElem (by omega)
  exact strGet rfl sa hu fun pa => strGet rfl sb hu fun pb => neqStr (cnd_false.2 (addI (by omega) ⟨i + 1, by dsimp only; omega, .inl ⟨by omega, rfl, ds, r0, r1, by show vint _ = vint _; congr 1⟩⟩))
end
section
variable {W0 : World} {Post : Value → World → Prop} {h : List AObj} {K : Value → List AObj → Prop}
set_option maxHeartbeats 1000000 in
theorem walk6 {p : Pas} {s : SkyR} {nv : Value} {ns : List Int} (sn : Sli h nv 1 ns.length (ns.map vint)) (hln : ns.length < 4611686018427387904) (hK : ∀ H', K (.bool true) H') :
    W prog (J2 prog W0 Post) 70 h.length 6 (codeOf f6) (RG.mk (regs [.agg ⟨p.cells⟩, .agg ⟨s.cells⟩, nv]) []) h (RetQ prog [.tmp 6] h.length K) := by
  have hJ := J2.closed prog W0 Post
  rw [e6]
  refine qBox (l := p.cells) rfl fun H1 p1 e1 S1 c1 l1 => qBox (l := s.cells) rfl fun H2 p2 e2 S2 c2 l2 => ?_
  have S12 := S1.trans S2
  refine newX hJ (S12.sli sn (by simp)) hln fun H3 a3 => ?_
  have S3 : SameX [] H2 H3 := by
    obtain ⟨nv', k', s', rest, rfl, _⟩ := a3
    exact ⟨by rw [hf_len]; omega, fun i hi _ => by unfold HF; rw [List.getElem?_append_left hi]⟩
  have k1 := S3.get (S2.get c1 (by simp)) (by simp)
  have k2 := S3.get c2 (by simp)
  have b1 := lt_of_get k1
  have b2 := lt_of_get k2
  have b1' := lt_of_get (S2.get c1 (by simp))
  have b2' := lt_of_get c2
  have behind : ∀ {F : RG} {H' : List AObj} {pp ps : Nat} {q : Pas} {t : SkyR}, H'[pp]? = some (.cells (p.cells ++ q.cells) true 0) → H'[ps]? = some (.cells (s.cells ++ t.cells) true 0) → F.ds = [] → F.r 8 = .slice (some ⟨pp, 0, none⟩) 2 2 → F.r 9 = .slice (some ⟨ps, 0, none⟩) 2 2 →
      W prog (J2 prog W0 Post) 70 h.length 6 (subC [1, 1, 1] (codeOf f6)) F H' (contX pl6 prog (J2 prog W0 Post) 70 h.length 6 ct6 [1, 1, 1] (codeOf f6) [] (RetQ prog [.tmp 6] h.length K)) := by
    intro F H' pp ps q t cp cs ds r8 r9
    rw [s6_1]
    refine l6_2 hJ (fun i : Nat => 2 - i) (fun i F H2 => i ≤ 2 ∧ SameX [] H' H2 ∧ F.ds = [] ∧ F.r 8 = .slice (some ⟨pp, 0, none⟩) 2 2 ∧ F.r 9 = .slice (some ⟨ps, 0, none⟩) 2 2 ∧ F.r 10 = vint (i : Nat)) ?_ (s := 0)
      (.inl ⟨Nat.zero_le _, SameX.refl, ds, r8, r9, rfl⟩)
    clear ds r8 r9 F
    rintro i F H2 ⟨hi, S, ds, r8, r9, r10⟩ okc hnc
    rw [s6_2, r8, r9, r10, ds]
    have cp2 : H2[pp]? = some (.cells (([p, q] : List Pas).flatMap Pas.cells) true 0) := by simpa using S.get cp (by simp)
    have cs2 : H2[ps]? = some (.cells (([s, t] : List SkyR).flatMap SkyR.cells) true 0) := by simpa using S.get cs (by simp)
    have slP : SliE H2 (.slice (some ⟨pp, 0, none⟩) 2 2) 6 Pas.cells [p, q] := ownX_sli (ownX_new (s := 6) (n := 2) cp2 rfl rfl)
    have slS : SliE H2 (.slice (some ⟨ps, 0, none⟩) 2 2) 3 SkyR.cells [s, t] := ownX_sli (ownX_new (s := 3) (n := 2) cs2 rfl rfl)
    refine lenI slP (lssI (cndI (fun hl => ?_) fun _ => good21 fun H13 _ => retL_same (by simp [unk]) (hK H13)))
    have hi2 : i < 2 := by
      have : ((([p, q] : List Pas).length : Nat) : Int) = 2 := rfl
      omega
    obtain ⟨b, oo, cc, wr, sz, hidx, hb, hos, htk, hkn⟩ := sliE_elem (s := 3) (fun _ => rfl) (by decide) slS (i := i) hi2
    obtain ⟨b', oo', cc', wr', sz', hidx', hb', hos', htk', hkn'⟩ := sliE_elem (s := 6) (fun _ => rfl) (by decide) slP (i := i) hi2
    generalize ([s, t] : List SkyR)[i] = y at htk hkn
    generalize ([p, q] : List Pas)[i] = x at htk' hkn'
    refine hidx _ (load_part (c := y.cells) hb hos htk rfl (rnsOwn hJ fun H3 va S3 sa => ext0 (ext1 ?_)))
    refine hidx _ (load_part (c := y.cells) (S3.get hb (by simp)) hos htk rfl (good35 hJ fun H4 vb S4 sb => ext0 (ext1 ?_)))
    have S34 := S3.trans S4
    have hb4 := S34.get hb' (by simp)
    have few : (rnsL y).length < 1000000 := by
      unfold rnsL
      split
      · have := rainsB_few (skyE_ok (by assumption) : skyOk y)
        omega
      · decide
    refine ⟨[b'], hidx' _ (load_part (c := x.cells) hb4 hos' htk' rfl ⟨by simp [RdOk, ptr, ptrBlk], hidx' _ (load_part (c := x.cells) hb4 hos' htk' rfl ⟨by simp [RdOk, ptr, ptrBlk], ?_⟩)⟩)⟩
    refine good36 hJ ⟨fun b hb => rfl, good37 hJ ⟨fun b hb => rfl, neqI (cndI (fun h => absurd rfl h) fun _ => neqI (cndI (fun h => absurd rfl h) fun _ => good38 hJ (S4.sli sa (by simp)) sb few ⟨fun b hb => rfl, notI (hold.2 ?_)⟩))⟩⟩
    rw [s6_3]
    refine cnd_false.2 ?_
    show aBin prog .add 3 (F.r 10) (vint 1) _
    rw [r10]
    exact addI (by omega) ⟨i + 1, by dsimp only; omega, .inl ⟨by omega, S.trans S34, ds, r8, r9, by show vint _ = vint _; congr 1⟩⟩
  have f6 : ∀ {q : Pas} {KL : List Value → Prop}, KL (p.cells ++ q.cells) → aFill (zrep [vint 0, vint 0, vint 0, vint 0, vint 0, vint 0] 2) [(0, 6, .agg ⟨p.cells⟩), (6, 6, .agg ⟨q.cells⟩)] KL := fun {q KL} hk => by
    refine fillO (l := p.cells) rfl rfl rfl (by decide) (fillO (l := q.cells) rfl rfl rfl (by rw [wrAt_length]; decide) (fillI ?_))
    exact hk
  have f3 : ∀ {t : SkyR} {KL : List Value → Prop}, KL (s.cells ++ t.cells) → aFill (zrep [vint 0, vint 0, vint 0] 2) [(0, 3, .agg ⟨s.cells⟩), (3, 3, .agg ⟨t.cells⟩)] KL := fun {t KL} hk => by
    refine fillO (l := s.cells) rfl rfl rfl (by decide) (fillO (l := t.cells) rfl rfl rfl (by rw [wrAt_length]; decide) (fillI ?_))
    exact hk
  refine ⟨[p1, p2], load_part (c := p.cells) k1 (by simp [Pas.cells]) rfl rfl ⟨by simp [RdOk, ptr, ptrBlk], load_part (c := s.cells) k2 (by simp [SkyR.cells]) rfl rfl ⟨by simp [RdOk, ptr, ptrBlk], ?_⟩⟩⟩
  have l3 := hxLt a3
  have sb : ∀ {H' : List AObj}, SameX [H2.length] H3 H' → SameB (some [p1, p2]) H3 H' := fun S => sbTwo S b1 b2 (by simp; omega) (by simp; omega)
  refine good24 hJ a3 (by omega) fun q H4 fq _ S4 a4 => ⟨sb S4, ⟨by decide, f6 (qNew fun H5 pp e5 S5 c5 l5 => ⟨sb (S4.trans S5.weak0), ?_⟩)⟩, ?_⟩
  · refine good25 hJ (HX.same a4 S5 (by simp)) (by omega) (by decide) fun t H6 gt _ S6 a6 => ⟨sb ((S4.trans S5.weak0).trans S6), by decide, f3 (qNew fun H7 ps e7 S7 c7 l7 => ⟨sb (((S4.trans S5.weak0).trans S6).trans S7.weak0), hold.2 ?_⟩)⟩
    have l4 := hxLt a4
    exact behind (S7.get (S6.get c5 (by simp; omega)) (by simp)) c7 rfl rfl rfl
  · refine good25 hJ a4 (by omega) (by decide) fun t H6 gt _ S6 a6 => ⟨sb (S4.trans S6), ⟨by decide, f6 (qNew fun H7 pp e7 S7 c7 l7 => ⟨sb ((S4.trans S6).trans S7.weak0), by decide, f3 (qNew fun H8 ps e8 S8 c8 l8 => ⟨sb (((S4.trans S6).trans S7.weak0).trans S8.weak0), hold.2 ?_⟩)⟩)⟩, ⟨by decide, f3 (qNew fun H7 ps e7 S7 c7 l7 => ⟨sb ((S4.trans S6).trans S7.weak0), by decide, f6 (qNew fun H8 pp e8 S8 c8 l8 => ⟨sb (((S4.trans S6).trans S7.weak0).trans S8.weak0), hold.2 ?_⟩)⟩)⟩⟩
    · exact behind (S8.get c7 (by simp)) c8 rfl rfl rfl
    · exact behind c8 (S8.get c7 (by simp)) rfl rfl rfl
end
end Go.Proofs.Ythnccaajpdnndaa
namespace Go.Proofs.Ythnccaajpdnndaa
open Go.Conc Go.ChangeShapes Go.WideShapes Go.ChangeAt Go.RowKit Go.Proofs.Try
set_option maxRecDepth 100000
theorem trodAll_cons {H : Type} {enc : TypeId × Value → H} {P : Program} {w : World} {base : Nat} {spare : Nat → Bool} {held : Bool} {t : TypeId} {ts : List TypeId} {vs : List Value} {ds : List (DataW H)} {ps : List MemPlace}
    (h : DataW.TrodAll enc P w base spare held (t :: ts) vs ds ps) : ∃ v vs' d ds' p q, vs = v :: vs' ∧ ds = d :: ds' ∧ ps = p ++ q ∧ DataW.Trod enc P w base spare held t v d p ∧ DataW.TrodAll enc P w base spare held ts vs' ds' q := by
  match vs, ds, h with
  | v :: vs, d :: ds, ⟨p, q, h1, h2, h3⟩ => exact ⟨v, vs, d, ds, p, q, rfl, rfl, h3, h1, h2⟩
theorem trodAll_nil {H : Type} {enc : TypeId × Value → H} {P : Program} {w : World} {base : Nat} {spare : Nat → Bool} {held : Bool} {vs : List Value} {ds : List (DataW H)} {ps : List MemPlace}
    (h : DataW.TrodAll enc P w base spare held [] vs ds ps) : vs = [] ∧ ds = [] ∧ ps = [] := by
  match vs, ds, h with
  | [], [], h => exact ⟨rfl, rfl, h⟩
theorem trodAll_mkc {H : Type} {enc : TypeId × Value → H} {P : Program} {w : World} {base : Nat} {spare : Nat → Bool} {held : Bool} {t : TypeId} {ts : List TypeId} {v : Value} {vs : List Value} {d : DataW H} {ds : List (DataW H)} {p q : List MemPlace}
    (h1 : DataW.Trod enc P w base spare held t v d p) (h2 : DataW.TrodAll enc P w base spare held ts vs ds q) : DataW.TrodAll enc P w base spare held (t :: ts) (v :: vs) (d :: ds) (p ++ q) := ⟨p, q, h1, h2, rfl⟩
section
variable {H : Type} {enc : TypeId × Value → H}
theorem fine_int {m : Nat} {n : Int} : Fine m (vint n) := ⟨by simp [VOk], rfl, by simp [ren]⟩
theorem trod_vint {W : World} {n : Nat} {cs : List Value} {r : DataW H × List MemPlace} {t : TypeId} (u : prog.underlying t = some (.int .i64)) (h : DataW.trod enc prog W 0 (fun _ => true) true n t cs = some r) : ∃ z, cs = [vint z] := by
  obtain ⟨z, h1, _⟩ := DataW.trod_int u h
  exact ⟨z, h1⟩
end
section
variable {H : Type} {enc : TypeId × Value → H} {W : World} {n base : Nat} {cs : List Value} {r : DataW H × List MemPlace}
def structOf : Option TypeDesc → Option (List (TypeId × Nat))
  | some (.struct fs) => some (fs.toList.map fun f => (f.type, f.offset))
  | _ => none
theorem trod_fields {t : TypeId} {l : List (TypeId × Nat)} (hs : structOf (prog.underlying t) = some l) (h : DataW.trod enc prog W 0 (fun _ => true) true n t cs = some r) :
    cs.length = prog.cellsOf t ∧ ∃ n' : Nat, ∀ (i : Nat) (ty : TypeId) (off : Nat), l[i]? = some (ty, off) → ∃ r', DataW.trod enc prog W 0 (fun _ => true) true n' ty ((cs.drop off).take (prog.cellsOf ty)) = some r' := by
  unfold structOf at hs
  split at hs
  · rename_i fs hu
    cases hs
    obtain ⟨xs, n', _, rfl, hl, hxl, hf⟩ := DataW.trod_struct hu h
    refine ⟨hl, n', fun i ty off hi => ?_⟩
    rw [List.getElem?_map, Option.map_eq_some_iff] at hi
    obtain ⟨f, hfi, he⟩ := hi
    cases he
    have hfi' : fs[i]? = some f := by simpa using hfi
    have hil : i < xs.length := by rw [hxl]; exact (Array.getElem?_eq_some_iff.1 hfi').1
    exact ⟨xs[i], by rw [hf i f hfi', List.getElem?_eq_getElem hil]⟩
  · cases hs
theorem lok_of : ∀ {l : List Value} {m : Nat}, (∀ v ∈ l, VOk m v) → LOk m l
  | [], _, _ => by simp [LOk]
  | v :: l, m, h => by
    simp only [LOk]
    exact ⟨h v (by simp), lok_of fun u hu => h u (by simp [hu])⟩
theorem argOk_agg {l : List Value} (h : ∀ v ∈ l, ArgOk W v) : ArgOk W (.agg ⟨l⟩) := by
  refine ⟨?_, ?_⟩
  · simp only [VOk, AOk]
    exact lok_of fun v hv => (h v hv).1
  · simp only [ren, renA, renL_eq]
    congr 2
    rw [List.map_congr_left (g := id) fun v hv => (h v hv).2, List.map_id]
theorem argOk_fine {v : Value} (h : ∀ m, Fine m v) : ArgOk W v := ⟨(h _).1, (h 0).2.2⟩
theorem agg_of {t : TypeId} {l : List (TypeId × Nat)} {v : Value} (hs : structOf (prog.underlying t) = some l) (hval : Value.okWide prog W .any base t v) : ∃ cs, v = .agg cs ∧ Row.okWide prog W .any base t cs := by
  unfold structOf at hs
  split at hs
  · rename_i fs hu
    simp only [Value.okWide, hu] at hval
    obtain ⟨cs, h1, _, h3⟩ := hval
    exact ⟨cs, h1, h3⟩
  · cases hs
end
section
variable {H : Type} {enc : TypeId × Value → H} {W : World} {base : Nat}
theorem arg_recs {t : TypeId} {m : Nat} (hs : structOf (prog.underlying t) = some ((List.range m).map fun i => (3, i))) (hc : prog.cellsOf t = m) {v : Value} {d : DataW H} {ps : List MemPlace}
    (hval : Value.okWide prog W .any base t v) (hd : DataW.Trod enc prog W 0 (fun _ => true) true t v d ps) : ∃ zs : List Int, zs.length = m ∧ v = .agg ⟨zs.map vint⟩ ∧ ArgOk W v := by
  have u3 : prog.underlying 3 = some (.int .i64) := by kernel_rfl
  have c3 : prog.cellsOf 3 = 1 := by kernel_rfl
  obtain ⟨cs, rfl, _⟩ := agg_of hs hval
  obtain ⟨cs⟩ := cs
  obtain ⟨fuel, hf⟩ := hd
  obtain ⟨hl, n', hf⟩ := trod_fields (cs := cs) hs hf
  rw [hc] at hl
  have hz : ∀ i, i < m → ∃ z, cs[i]? = some (vint z) := fun i hi => by
    obtain ⟨r', g⟩ := hf i 3 i (by rw [List.getElem?_map, List.getElem?_range hi]; rfl)
    rw [c3] at g
    obtain ⟨z, hz⟩ := trod_vint u3 g
    refine ⟨z, ?_⟩
    have := congrArg (fun l => l[0]?) hz
    simpa [List.getElem?_take, List.getElem?_drop] using this
  have hall : ∀ v ∈ cs, ∃ z, v = vint z := fun v hv => by
    obtain ⟨i, hi, rfl⟩ := List.getElem_of_mem hv
    obtain ⟨z, e⟩ := hz i (by omega)
    rw [List.getElem?_eq_getElem hi] at e
    exact ⟨z, Option.some.inj e⟩
  have key : ∀ (l : List Value), (∀ v ∈ l, ∃ z, v = vint z) → ∃ zs : List Int, l = zs.map vint := by
    intro l
    induction l with
    | nil => exact fun _ => ⟨[], rfl⟩
    | cons v l ih =>
      intro h
      obtain ⟨z, rfl⟩ := h v (by simp)
      obtain ⟨zs, e⟩ := ih fun u hu => h u (by simp [hu])
      exact ⟨z :: zs, by rw [e]; rfl⟩
  obtain ⟨zs, rfl⟩ := key cs hall
  refine ⟨zs, by simpa using hl, rfl, argOk_agg fun v hv => ?_⟩
  obtain ⟨z, rfl⟩ := hall v hv
  exact argOk_fine fun m => fine_int
theorem arg_pas {v : Value} {d : DataW H} {ps : List MemPlace} (hval : Value.okWide prog W .any base 31 v) (hd : DataW.Trod enc prog W 0 (fun _ => true) true 31 v d ps) : ∃ w : Pas, v = .agg ⟨w.cells⟩ ∧ ArgOk W v := by
  obtain ⟨zs, hl, rfl, ok⟩ := arg_recs (m := 6) (by kernel_rfl) (by kernel_rfl) hval hd
  match zs, hl with
  | [a, b, c, d, e, f], _ => exact ⟨⟨a, b, c, d, e, f⟩, rfl, ok⟩
theorem arg_skyr {v : Value} {d : DataW H} {ps : List MemPlace} (hval : Value.okWide prog W .any base 24 v) (hd : DataW.Trod enc prog W 0 (fun _ => true) true 24 v d ps) : ∃ w : SkyR, v = .agg ⟨w.cells⟩ ∧ ArgOk W v := by
  obtain ⟨zs, hl, rfl, ok⟩ := arg_recs (m := 3) (by kernel_rfl) (by kernel_rfl) hval hd
  match zs, hl with
  | [a, b, c], _ => exact ⟨⟨a, b, c⟩, rfl, ok⟩
end
theorem lifted6 (os : Os) (started : os.Started) (H : Type) (enc : TypeId × Value → H) :
    ReturnsInLeavingWide {} checked os 6 .any (Rows.grassRainsSpec.pre6 enc prog f6 Rows.grassRainsRow.domain false) (Rows.grassRainsSpec.post enc prog f6 false true false false) := by
  refine returnsInLeavingWide_of_change_sized (C := checked) own started at6
    (ChangeSpec.witness6 (enc := enc) (C := checked) false ⟨#[], #[.agg #[.int .i64 0, .int .i64 0, .int .i64 0, .int .i64 0, .int .i64 0, .int .i64 0], .agg #[.int .i64 0, .int .i64 0, .int .i64 0], .slice none 0 0], []⟩ 8 (by kernel_rfl) (by kernel_rfl) (by kernel_rfl) (by kernel_rfl)) ?_
  intro W base args ds gs before hval0 hW _ hsz0 _
  have hsz : (DataW.weightsEach prog (f6.params.toList ++ Rows.grassRainsSpec.plain.varTypes prog) (ds ++ gs)).all (· ≤ reachBytes) = true := hsz0
  clear hsz0
  have hval : ∀ (j : Nat) t v, f6.params[j]? = some t → args[j]? = some v → Value.okWide prog W .any base t v := hval0
  have hW' := hW
  obtain ⟨p, q, hA0, hV, rfl, _, _⟩ := hW
  have hA : DataW.TrodAll enc prog W 0 (fun _ => true) true f6.params.toList args.toList ds p := hA0
  have hps : f6.params = #[31, 24, 25] := by kernel_rfl
  rw [hps] at hA hval hsz
  obtain ⟨args⟩ := args
  have r0 : DataW.TrodAll enc prog W 0 (fun _ => true) true [31, 24, 25] args ds p := hA
  obtain ⟨v0, vs0, d0, ds0, p0, q0, hv0, hd0, hp0, h0, r1⟩ := trodAll_cons r0
  obtain ⟨v1, vs1, d1, ds1, p1, q1, hv1, hd1, hp1, h1, r2⟩ := trodAll_cons r1
  obtain ⟨v2, vs2, d2, ds2, p2, q2, hv2, hd2, hp2, h2, r3⟩ := trodAll_cons r2
  obtain ⟨hvn, hdn, hpn⟩ := trodAll_nil r3
  subst hvn hdn hpn
  subst hv2 hd2 hp2
  subst hv1 hd1 hp1
  subst hv0 hd0 hp0
  obtain ⟨rfl, rfl⟩ := trodVars_none hV
  have u3 : prog.underlying 3 = some (.int .i64) := by kernel_rfl
  have u27 : prog.underlying 25 = some (.slice 3) := by kernel_rfl
  have u4 : prog.underlying 4 = some .bool := by kernel_rfl
  have c3 : prog.cellsOf 3 = 1 := by kernel_rfl
  have b3 : prog.bytesOf 3 = 8 := by kernel_rfl
  have hlt : ∀ x ∈ p0 ++ (p1 ++ (p2 ++ [])), x.block < W.heap.size := fun x hx => by simpa using hW'.lt x (by simpa using hx)
  have hargs : ∀ (W' : World), Below W.heap.size W W' → DataW.TrodAll enc prog W' 0 (fun b => decide (b < W.heap.size)) true [31, 24, 25] [v0, v1, v2] [d0, d1, d2] (p0 ++ (p1 ++ (p2 ++ []))) := fun W' hn =>
    trodAll_mkc (Below.trod laidOut (by kernel_rfl) (of_decide_eq_true (by kernel_rfl)) h0 hn fun x hx => hlt x (by simp [hx])) (trodAll_mkc (Below.trod laidOut (by kernel_rfl) (of_decide_eq_true (by kernel_rfl)) h1 hn fun x hx => hlt x (by simp [hx])) (trodAll_mkc (Below.trod laidOut (by kernel_rfl) (of_decide_eq_true (by kernel_rfl)) h2 hn fun x hx => hlt x (by simp [hx])) (rfl)))
  obtain ⟨w0, rfl, ok0⟩ := arg_pas (hval 0 31 v0 rfl rfl) h0
  obtain ⟨w1, rfl, ok1⟩ := arg_skyr (hval 1 24 v1 rfl rfl) h1
  obtain ⟨ns2, sn2, ok2, hbig2⟩ := arg_ints u27 u3 c3 (hval 2 25 v2 rfl rfl) h2
  have hln2 : ns2.length < 4611686018427387904 := by
    rcases hbig2 with rfl | ⟨es, sp, rfl, hle⟩
    · simp
    · have := sized_slice hsz (j := 2) (t := 25) (e := 3) rfl rfl u27
      rw [b3] at this
      simp only [reachBytes] at this
      omega
  obtain ⟨M, last, o, w', t', r1, r2, r3, r4⟩ := law_run2 (g := 6) (fn := f6) at6 body6 (by kernel_rfl) W [.agg ⟨Pas.cells w0⟩, .agg ⟨SkyR.cells w1⟩, v2] (Nat.le_of_ble_eq_true (by kernel_rfl : Nat.ble 3 f6.ntmps = true))
    (by
      intro v hv
      simp only [List.mem_cons, List.not_mem_nil, or_false] at hv
      rcases hv with rfl | rfl | rfl
      · exact ok0
      · exact ok1
      · exact ok2)
    (fun Post => walk6 (K := fun v _ => v = .bool true) sn2 hln2 fun _ => rfl)
  refine ⟨M, last, o, w', t', r1, r2, r3, r4.mono fun v hF => ?_⟩
  obtain ⟨rfl, hbelow⟩ := hF
  refine ⟨_, _, _, [], _, [], hW', ?_, hargs _ hbelow, by rfl, hbelow.frame _, fun h => by cases h⟩
  exact trodAll_mk1 (shut_bool u4 true)
theorem grassRains_holds : Rows.GrassRainsSaid :=
  OpenClaim.holds_of_wide_leaving 6 f6 rfl rfl rfl rfl rfl rfl rfl ⟨rfl, rfl, rfl, rfl, rfl⟩ rfl rfl rfl rfl rfl (by kernel_rfl) at6 (by kernel_rfl)
    (of_decide_eq_true (by kernel_rfl)) (by unfold Func.isWrapper; first | (rw [if_pos (by decide +kernel)]; kernel_rfl) | (rw [if_neg (by decide +kernel)]; exact ⟨rfl, rfl⟩))
    (fun os started H enc _ => lifted6 os started H enc)
#print axioms grassRains_holds
end Go.Proofs.Ythnccaajpdnndaa
