/- GrassByDay answers true at every input, and its argument reads behind the call as it read before. No conditions. -/
import Derived.Test.YthnccaajpdnndaaK3
import Derived.Test.YthnccaajpdnndaaK2
import Derived.Test.YthnccaajpdnndaaK6
import Derived.Test.YthnccaajpdnndaaK5
namespace Go.Proofs.Ythnccaajpdnndaa
open Go.Conc Go.Proofs.Try
set_option maxRecDepth 100000
set_option maxHeartbeats 4000000
set_option linter.unusedVariables false
section
variable {main : Bool} {J : JT} {n0 : Nat} {h : List AObj} {K : Value → List AObj → Prop}
theorem at15 : prog.funcs[15]? = some f15 := by kernel_rfl
theorem body15 : f15.body = some (codeOf f15) := by kernel_rfl
def pl15 : Plans := [(15, false, .take 0 (.take 1 (.take 2 (.last 3 true (.take 4 (.take 5 (.take 6 (.take 7 (.take 8 (.take 9 (.take 10 (.take 11 (.take 12 (.take 13 (.take 14 (.last 15 true (.take 16 (.take 17 (.take 18 (.fin))))))))))))))))))))]
def ct15 : Cuts := .bin (.go) (.bin (.go) (.bin (.go) (.bin (.go) (.bin (.go) (.bin (.go) (.bin (.go) (.bin (.bin (.go) (.cut (.go))) (.bin (.go) (.bin (.bin (.go) (.un (.un (.bin (.go) (.bin (.un (.bin (.go) (.bin (.go) (.cut (.bin (.bin (.go) (.cut (.go))) (.bin (.go) (.cut (.bin (.go) (.bin (.go) (.cut (.bin (.go) (.cut (.bin (.go) (.bin (.go) (.cut (.go)))))))))))))))) (.go)))))) (.go))))))))))
theorem pok15 : plansOk prog pl15 (codeOf f15) = true := by kernel_rfl
theorem e15 {a0 : Value} : W prog J 157 h.length 15 (codeOf f15) (RG.mk (regs [a0]) []) h (RetQ prog [.tmp 2] h.length K) =
(Good prog J 22 [a0] h fun v1 h2 =>
 Good prog J 24 [v1] h2 fun v3 h4 =>
 Good prog J 23 [v1, (vint 1), (vint 8)] h4 fun v5 h6 =>
 aAlloc [(vint 0), (vint 0), (vint 0), (vint 0), (vint 0), (vint 0)] h6 fun v7 h8 =>
 aStore 6 v7 v3 h8 fun h9 =>
 Good prog J 30 [v1, v5, (vint 12)] h9 fun v10 h11 =>
 Good prog J 31 [v1, v5] h11 fun v12 h13 =>
 aLoad true 6 v7 h13 fun v14 =>
 Good prog J 32 [v14, v10, v12] h13 fun v15 h16 =>
 aExt v15 0 fun v17 =>
 aExt v15 1 fun v18 =>
 aLoad true 6 v7 h16 fun v19 =>
 Good prog J 58 [v19, v10, v12] h16 fun v20 h21 =>
 aExt v20 0 fun v22 =>
 aExt v20 1 fun v23 =>
 aLoad true 6 v7 h21 fun v24 =>
 Good prog J 43 [v24, v10, v12] h21 fun v25 h26 =>
 aExt v25 0 fun v27 =>
 aExt v25 1 fun v28 =>
 aBin prog .neq 37 v18 (vint 0) fun v29 =>
 cnd v29
(Hold (W prog J 157 h.length 15 (subC [1, 1, 1, 1, 1, 1, 1, 0, 1] (codeOf f15)) (RG.p (RG.p (RG.p (RG.p (RG.p (RG.p (RG.p (RG.p (RG.p (RG.p (RG.p (RG.p (RG.p (RG.p (RG.p (RG.p (RG.p (RG.p (RG.p (RG.p (RG.p (RG.p (RG.p (RG.p (RG.p (RG.p (RG.p (RG.p (RG.p (RG.p (RG.p (RG.p (RG.p (RG.p (RG.p (RG.p (RG.p (RG.p (RG.p (RG.p (RG.p (RG.p (RG.p (RG.p (RG.p (RG.p (RG.p (RG.p (RG.p (RG.p (RG.p (RG.p (RG.p (RG.p (RG.p (RG.p (RG.p (RG.p (RG.p (RG.p (RG.p (RG.p (RG.p (RG.p (RG.mk (regs [a0]) []) 2 (Value.bool false)) 20 a0) 21 v1) 3 v1) 22 v1) 23 v3) 24 v1) 25 v5) 4 v7) 5 v5) 26 v1) 27 v5) 28 v10) 29 v1) 30 v5) 31 v12) 6 v10) 7 v12) 33 v14) 34 v10) 35 v12) 36 v15) 32 v15) 37 v17) 38 v18) 8 v17) 9 v18) 40 v19) 41 v10) 42 v12) 43 v20) 39 v20) 44 v22) 45 v23) 10 v22) 11 v23) 47 v24) 48 v10) 49 v12) 50 v25) 46 v25) 51 v27) 52 v28) 12 v27) 13 v28) 53 v18) 54 v29) 55 v29) 55 (Value.bool true)) 56 undef) 57 undef) 58 (Value.bool true)) 59 (Value.bool true)) 59 (Value.bool true)) 60 undef) 61 undef) 62 (Value.bool true)) 63 (Value.bool true)) 63 (Value.bool true)) 64 undef) 65 undef) 66 undef) 67 undef) 68 (Value.bool true)) h26 (contX pl15 prog J 157 h.length 15 ct15 [1, 1, 1, 1, 1, 1, 1, 0, 1] (codeOf f15) [] (RetQ prog [.tmp 2] h.length K))))
(aBin prog .neq 37 v23 (vint 0) fun v30 =>
 cnd v30
(Hold (W prog J 157 h.length 15 (subC [1, 1, 1, 1, 1, 1, 1, 0, 1] (codeOf f15)) (RG.p (RG.p (RG.p (RG.p (RG.p (RG.p (RG.p (RG.p (RG.p (RG.p (RG.p (RG.p (RG.p (RG.p (RG.p (RG.p (RG.p (RG.p (RG.p (RG.p (RG.p (RG.p (RG.p (RG.p (RG.p (RG.p (RG.p (RG.p (RG.p (RG.p (RG.p (RG.p (RG.p (RG.p (RG.p (RG.p (RG.p (RG.p (RG.p (RG.p (RG.p (RG.p (RG.p (RG.p (RG.p (RG.p (RG.p (RG.p (RG.p (RG.p (RG.p (RG.p (RG.p (RG.p (RG.p (RG.p (RG.p (RG.p (RG.p (RG.p (RG.p (RG.p (RG.p (RG.p (RG.mk (regs [a0]) []) 2 (Value.bool false)) 20 a0) 21 v1) 3 v1) 22 v1) 23 v3) 24 v1) 25 v5) 4 v7) 5 v5) 26 v1) 27 v5) 28 v10) 29 v1) 30 v5) 31 v12) 6 v10) 7 v12) 33 v14) 34 v10) 35 v12) 36 v15) 32 v15) 37 v17) 38 v18) 8 v17) 9 v18) 40 v19) 41 v10) 42 v12) 43 v20) 39 v20) 44 v22) 45 v23) 10 v22) 11 v23) 47 v24) 48 v10) 49 v12) 50 v25) 46 v25) 51 v27) 52 v28) 12 v27) 13 v28) 53 v18) 54 v29) 55 v29) 55 (Value.bool false)) 56 v23) 57 v30) 58 v30) 59 v30) 59 (Value.bool true)) 60 undef) 61 undef) 62 (Value.bool true)) 63 (Value.bool true)) 63 (Value.bool true)) 64 undef) 65 undef) 66 undef) 67 undef) 68 (Value.bool true)) h26 (contX pl15 prog J 157 h.length 15 ct15 [1, 1, 1, 1, 1, 1, 1, 0, 1] (codeOf f15) [] (RetQ prog [.tmp 2] h.length K))))
(aBin prog .neq 37 v28 (vint 0) fun v31 =>
 cnd v31
(Hold (W prog J 157 h.length 15 (subC [1, 1, 1, 1, 1, 1, 1, 0, 1] (codeOf f15)) (RG.p (RG.p (RG.p (RG.p (RG.p (RG.p (RG.p (RG.p (RG.p (RG.p (RG.p (RG.p (RG.p (RG.p (RG.p (RG.p (RG.p (RG.p (RG.p (RG.p (RG.p (RG.p (RG.p (RG.p (RG.p (RG.p (RG.p (RG.p (RG.p (RG.p (RG.p (RG.p (RG.p (RG.p (RG.p (RG.p (RG.p (RG.p (RG.p (RG.p (RG.p (RG.p (RG.p (RG.p (RG.p (RG.p (RG.p (RG.p (RG.p (RG.p (RG.p (RG.p (RG.p (RG.p (RG.p (RG.p (RG.p (RG.p (RG.p (RG.p (RG.p (RG.p (RG.p (RG.p (RG.mk (regs [a0]) []) 2 (Value.bool false)) 20 a0) 21 v1) 3 v1) 22 v1) 23 v3) 24 v1) 25 v5) 4 v7) 5 v5) 26 v1) 27 v5) 28 v10) 29 v1) 30 v5) 31 v12) 6 v10) 7 v12) 33 v14) 34 v10) 35 v12) 36 v15) 32 v15) 37 v17) 38 v18) 8 v17) 9 v18) 40 v19) 41 v10) 42 v12) 43 v20) 39 v20) 44 v22) 45 v23) 10 v22) 11 v23) 47 v24) 48 v10) 49 v12) 50 v25) 46 v25) 51 v27) 52 v28) 12 v27) 13 v28) 53 v18) 54 v29) 55 v29) 55 (Value.bool false)) 56 v23) 57 v30) 58 v30) 59 v30) 59 (Value.bool false)) 60 v28) 61 v31) 62 v31) 63 v31) 63 (Value.bool true)) 64 undef) 65 undef) 66 undef) 67 undef) 68 (Value.bool true)) h26 (contX pl15 prog J 157 h.length 15 ct15 [1, 1, 1, 1, 1, 1, 1, 0, 1] (codeOf f15) [] (RetQ prog [.tmp 2] h.length K))))
(aLenS v17 fun v32 =>
 aBin prog .neq 3 v32 v5 fun v33 =>
 Hold (W prog J 157 h.length 15 (subC [1, 1, 1, 1, 1, 1, 1, 0, 1] (codeOf f15)) (RG.p (RG.p (RG.p (RG.p (RG.p (RG.p (RG.p (RG.p (RG.p (RG.p (RG.p (RG.p (RG.p (RG.p (RG.p (RG.p (RG.p (RG.p (RG.p (RG.p (RG.p (RG.p (RG.p (RG.p (RG.p (RG.p (RG.p (RG.p (RG.p (RG.p (RG.p (RG.p (RG.p (RG.p (RG.p (RG.p (RG.p (RG.p (RG.p (RG.p (RG.p (RG.p (RG.p (RG.p (RG.p (RG.p (RG.p (RG.p (RG.p (RG.p (RG.p (RG.p (RG.p (RG.p (RG.p (RG.p (RG.p (RG.p (RG.p (RG.p (RG.p (RG.p (RG.p (RG.p (RG.mk (regs [a0]) []) 2 (Value.bool false)) 20 a0) 21 v1) 3 v1) 22 v1) 23 v3) 24 v1) 25 v5) 4 v7) 5 v5) 26 v1) 27 v5) 28 v10) 29 v1) 30 v5) 31 v12) 6 v10) 7 v12) 33 v14) 34 v10) 35 v12) 36 v15) 32 v15) 37 v17) 38 v18) 8 v17) 9 v18) 40 v19) 41 v10) 42 v12) 43 v20) 39 v20) 44 v22) 45 v23) 10 v22) 11 v23) 47 v24) 48 v10) 49 v12) 50 v25) 46 v25) 51 v27) 52 v28) 12 v27) 13 v28) 53 v18) 54 v29) 55 v29) 55 (Value.bool false)) 56 v23) 57 v30) 58 v30) 59 v30) 59 (Value.bool false)) 60 v28) 61 v31) 62 v31) 63 v31) 63 (Value.bool false)) 64 v17) 65 v32) 66 v5) 67 v33) 68 v33) h26 (contX pl15 prog J 157 h.length 15 ct15 [1, 1, 1, 1, 1, 1, 1, 0, 1] (codeOf f15) [] (RetQ prog [.tmp 2] h.length K))))))) := top_eq pok15 ct15 (by kernel_rfl)
theorem s15_1 {f : RG} : W prog J 157 n0 15 (subC [1, 1, 1, 1, 1, 1, 1, 0, 1] (codeOf f15)) f h (contX pl15 prog J 157 n0 15 ct15 [1, 1, 1, 1, 1, 1, 1, 0, 1] (codeOf f15) [] (RetQ prog [.tmp 2] n0 K)) =
(cnd (f.r 68)
(retL n0 K f.ds [(Value.bool false)] h)
(aOff (f.r 4) 0 fun v1 =>
 aLoad false 1 v1 h fun v2 =>
 Sem J 157 n0 15 (subC [1, 1, 1, 1, 1, 1, 1, 1, 1, 0, 1, 0] (codeOf f15)) (RG.p (RG.p (RG.p (RG.p (RG.p f 69 v1) 70 v2) 14 v2) 15 (vint 0)) 16 (vint 0)) h (contX pl15 prog J 157 n0 15 ct15 [1, 1, 1, 1, 1, 1, 1, 1, 1, 0, 1, 0] (codeOf f15) [] (RetQ prog [.tmp 2] n0 K)))) := sub_eq pok15 ct15 (by kernel_rfl)
theorem s15_2 {f : RG} {nx0 : RG → List AObj → Prop} : W prog J 157 n0 15 (subC [1, 1, 1, 1, 1, 1, 1, 1, 1, 0, 1, 0, 0] (codeOf f15)) f h (thenK nx0 (contX pl15 prog J 157 n0 15 ct15 [1, 1, 1, 1, 1, 1, 1, 1, 1, 0, 1, 0] (codeOf f15) [] (RetQ prog [.tmp 2] n0 K))) =
(aBin prog .lss 3 (f.r 16) (f.r 5) fun v1 =>
 cnd v1
(aIdx 1 (f.r 6) (f.r 16) fun v2 =>
 aLoad false 1 v2 h fun v3 =>
 aMin (f.r 14) [v3] fun v4 =>
 aBin prog .sub 3 (f.r 14) v4 fun v5 =>
 aIdx 1 (f.r 6) (f.r 16) fun v6 =>
 aLoad false 1 v6 h fun v7 =>
 aBin prog .gtr 3 v7 (vint 0) fun v8 =>
 cnd v8
(aOff (f.r 4) 4 fun v9 =>
 aLoad false 1 v9 h fun v10 =>
 aBin prog .lss 3 v5 v10 fun v11 =>
 Hold (W prog J 157 n0 15 (subC [1, 1, 1, 1, 1, 1, 1, 1, 1, 0, 1, 0, 0, 1, 0, 0, 1, 1] (codeOf f15)) (RG.p (RG.p (RG.p (RG.p (RG.p (RG.p (RG.p (RG.p (RG.p (RG.p (RG.p (RG.p (RG.p (RG.p (RG.p (RG.p (RG.p (RG.p (RG.p (RG.p (RG.p (RG.p (RG.p (RG.p (RG.p f 71 (f.r 16)) 72 (f.r 5)) 73 v1) 76 (f.r 14)) 77 (f.r 14)) 78 (f.r 6)) 79 (f.r 16)) 80 v2) 81 v3) 82 v4) 83 v5) 17 v5) 84 (f.r 6)) 85 (f.r 16)) 86 v6) 87 v7) 88 v8) 89 v8) 89 (Value.bool true)) 90 v5) 91 v9) 92 v10) 93 v11) 94 v11) 18 v11) h (contX pl15 prog J 157 n0 15 ct15 [1, 1, 1, 1, 1, 1, 1, 1, 1, 0, 1, 0, 0, 1, 0, 0, 1, 1] (codeOf f15) [nx0] (RetQ prog [.tmp 2] n0 K))))
(Hold (W prog J 157 n0 15 (subC [1, 1, 1, 1, 1, 1, 1, 1, 1, 0, 1, 0, 0, 1, 0, 0, 1, 1] (codeOf f15)) (RG.p (RG.p (RG.p (RG.p (RG.p (RG.p (RG.p (RG.p (RG.p (RG.p (RG.p (RG.p (RG.p (RG.p (RG.p (RG.p (RG.p (RG.p (RG.p (RG.p (RG.p (RG.p (RG.p (RG.p (RG.p f 71 (f.r 16)) 72 (f.r 5)) 73 v1) 76 (f.r 14)) 77 (f.r 14)) 78 (f.r 6)) 79 (f.r 16)) 80 v2) 81 v3) 82 v4) 83 v5) 17 v5) 84 (f.r 6)) 85 (f.r 16)) 86 v6) 87 v7) 88 v8) 89 v8) 89 (Value.bool false)) 90 undef) 91 undef) 92 undef) 93 undef) 94 (Value.bool false)) 18 (Value.bool false)) h (contX pl15 prog J 157 n0 15 ct15 [1, 1, 1, 1, 1, 1, 1, 1, 1, 0, 1, 0, 0, 1, 0, 0, 1, 1] (codeOf f15) [nx0] (RetQ prog [.tmp 2] n0 K)))))
(Good prog J 62 [(f.r 10), (f.r 5)] h fun v12 h13 =>
 cnd v12
(Good prog J 62 [(f.r 12), (f.r 5)] h13 fun v14 h15 =>
 cnd v14
(Good prog J 21 [] h15 fun v16 h17 =>
 retL n0 K f.ds [v16] h17)
(retL n0 K f.ds [(Value.bool false)] h15))
(retL n0 K f.ds [(Value.bool false)] h13))) := sub_eq pok15 ct15 (by kernel_rfl)
theorem l15_2 (hJ : Closed prog main J) {S : Type} (μ : S → Nat) (I : S → RG → List AObj → Prop) (hI : ∀ s f h, I s f h → heapOk h → n0 ≤ h.length → W prog J 157 n0 15 (subC [1, 1, 1, 1, 1, 1, 1, 1, 1, 0, 1, 0, 0] (codeOf f15)) f h (thenK (Nx n0 μ I s) (contX pl15 prog J 157 n0 15 ct15 [1, 1, 1, 1, 1, 1, 1, 1, 1, 0, 1, 0] (codeOf f15) [] (RetQ prog [.tmp 2] n0 K))))
  {s : S} {f : RG} (hi : Gets n0 I s f h) : Sem J 157 n0 15 (subC [1, 1, 1, 1, 1, 1, 1, 1, 1, 0, 1, 0] (codeOf f15)) f h (contX pl15 prog J 157 n0 15 ct15 [1, 1, 1, 1, 1, 1, 1, 1, 1, 0, 1, 0] (codeOf f15) [] (RetQ prog [.tmp 2] n0 K)) :=
  loop_rule hJ mixed (b := subC [1, 1, 1, 1, 1, 1, 1, 1, 1, 0, 1, 0, 0] (codeOf f15)) (by kernel_rfl) μ I hI hi
theorem s15_3 {f : RG} {nx0 : RG → List AObj → Prop} : W prog J 157 n0 15 (subC [1, 1, 1, 1, 1, 1, 1, 1, 1, 0, 1, 0, 0, 1, 0, 0, 1, 1] (codeOf f15)) f h (contX pl15 prog J 157 n0 15 ct15 [1, 1, 1, 1, 1, 1, 1, 1, 1, 0, 1, 0, 0, 1, 0, 0, 1, 1] (codeOf f15) [nx0] (RetQ prog [.tmp 2] n0 K)) =
((∃ B, Good prog J 61 [(f.r 10), (f.r 16)] h fun v1 h2 =>
 SameB (some B) h h2 ∧ (aBin prog .geq 3 v1 (vint 0) fun v3 =>
 aBin prog .neq 4 (f.r 18) v3 fun v4 =>
 cnd v4
(Hold (W prog J 157 n0 15 (subC [1, 1, 1, 1, 1, 1, 1, 1, 1, 0, 1, 0, 0, 1, 0, 0, 1, 1, 0, 1] (codeOf f15)) (RG.p (RG.p (RG.p (RG.p (RG.p (RG.p (RG.p (RG.p (RG.p (RG.p (RG.p (RG.p (RG.p (RG.p (RG.p (RG.p (RG.p (RG.p (RG.p (RG.p f 95 (f.r 18)) 96 (f.r 10)) 97 (f.r 16)) 98 v1) 99 v3) 100 v4) 101 v4) 101 (Value.bool true)) 102 undef) 103 undef) 104 undef) 105 undef) 106 undef) 107 undef) 108 undef) 109 undef) 110 undef) 111 undef) 112 undef) 113 (Value.bool true)) h2 (contX pl15 prog J 157 n0 15 ct15 [1, 1, 1, 1, 1, 1, 1, 1, 1, 0, 1, 0, 0, 1, 0, 0, 1, 1, 0, 1] (codeOf f15) [nx0] (RetQ prog [.tmp 2] n0 K))))
(aIdx 1 (f.r 6) (f.r 16) fun v5 =>
 aLoad false 1 v5 h2 fun v6 =>
 RdOk (some B) (ptrBlk v5) ∧ (aBin prog .lss 3 (f.r 14) v6 fun v7 =>
 Good prog J 61 [(f.r 12), (f.r 16)] h2 fun v8 h9 =>
 SameB (some B) h h9 ∧ (aBin prog .geq 3 v8 (vint 0) fun v10 =>
 aBin prog .neq 4 v7 v10 fun v11 =>
 Hold (W prog J 157 n0 15 (subC [1, 1, 1, 1, 1, 1, 1, 1, 1, 0, 1, 0, 0, 1, 0, 0, 1, 1, 0, 1] (codeOf f15)) (RG.p (RG.p (RG.p (RG.p (RG.p (RG.p (RG.p (RG.p (RG.p (RG.p (RG.p (RG.p (RG.p (RG.p (RG.p (RG.p (RG.p (RG.p (RG.p (RG.p f 95 (f.r 18)) 96 (f.r 10)) 97 (f.r 16)) 98 v1) 99 v3) 100 v4) 101 v4) 101 (Value.bool false)) 102 (f.r 14)) 103 (f.r 6)) 104 (f.r 16)) 105 v5) 106 v6) 107 v7) 108 (f.r 12)) 109 (f.r 16)) 110 v8) 111 v10) 112 v11) 113 v11) h9 (contX pl15 prog J 157 n0 15 ct15 [1, 1, 1, 1, 1, 1, 1, 1, 1, 0, 1, 0, 0, 1, 0, 0, 1, 1, 0, 1] (codeOf f15) [nx0] (RetQ prog [.tmp 2] n0 K))))))))) := sub_eq pok15 ct15 (by kernel_rfl)
theorem s15_4 {f : RG} {nx0 : RG → List AObj → Prop} : W prog J 157 n0 15 (subC [1, 1, 1, 1, 1, 1, 1, 1, 1, 0, 1, 0, 0, 1, 0, 0, 1, 1, 0, 1] (codeOf f15)) f h (contX pl15 prog J 157 n0 15 ct15 [1, 1, 1, 1, 1, 1, 1, 1, 1, 0, 1, 0, 0, 1, 0, 0, 1, 1, 0, 1] (codeOf f15) [nx0] (RetQ prog [.tmp 2] n0 K)) =
(cnd (f.r 113)
(retL n0 K f.ds [(Value.bool false)] h)
(cnd (f.r 18)
(aBin prog .add 3 (f.r 16) (vint 1) fun v1 =>
 aOff (f.r 4) 5 fun v2 =>
 aLoad false 1 v2 h fun v3 =>
 aBin prog .add 3 v1 v3 fun v4 =>
 Hold (W prog J 157 n0 15 (subC [1, 1, 1, 1, 1, 1, 1, 1, 1, 0, 1, 0, 0, 1, 0, 0, 1, 1, 1, 1] (codeOf f15)) (RG.p (RG.p (RG.p (RG.p (RG.p (RG.p (RG.p f 114 (f.r 18)) 115 (f.r 16)) 116 v1) 117 v2) 118 v3) 119 v4) 15 v4) h (contX pl15 prog J 157 n0 15 ct15 [1, 1, 1, 1, 1, 1, 1, 1, 1, 0, 1, 0, 0, 1, 0, 0, 1, 1, 1, 1] (codeOf f15) [nx0] (RetQ prog [.tmp 2] n0 K))))
(Hold (W prog J 157 n0 15 (subC [1, 1, 1, 1, 1, 1, 1, 1, 1, 0, 1, 0, 0, 1, 0, 0, 1, 1, 1, 1] (codeOf f15)) (RG.p f 114 (f.r 18)) h (contX pl15 prog J 157 n0 15 ct15 [1, 1, 1, 1, 1, 1, 1, 1, 1, 0, 1, 0, 0, 1, 0, 0, 1, 1, 1, 1] (codeOf f15) [nx0] (RetQ prog [.tmp 2] n0 K)))))) := sub_eq pok15 ct15 (by kernel_rfl)
theorem s15_5 {f : RG} {nx0 : RG → List AObj → Prop} : W prog J 157 n0 15 (subC [1, 1, 1, 1, 1, 1, 1, 1, 1, 0, 1, 0, 0, 1, 0, 0, 1, 1, 1, 1] (codeOf f15)) f h (contX pl15 prog J 157 n0 15 ct15 [1, 1, 1, 1, 1, 1, 1, 1, 1, 0, 1, 0, 0, 1, 0, 0, 1, 1, 1, 1] (codeOf f15) [nx0] (RetQ prog [.tmp 2] n0 K)) =
(aOff (f.r 4) 2 fun v1 =>
 aLoad false 1 v1 h fun v2 =>
 aIdxStr (f.r 7) (f.r 16) fun v3 =>
 aBin prog .eql 5 v3 (Value.int .u8 119) fun v4 =>
 cnd v4
(aOff (f.r 4) 3 fun v5 =>
 aLoad false 1 v5 h fun v6 =>
 Hold (W prog J 157 n0 15 (subC [1, 1, 1, 1, 1, 1, 1, 1, 1, 0, 1, 0, 0, 1, 0, 0, 1, 1, 1, 1, 1, 1] (codeOf f15)) (RG.p (RG.p (RG.p (RG.p (RG.p (RG.p (RG.p (RG.p (RG.p (RG.p f 120 v1) 121 v2) 19 v2) 122 (f.r 7)) 123 (f.r 16)) 124 v3) 125 v4) 126 v5) 127 v6) 19 v6) h (contX pl15 prog J 157 n0 15 ct15 [1, 1, 1, 1, 1, 1, 1, 1, 1, 0, 1, 0, 0, 1, 0, 0, 1, 1, 1, 1, 1, 1] (codeOf f15) [nx0] (RetQ prog [.tmp 2] n0 K))))
(Hold (W prog J 157 n0 15 (subC [1, 1, 1, 1, 1, 1, 1, 1, 1, 0, 1, 0, 0, 1, 0, 0, 1, 1, 1, 1, 1, 1] (codeOf f15)) (RG.p (RG.p (RG.p (RG.p (RG.p (RG.p (RG.p f 120 v1) 121 v2) 19 v2) 122 (f.r 7)) 123 (f.r 16)) 124 v3) 125 v4) h (contX pl15 prog J 157 n0 15 ct15 [1, 1, 1, 1, 1, 1, 1, 1, 1, 0, 1, 0, 0, 1, 0, 0, 1, 1, 1, 1, 1, 1] (codeOf f15) [nx0] (RetQ prog [.tmp 2] n0 K))))) := sub_eq pok15 ct15 (by kernel_rfl)
theorem s15_6 {f : RG} {nx0 : RG → List AObj → Prop} : W prog J 157 n0 15 (subC [1, 1, 1, 1, 1, 1, 1, 1, 1, 0, 1, 0, 0, 1, 0, 0, 1, 1, 1, 1, 1, 1] (codeOf f15)) f h (contX pl15 prog J 157 n0 15 ct15 [1, 1, 1, 1, 1, 1, 1, 1, 1, 0, 1, 0, 0, 1, 0, 0, 1, 1, 1, 1, 1, 1] (codeOf f15) [nx0] (RetQ prog [.tmp 2] n0 K)) =
(aBin prog .lss 3 (f.r 16) (f.r 15) fun v1 =>
 cnd v1
(Hold (W prog J 157 n0 15 (subC [1, 1, 1, 1, 1, 1, 1, 1, 1, 0, 1, 0, 0, 1, 0, 0, 1, 1, 1, 1, 1, 1, 1] (codeOf f15)) (RG.p (RG.p (RG.p (RG.p f 128 (f.r 16)) 129 (f.r 15)) 130 v1) 19 (vint 0)) h (contX pl15 prog J 157 n0 15 ct15 [1, 1, 1, 1, 1, 1, 1, 1, 1, 0, 1, 0, 0, 1, 0, 0, 1, 1, 1, 1, 1, 1, 1] (codeOf f15) [nx0] (RetQ prog [.tmp 2] n0 K))))
(Hold (W prog J 157 n0 15 (subC [1, 1, 1, 1, 1, 1, 1, 1, 1, 0, 1, 0, 0, 1, 0, 0, 1, 1, 1, 1, 1, 1, 1] (codeOf f15)) (RG.p (RG.p (RG.p f 128 (f.r 16)) 129 (f.r 15)) 130 v1) h (contX pl15 prog J 157 n0 15 ct15 [1, 1, 1, 1, 1, 1, 1, 1, 1, 0, 1, 0, 0, 1, 0, 0, 1, 1, 1, 1, 1, 1, 1] (codeOf f15) [nx0] (RetQ prog [.tmp 2] n0 K))))) := sub_eq pok15 ct15 (by kernel_rfl)
theorem s15_7 {f : RG} {nx0 : RG → List AObj → Prop} : W prog J 157 n0 15 (subC [1, 1, 1, 1, 1, 1, 1, 1, 1, 0, 1, 0, 0, 1, 0, 0, 1, 1, 1, 1, 1, 1, 1] (codeOf f15)) f h (contX pl15 prog J 157 n0 15 ct15 [1, 1, 1, 1, 1, 1, 1, 1, 1, 0, 1, 0, 0, 1, 0, 0, 1, 1, 1, 1, 1, 1, 1] (codeOf f15) [nx0] (RetQ prog [.tmp 2] n0 K)) =
(aBin prog .add 3 (f.r 17) (f.r 19) fun v1 =>
 aOff (f.r 4) 1 fun v2 =>
 aLoad false 1 v2 h fun v3 =>
 aBin prog .gtr 3 v1 v3 fun v4 =>
 cnd v4
(aOff (f.r 4) 1 fun v5 =>
 aLoad false 1 v5 h fun v6 =>
 Hold (W prog J 157 n0 15 (subC [1, 1, 1, 1, 1, 1, 1, 1, 1, 0, 1, 0, 0, 1, 0, 0, 1, 1, 1, 1, 1, 1, 1, 1, 1] (codeOf f15)) (RG.p (RG.p (RG.p (RG.p (RG.p (RG.p (RG.p (RG.p (RG.p (RG.p (RG.p f 131 (f.r 17)) 132 (f.r 19)) 133 v1) 14 v1) 134 v1) 135 v2) 136 v3) 137 v4) 138 v5) 139 v6) 14 v6) h (contX pl15 prog J 157 n0 15 ct15 [1, 1, 1, 1, 1, 1, 1, 1, 1, 0, 1, 0, 0, 1, 0, 0, 1, 1, 1, 1, 1, 1, 1, 1, 1] (codeOf f15) [nx0] (RetQ prog [.tmp 2] n0 K))))
(Hold (W prog J 157 n0 15 (subC [1, 1, 1, 1, 1, 1, 1, 1, 1, 0, 1, 0, 0, 1, 0, 0, 1, 1, 1, 1, 1, 1, 1, 1, 1] (codeOf f15)) (RG.p (RG.p (RG.p (RG.p (RG.p (RG.p (RG.p (RG.p f 131 (f.r 17)) 132 (f.r 19)) 133 v1) 14 v1) 134 v1) 135 v2) 136 v3) 137 v4) h (contX pl15 prog J 157 n0 15 ct15 [1, 1, 1, 1, 1, 1, 1, 1, 1, 0, 1, 0, 0, 1, 0, 0, 1, 1, 1, 1, 1, 1, 1, 1, 1] (codeOf f15) [nx0] (RetQ prog [.tmp 2] n0 K))))) := sub_eq pok15 ct15 (by kernel_rfl)
theorem s15_8 {f : RG} {nx0 : RG → List AObj → Prop} : W prog J 157 n0 15 (subC [1, 1, 1, 1, 1, 1, 1, 1, 1, 0, 1, 0, 0, 1, 0, 0, 1, 1, 1, 1, 1, 1, 1, 1, 1] (codeOf f15)) f h (contX pl15 prog J 157 n0 15 ct15 [1, 1, 1, 1, 1, 1, 1, 1, 1, 0, 1, 0, 0, 1, 0, 0, 1, 1, 1, 1, 1, 1, 1, 1, 1] (codeOf f15) [nx0] (RetQ prog [.tmp 2] n0 K)) =
(aIdx 1 (f.r 8) (f.r 16) fun v1 =>
 aLoad false 1 v1 h fun v2 =>
 aBin prog .neq 3 v2 (f.r 14) fun v3 =>
 cnd v3
(retL n0 K f.ds [(Value.bool false)] h)
(aBin prog .add 3 (f.r 16) (vint 1) fun v4 =>
 nx0 (RG.p (RG.p (RG.p (RG.p (RG.p (RG.p (RG.p (RG.p (RG.p f 140 (f.r 8)) 141 (f.r 16)) 142 v1) 143 v2) 144 (f.r 14)) 145 v3) 74 (f.r 16)) 75 v4) 16 v4) h)) := sub_eq pok15 ct15 (by kernel_rfl)
theorem at62 : prog.funcs[62]? = some f62 := by kernel_rfl
theorem body62 : f62.body = some (codeOf f62) := by kernel_rfl
def pl62 : Plans := [(4, true, .take 0 (.take 1 (.take 2 (.take 3 (.take 4 (.take 5 (.take 6 (.take 7 (.take 8 (.take 9 (.take 10 (.take 11 (.take 12 (.take 13 (.take 14 (.take 15 (.take 16 (.take 17 (.take 18 (.take 19 (.take 20 (.take 21 (.take 22 (.take 23 (.take 24 (.take 25 (.take 26 (.take 27 (.take 28 (.fin))))))))))))))))))))))))))))))]
def ct62 : Cuts := .bin (.go) (.bin (.bin (.go) (.un (.un (.bin (.go) (.bin (.un (.bin (.go) (.cut (.go)))) (.go)))))) (.go))
theorem pok62 : plansOk prog pl62 (codeOf f62) = true := by kernel_rfl
theorem e62 {a0 a1 : Value} : W prog J 41 h.length 62 (codeOf f62) (RG.mk (regs [a0, a1]) []) h (RetQ prog [.tmp 4] h.length K) =
(Sem J 41 h.length 62 (subC [1, 0, 1, 0] (codeOf f62)) (RG.p (RG.p (RG.mk (regs [a0, a1]) []) 4 (Value.bool false)) 5 (vint 0)) h (contX pl62 prog J 41 h.length 62 ct62 [1, 0, 1, 0] (codeOf f62) [] (RetQ prog [.tmp 4] h.length K))) := top_eq pok62 ct62 (by kernel_rfl)
theorem g62 (hJ : Closed prog main J) {a0 a1 : Value} (hs : heapOk h → W prog J 41 h.length 62 (codeOf f62) (RG.mk (regs [a0, a1]) []) h (RetQ prog [.tmp 4] h.length K)) : Good prog J 62 [a0, a1] h K :=
  good_of_W hJ mixed at62 body62 (by kernel_rfl) (Nat.le_of_ble_eq_true rfl) hs
theorem s62_1 {f : RG} {nx0 : RG → List AObj → Prop} : W prog J 41 n0 62 (subC [1, 0, 1, 0, 0] (codeOf f62)) f h (thenK nx0 (contX pl62 prog J 41 n0 62 ct62 [1, 0, 1, 0] (codeOf f62) [] (RetQ prog [.tmp 4] n0 K))) =
(aLenS (f.r 0) fun v1 =>
 aBin prog .lss 3 (f.r 5) v1 fun v2 =>
 cnd v2
(aIdx 1 (f.r 0) (f.r 5) fun v3 =>
 aLoad false 1 v3 h fun v4 =>
 aBin prog .lss 3 v4 (vint 0) fun v5 =>
 cnd v5
(Hold (W prog J 41 n0 62 (subC [1, 0, 1, 0, 0, 1, 0, 0, 1] (codeOf f62)) (RG.p (RG.p (RG.p (RG.p (RG.p (RG.p (RG.p (RG.p (RG.p (RG.p (RG.p (RG.p (RG.p (RG.p (RG.p (RG.p (RG.p (RG.p (RG.p (RG.p (RG.p (RG.p (RG.p (RG.p (RG.p (RG.p (RG.p (RG.p (RG.p (RG.p (RG.p (RG.p (RG.p (RG.p (RG.p f 6 (f.r 5)) 7 (f.r 0)) 8 v1) 9 v2) 12 (f.r 0)) 13 (f.r 5)) 14 v3) 15 v4) 16 v5) 17 v5) 17 (Value.bool true)) 18 undef) 19 undef) 20 undef) 21 undef) 22 undef) 23 undef) 24 (Value.bool true)) 25 (Value.bool true)) 25 (Value.bool true)) 26 undef) 27 undef) 28 undef) 29 undef) 30 undef) 31 undef) 32 undef) 33 undef) 34 undef) 35 undef) 36 undef) 37 undef) 38 undef) 39 undef) 40 (Value.bool true)) h (contX pl62 prog J 41 n0 62 ct62 [1, 0, 1, 0, 0, 1, 0, 0, 1] (codeOf f62) [nx0] (RetQ prog [.tmp 4] n0 K))))
(aIdx 1 (f.r 0) (f.r 5) fun v6 =>
 aLoad false 1 v6 h fun v7 =>
 aBin prog .geq 3 v7 (f.r 1) fun v8 =>
 cnd v8
(Hold (W prog J 41 n0 62 (subC [1, 0, 1, 0, 0, 1, 0, 0, 1] (codeOf f62)) (RG.p (RG.p (RG.p (RG.p (RG.p (RG.p (RG.p (RG.p (RG.p (RG.p (RG.p (RG.p (RG.p (RG.p (RG.p (RG.p (RG.p (RG.p (RG.p (RG.p (RG.p (RG.p (RG.p (RG.p (RG.p (RG.p (RG.p (RG.p (RG.p (RG.p (RG.p (RG.p (RG.p (RG.p (RG.p f 6 (f.r 5)) 7 (f.r 0)) 8 v1) 9 v2) 12 (f.r 0)) 13 (f.r 5)) 14 v3) 15 v4) 16 v5) 17 v5) 17 (Value.bool false)) 18 (f.r 0)) 19 (f.r 5)) 20 v6) 21 v7) 22 (f.r 1)) 23 v8) 24 v8) 25 v8) 25 (Value.bool true)) 26 undef) 27 undef) 28 undef) 29 undef) 30 undef) 31 undef) 32 undef) 33 undef) 34 undef) 35 undef) 36 undef) 37 undef) 38 undef) 39 undef) 40 (Value.bool true)) h (contX pl62 prog J 41 n0 62 ct62 [1, 0, 1, 0, 0, 1, 0, 0, 1] (codeOf f62) [nx0] (RetQ prog [.tmp 4] n0 K))))
(aBin prog .gtr 3 (f.r 5) (vint 0) fun v9 =>
 cnd v9
(aIdx 1 (f.r 0) (f.r 5) fun v10 =>
 aLoad false 1 v10 h fun v11 =>
 aBin prog .sub 3 (f.r 5) (vint 1) fun v12 =>
 aIdx 1 (f.r 0) v12 fun v13 =>
 aLoad false 1 v13 h fun v14 =>
 aBin prog .leq 3 v11 v14 fun v15 =>
 Hold (W prog J 41 n0 62 (subC [1, 0, 1, 0, 0, 1, 0, 0, 1] (codeOf f62)) (RG.p (RG.p (RG.p (RG.p (RG.p (RG.p (RG.p (RG.p (RG.p (RG.p (RG.p (RG.p (RG.p (RG.p (RG.p (RG.p (RG.p (RG.p (RG.p (RG.p (RG.p (RG.p (RG.p (RG.p (RG.p (RG.p (RG.p (RG.p (RG.p (RG.p (RG.p (RG.p (RG.p (RG.p (RG.p (RG.p f 6 (f.r 5)) 7 (f.r 0)) 8 v1) 9 v2) 12 (f.r 0)) 13 (f.r 5)) 14 v3) 15 v4) 16 v5) 17 v5) 17 (Value.bool false)) 18 (f.r 0)) 19 (f.r 5)) 20 v6) 21 v7) 22 (f.r 1)) 23 v8) 24 v8) 25 v8) 25 (Value.bool false)) 26 (f.r 5)) 27 v9) 28 v9) 28 (Value.bool true)) 29 (f.r 0)) 30 (f.r 5)) 31 v10) 32 v11) 33 (f.r 0)) 34 (f.r 5)) 35 v12) 36 v13) 37 v14) 38 v15) 39 v15) 40 v15) h (contX pl62 prog J 41 n0 62 ct62 [1, 0, 1, 0, 0, 1, 0, 0, 1] (codeOf f62) [nx0] (RetQ prog [.tmp 4] n0 K))))
(Hold (W prog J 41 n0 62 (subC [1, 0, 1, 0, 0, 1, 0, 0, 1] (codeOf f62)) (RG.p (RG.p (RG.p (RG.p (RG.p (RG.p (RG.p (RG.p (RG.p (RG.p (RG.p (RG.p (RG.p (RG.p (RG.p (RG.p (RG.p (RG.p (RG.p (RG.p (RG.p (RG.p (RG.p (RG.p (RG.p (RG.p (RG.p (RG.p (RG.p (RG.p (RG.p (RG.p (RG.p (RG.p (RG.p (RG.p f 6 (f.r 5)) 7 (f.r 0)) 8 v1) 9 v2) 12 (f.r 0)) 13 (f.r 5)) 14 v3) 15 v4) 16 v5) 17 v5) 17 (Value.bool false)) 18 (f.r 0)) 19 (f.r 5)) 20 v6) 21 v7) 22 (f.r 1)) 23 v8) 24 v8) 25 v8) 25 (Value.bool false)) 26 (f.r 5)) 27 v9) 28 v9) 28 (Value.bool false)) 29 undef) 30 undef) 31 undef) 32 undef) 33 undef) 34 undef) 35 undef) 36 undef) 37 undef) 38 undef) 39 (Value.bool false)) 40 (Value.bool false)) h (contX pl62 prog J 41 n0 62 ct62 [1, 0, 1, 0, 0, 1, 0, 0, 1] (codeOf f62) [nx0] (RetQ prog [.tmp 4] n0 K)))))))
(retL n0 K f.ds [(Value.bool true)] h)) := sub_eq pok62 ct62 (by kernel_rfl)
theorem l62_1 (hJ : Closed prog main J) {S : Type} (μ : S → Nat) (I : S → RG → List AObj → Prop) (hI : ∀ s f h, I s f h → heapOk h → n0 ≤ h.length → W prog J 41 n0 62 (subC [1, 0, 1, 0, 0] (codeOf f62)) f h (thenK (Nx n0 μ I s) (contX pl62 prog J 41 n0 62 ct62 [1, 0, 1, 0] (codeOf f62) [] (RetQ prog [.tmp 4] n0 K))))
  {s : S} {f : RG} (hi : Gets n0 I s f h) : Sem J 41 n0 62 (subC [1, 0, 1, 0] (codeOf f62)) f h (contX pl62 prog J 41 n0 62 ct62 [1, 0, 1, 0] (codeOf f62) [] (RetQ prog [.tmp 4] n0 K)) :=
  loop_rule hJ mixed (b := subC [1, 0, 1, 0, 0] (codeOf f62)) (by kernel_rfl) μ I hI hi
theorem s62_2 {f : RG} {nx0 : RG → List AObj → Prop} : W prog J 41 n0 62 (subC [1, 0, 1, 0, 0, 1, 0, 0, 1] (codeOf f62)) f h (contX pl62 prog J 41 n0 62 ct62 [1, 0, 1, 0, 0, 1, 0, 0, 1] (codeOf f62) [nx0] (RetQ prog [.tmp 4] n0 K)) =
(cnd (f.r 40)
(retL n0 K f.ds [(Value.bool false)] h)
(aBin prog .add 3 (f.r 5) (vint 1) fun v1 =>
 nx0 (RG.p (RG.p (RG.p f 10 (f.r 5)) 11 v1) 5 v1) h)) := sub_eq pok62 ct62 (by kernel_rfl)
theorem at61 : prog.funcs[61]? = some f61 := by kernel_rfl
theorem body61 : f61.body = some (codeOf f61) := by kernel_rfl
def pl61 : Plans := []
def ct61 : Cuts := .go
theorem pok61 : plansOk prog pl61 (codeOf f61) = true := by kernel_rfl
theorem e61 {a0 a1 : Value} : W prog J 19 h.length 61 (codeOf f61) (RG.mk (regs [a0, a1]) []) h (RetQ prog [.tmp 4] h.length K) =
(Sem J 19 h.length 61 (subC [1, 0, 1, 0] (codeOf f61)) (RG.p (RG.p (RG.mk (regs [a0, a1]) []) 4 (vint 0)) 5 (vint 0)) h (contX pl61 prog J 19 h.length 61 ct61 [1, 0, 1, 0] (codeOf f61) [] (RetQ prog [.tmp 4] h.length K))) := top_eq pok61 ct61 (by kernel_rfl)
theorem g61 (hJ : Closed prog main J) {a0 a1 : Value} (hs : heapOk h → W prog J 19 h.length 61 (codeOf f61) (RG.mk (regs [a0, a1]) []) h (RetQ prog [.tmp 4] h.length K)) : Good prog J 61 [a0, a1] h K :=
  good_of_W hJ mixed at61 body61 (by kernel_rfl) (Nat.le_of_ble_eq_true rfl) hs
theorem s61_1 {f : RG} {nx0 : RG → List AObj → Prop} : W prog J 19 n0 61 (subC [1, 0, 1, 0, 0] (codeOf f61)) f h (thenK nx0 (contX pl61 prog J 19 n0 61 ct61 [1, 0, 1, 0] (codeOf f61) [] (RetQ prog [.tmp 4] n0 K))) =
(aLenS (f.r 0) fun v1 =>
 aBin prog .lss 3 (f.r 5) v1 fun v2 =>
 cnd v2
(aIdx 1 (f.r 0) (f.r 5) fun v3 =>
 aLoad false 1 v3 h fun v4 =>
 aBin prog .eql 3 v4 (f.r 1) fun v5 =>
 cnd v5
(retL n0 K f.ds [(f.r 5)] h)
(aBin prog .add 3 (f.r 5) (vint 1) fun v6 =>
 nx0 (RG.p (RG.p (RG.p (RG.p (RG.p (RG.p (RG.p (RG.p (RG.p (RG.p (RG.p (RG.p (RG.p f 6 (f.r 5)) 7 (f.r 0)) 8 v1) 9 v2) 12 (f.r 0)) 13 (f.r 5)) 14 v3) 15 v4) 16 (f.r 1)) 17 v5) 10 (f.r 5)) 11 v6) 5 v6) h))
(retL n0 K f.ds [(vint (-1))] h)) := sub_eq pok61 ct61 (by kernel_rfl)
theorem l61_1 (hJ : Closed prog main J) {S : Type} (μ : S → Nat) (I : S → RG → List AObj → Prop) (hI : ∀ s f h, I s f h → heapOk h → n0 ≤ h.length → W prog J 19 n0 61 (subC [1, 0, 1, 0, 0] (codeOf f61)) f h (thenK (Nx n0 μ I s) (contX pl61 prog J 19 n0 61 ct61 [1, 0, 1, 0] (codeOf f61) [] (RetQ prog [.tmp 4] n0 K))))
  {s : S} {f : RG} (hi : Gets n0 I s f h) : Sem J 19 n0 61 (subC [1, 0, 1, 0] (codeOf f61)) f h (contX pl61 prog J 19 n0 61 ct61 [1, 0, 1, 0] (codeOf f61) [] (RetQ prog [.tmp 4] n0 K)) :=
  loop_rule hJ mixed (b := subC [1, 0, 1, 0, 0] (codeOf f61)) (by kernel_rfl) μ I hI hi
end
section
variable {main : Bool} {J : JT} {n0 : Nat} {h : List AObj} {K : Value → List AObj → Prop}
def pl9 : Plans := [(20, true, .take 0 (.take 1 (.take 2 (.take 3 (.take 4 (.take 5 (.take 6 (.take 7 (.take 8 (.fin)))))))))),
  (22, false, .take 0 (.take 1 (.take 2 (.take 3 (.take 4 (.take 5 (.take 6 (.take 7 (.take 8 (.take 9 (.take 10 (.take 11 (.take 12 (.take 13 (.take 14 (.take 15 (.take 16 (.take 17 (.last 18 true (.take 19 (.take 20 (.fin))))))))))))))))))))))]
def ct9 : Cuts := .bin (.go) (.bin (.go) (.bin (.go) (.bin (.go) (.bin (.go) (.bin (.bin (.go) (.un (.un (.bin (.go) (.bin (.un (.bin (.go) (.cut (.go)))) (.go)))))) (.bin (.go) (.bin (.go) (.bin (.go) (.bin (.go) (.bin (.bin (.go) (.cut (.go))) (.go)))))))))))
theorem pok9 : plansOk prog pl9 (codeOf f9) = true := by kernel_rfl
theorem e9 {a0 : Value} : W prog J 136 h.length 9 (codeOf f9) (RG.mk (regs [a0]) []) h (RetQ prog [.tmp 2] h.length K) =
(Good prog J 22 [a0] h fun v1 h2 =>
 Good prog J 24 [v1] h2 fun v3 h4 =>
 Good prog J 23 [v1, (vint 1), (vint 8)] h4 fun v5 h6 =>
 aAlloc [(vint 0), (vint 0), (vint 0), (vint 0), (vint 0), (vint 0)] h6 fun v7 h8 =>
 aStore 6 v7 v3 h8 fun h9 =>
 Good prog J 30 [v1, v5, (vint 10)] h9 fun v10 h11 =>
 Good prog J 31 [v1, v5] h11 fun v12 h13 =>
 Sem J 136 h.length 9 (subC [1, 1, 1, 1, 1, 0, 1, 0] (codeOf f9)) (RG.p (RG.p (RG.p (RG.p (RG.p (RG.p (RG.p (RG.p (RG.p (RG.p (RG.p (RG.p (RG.p (RG.p (RG.p (RG.p (RG.p (RG.p (RG.p (RG.p (RG.mk (regs [a0]) []) 2 (Value.bool false)) 19 a0) 20 v1) 3 v1) 21 v1) 22 v3) 23 v1) 24 v5) 4 v7) 5 v5) 25 v1) 26 v5) 27 v10) 28 v1) 29 v5) 30 v12) 6 v10) 7 v12) 8 (Value.string { data := #[] })) 9 (vint 0)) h13 (contX pl9 prog J 136 h.length 9 ct9 [1, 1, 1, 1, 1, 0, 1, 0] (codeOf f9) [] (RetQ prog [.tmp 2] h.length K))) := top_eq pok9 ct9 (by kernel_rfl)
end
section
variable {main : Bool} {J : JT} {n0 : Nat} {h : List AObj} {K : Value → List AObj → Prop}
theorem at58 : prog.funcs[58]? = some f58 := by kernel_rfl
theorem body58 : f58.body = some (codeOf f58) := by kernel_rfl
def pl58 : Plans := []
def ct58 : Cuts := .go
theorem pok58 : plansOk prog pl58 (codeOf f58) = true := by kernel_rfl
theorem e58 {a0 a1 a2 : Value} : W prog J 23 h.length 58 (codeOf f58) (RG.mk (regs [a0, a1, a2]) []) h (RetQ prog [.tmp 6, .tmp 7] h.length K) =
(aBox a0 h fun v1 h2 =>
 aLoad true 6 v1 h2 fun v3 =>
 Good prog J 85 [v3, a1, a2] h2 fun v4 h5 =>
 aBin prog .neq 37 v4 (vint 0) fun v6 =>
 cnd v6
(retL h.length K [] [(Value.slice none 0 0), v4] h5)
(aAlloc [(Value.slice none 0 0)] h5 fun v7 h8 =>
 aLoad true 6 v1 h8 fun v9 =>
 aMkF 103 [] [v7] fun v10 =>
 Good prog J 86 [v9, a1, a2, v10] h8 fun v11 h12 =>
 aLoad false 1 v7 h12 fun v13 =>
 retL h.length K [] [v13, (vint 0)] h12)) := top_eq pok58 ct58 (by kernel_rfl)
theorem g58 (hJ : Closed prog main J) {a0 a1 a2 : Value} (hs : heapOk h → W prog J 23 h.length 58 (codeOf f58) (RG.mk (regs [a0, a1, a2]) []) h (RetQ prog [.tmp 6, .tmp 7] h.length K)) : Good prog J 58 [a0, a1, a2] h K :=
  good_of_W hJ mixed at58 body58 (by kernel_rfl) (Nat.le_of_ble_eq_true rfl) hs
theorem at103 : prog.funcs[103]? = some f103 := by kernel_rfl
theorem body103 : f103.body = some (codeOf f103) := by kernel_rfl
def pl103 : Plans := []
def ct103 : Cuts := .go
theorem pok103 : plansOk prog pl103 (codeOf f103) = true := by kernel_rfl
theorem e103 {a0 a1 a2 a3 a4 : Value} : W prog J 14 h.length 103 (codeOf f103) (RG.mk (regs [a0, a1, a2, a3, a4]) []) h (RetQ prog [] h.length K) =
(cnd a3
(aLoad false 1 a4 h fun v1 =>
(((1 * 1 : Nat) ≤ 16777216 ∧ (1 : Nat) ≤ 16777216 ∧ List.length [(vint 0)] = 1) ∧ aFill (zrep [(vint 0)] 1) [(0, 1, a0)] fun c2 =>
 aNewS 1 c2 h fun v3 h4 =>
((List.length [(vint 0)] = 1 ∧ 0 < (1 : Nat) ∧ 0 < (8 : Nat) ∧ (8 : Nat) ≤ 1024) ∧ aApp 1 v1 v3 h4 fun v5 h6 =>
 aStore 1 a4 v5 h6 fun h7 =>
 retL h.length K [] [] h7)))
(retL h.length K [] [] h)) := top_eq pok103 ct103 (by kernel_rfl)
theorem g103 (hJ : Closed prog main J) {a0 a1 a2 a3 a4 : Value} (hs : heapOk h → W prog J 14 h.length 103 (codeOf f103) (RG.mk (regs [a0, a1, a2, a3, a4]) []) h (RetQ prog [] h.length K)) : Good prog J 103 [a0, a1, a2, a3, a4] h K :=
  good_of_W hJ mixed at103 body103 (by kernel_rfl) (Nat.le_of_ble_eq_true rfl) hs
theorem at43 : prog.funcs[43]? = some f43 := by kernel_rfl
theorem body43 : f43.body = some (codeOf f43) := by kernel_rfl
def pl43 : Plans := []
def ct43 : Cuts := .go
theorem pok43 : plansOk prog pl43 (codeOf f43) = true := by kernel_rfl
theorem e43 {a0 a1 a2 : Value} : W prog J 23 h.length 43 (codeOf f43) (RG.mk (regs [a0, a1, a2]) []) h (RetQ prog [.tmp 6, .tmp 7] h.length K) =
(aBox a0 h fun v1 h2 =>
 aLoad true 6 v1 h2 fun v3 =>
 Good prog J 85 [v3, a1, a2] h2 fun v4 h5 =>
 aBin prog .neq 37 v4 (vint 0) fun v6 =>
 cnd v6
(retL h.length K [] [(Value.slice none 0 0), v4] h5)
(aAlloc [(Value.slice none 0 0)] h5 fun v7 h8 =>
 aLoad true 6 v1 h8 fun v9 =>
 aMkF 94 [] [v7] fun v10 =>
 Good prog J 86 [v9, a1, a2, v10] h8 fun v11 h12 =>
 aLoad false 1 v7 h12 fun v13 =>
 retL h.length K [] [v13, (vint 0)] h12)) := top_eq pok43 ct43 (by kernel_rfl)
theorem g43 (hJ : Closed prog main J) {a0 a1 a2 : Value} (hs : heapOk h → W prog J 23 h.length 43 (codeOf f43) (RG.mk (regs [a0, a1, a2]) []) h (RetQ prog [.tmp 6, .tmp 7] h.length K)) : Good prog J 43 [a0, a1, a2] h K :=
  good_of_W hJ mixed at43 body43 (by kernel_rfl) (Nat.le_of_ble_eq_true rfl) hs
theorem at94 : prog.funcs[94]? = some f94 := by kernel_rfl
theorem body94 : f94.body = some (codeOf f94) := by kernel_rfl
def pl94 : Plans := []
def ct94 : Cuts := .go
theorem pok94 : plansOk prog pl94 (codeOf f94) = true := by kernel_rfl
theorem e94 {a0 a1 a2 a3 a4 : Value} : W prog J 14 h.length 94 (codeOf f94) (RG.mk (regs [a0, a1, a2, a3, a4]) []) h (RetQ prog [] h.length K) =
(cnd a2
(aLoad false 1 a4 h fun v1 =>
(((1 * 1 : Nat) ≤ 16777216 ∧ (1 : Nat) ≤ 16777216 ∧ List.length [(vint 0)] = 1) ∧ aFill (zrep [(vint 0)] 1) [(0, 1, a0)] fun c2 =>
 aNewS 1 c2 h fun v3 h4 =>
((List.length [(vint 0)] = 1 ∧ 0 < (1 : Nat) ∧ 0 < (8 : Nat) ∧ (8 : Nat) ≤ 1024) ∧ aApp 1 v1 v3 h4 fun v5 h6 =>
 aStore 1 a4 v5 h6 fun h7 =>
 retL h.length K [] [] h7)))
(retL h.length K [] [] h)) := top_eq pok94 ct94 (by kernel_rfl)
theorem g94 (hJ : Closed prog main J) {a0 a1 a2 a3 a4 : Value} (hs : heapOk h → W prog J 14 h.length 94 (codeOf f94) (RG.mk (regs [a0, a1, a2, a3, a4]) []) h (RetQ prog [] h.length K)) : Good prog J 94 [a0, a1, a2, a3, a4] h K :=
  good_of_W hJ mixed at94 body94 (by kernel_rfl) (Nat.le_of_ble_eq_true rfl) hs
end
end Go.Proofs.Ythnccaajpdnndaa
namespace Go.Proofs.Ythnccaajpdnndaa
open Go.Conc Go.Proofs.Try
set_option maxRecDepth 100000
section
variable {main : Bool} {J : JT} {h H : List AObj} {K : Value → List AObj → Prop} {KV : Value → Prop} {HL : List AObj → Prop} {n0 : Nat}
theorem good103 (hJ : Closed prog main J) {q j : Nat} {b : Bool} {a1 a2 v : Value} {xs : List Int} {o : Option Nat} (hq : H[q]? = some (.cells [v] true 0)) (O : OwnX H 1 (xs.map vint) xs.length v o) (hne : o ≠ some q) (hk : xs.length < 100000)
    (hK : ∀ H' v' o', SameX (q :: o.toList) H H' → H'[q]? = some (.cells [v'] true 0) → OwnX H' 1 ((xs ++ if b = true then [(j : Int)] else []).map vint) (xs ++ if b = true then [(j : Int)] else []).length v' o' → o' ≠ some q → (∀ i, o' = some i → o = some i ∨ H.length ≤ i) → K (pack []) H') : Good prog J 103 [vint (j : Nat), a1, a2, .bool b, ptr q 0] H K := by
  refine g103 hJ fun ok => ?_
  rw [e103]
  have kv := (ownX_val O).2.2
  refine cndB (fun hb => ?_) fun hb => ?_
  · rw [hb, if_pos rfl] at hK
    refine ldI (v := v) hq rfl kv ⟨⟨by decide, by decide, rfl⟩, fillO (l := [vint (j : Nat)]) rfl rfl rfl (by decide) (fillI (qNew fun H1 p1 e1 S1 c1 l1 => ?_))⟩
    have hq1 := S1.get hq (by simp)
    have lq := lt_of_get hq
    refine ⟨⟨rfl, by decide, by decide, by decide⟩, ownX_more (ownX_keep O S1 (by simp)) (by decide) hk (e := [vint (j : Nat)]) ⟨_, _, rfl, ⟨rfl, rfl⟩, .inr ⟨p1, 0, rfl, .inr ⟨_, _, _, c1, rfl⟩⟩⟩ fun v' H2 p2 e2 O2 S2 => ?_⟩
    have hq2 : H2[q]? = some (.cells [v] true 0) := S2.get hq1 (by
      cases o with
      | none => simp
      | some i => simp; exact fun e => hne (by rw [e]))
    have vv := ownX_val O2
    refine qSt hq2 (by simp) vv.1 vv.2.1 fun H3 S3 c3 l3 => retL_same (by simp) (hK H3 v' (some p2) ?_ c3 ?_ (by simp; omega) fun i hi => by cases hi; right; omega)
    · refine ((S1.weak0.thru S2 fun y hy => .inl (by simp [hy])).thru S3 fun y hy => .inl (by simp at hy; simp [hy]) : SameX (q :: o.toList) H H3)
    · rw [List.map_append, List.length_append]
      exact ownX_keep O2 S3 (fun i hi => by cases hi; simp; omega)
  · rw [hb, if_neg (by decide), List.append_nil] at hK
    exact retL_same (by simp) (hK H v o SameX.refl hq O hne fun i hi => .inl hi)
theorem good58 (hJ : Closed prog main J) {p : Pas} {heads : List Int} {w : List UInt8} {hv : Value} (sh : Sli H hv 1 heads.length (heads.map vint)) (hl : heads.length < 1000000) (hw : w.length ≤ 1000000)
    (hK0 : askE p heads w ≠ 0 → ∀ H', SameX [] H H' → K (.tuple ⟨[.slice none 0 0, vint (askE p heads w)]⟩) H')
    (hK1 : askE p heads w = 0 → ∀ H' v, SameX [] H H' → Sli H' v 1 (daysR (shortAt p heads w) w.length).length ((daysR (shortAt p heads w) w.length).map vint) → K (.tuple ⟨[v, vint 0]⟩) H') : Good prog J 58 [.agg ⟨p.cells⟩, hv, strV w] H K := by
  refine g58 hJ fun ok => ?_
  rw [e58]
  refine qBox (l := p.cells) rfl fun H1 p1 e1 S1 c1 l1 => load_part (c := p.cells) c1 (by simp [Pas.cells]) rfl rfl ?_
  refine good85 hJ (S1.sli sh (by simp)) hl hw fun H2 S2 => neqI (cndI (fun h1 => retL_same (by simp [unk]) (hK0 h1 H2 (S1.trans S2))) fun h1 => ?_)
  have h1 := Classical.not_not.1 h1
  obtain ⟨fp, fw, fl, fh, fo⟩ := askE_ok h1
  have T2 := S1.trans S2
  refine qAl fun H3 q e3 S3 c3 l3 => load_part (c := p.cells) (S3.get (S2.get c1 (by simp)) (by simp)) (by simp [Pas.cells]) rfl rfl ⟨rfl, ?_⟩
  have T3 := T2.trans S3
  have hqH : H.length ≤ q := by
    have := T2.1
    omega
  refine good86 hJ fp fh T3 sh (by omega) (by omega) (O0 := [q]) (fun x hx => by rw [List.mem_singleton.1 hx]; exact hqH)
    (I := fun k O H1 => ∃ v o, H1[q]? = some (.cells [v] true 0) ∧ OwnX H1 1 ((daysR (shortAt p heads w) k).map vint) (daysR (shortAt p heads w) k).length v o ∧ o ≠ some q ∧ O = q :: o.toList)
    ⟨_, none, c3, ⟨rfl, rfl, .inl ⟨rfl, rfl, rfl⟩⟩, by simp, rfl⟩ (fun k O H1 ⟨v, o, hq, ho, hne, e⟩ x hx => ?_) (fun k O H1 H2 X ⟨v, o, hq, ho, hne, e⟩ S hX => ?_) (fun k O H1 K1 ⟨v, o, hq, ho, hne, e⟩ hk hk1 => ?_) fun O H' ⟨v, o, hq, ho, hne, e⟩ S => ?_
  · rw [e] at hx
    rcases List.mem_cons.1 hx with rfl | hx
    · exact lt_of_get hq
    · exact ownX_lt ho x (by simpa using hx)
  · refine ⟨v, o, S.get hq (hX q (by rw [e]; simp)), ownX_keep ho S (fun i hi => hX i (by rw [e, hi]; simp)), hne, e⟩
  · have hf := daysR_few (q := shortAt p heads w) (k := k)
    refine callCz (by kernel_rfl) (good103 hJ hq ho hne (by omega) fun H2 v' o' S' hq' ho' hne' hnew => hk1 (q :: o'.toList) H2 _ ⟨v', o', hq', by rw [daysR_succ]; exact ho', hne', rfl⟩ (by rw [e]; exact S') fun x hx => ?_)
    rcases List.mem_cons.1 hx with rfl | hx
    · exact .inl (by rw [e]; simp)
    · rcases hnew x (by simpa using hx) with h | h
      · exact .inl (by rw [e, h]; simp)
      · exact .inr h
  · have kv := (ownX_val ho).2.2
    refine ldI (v := v) hq rfl kv (retL_same ?_ (hK1 h1 H' v ?_ (ownX_sli ho)))
    · intro x hx
      simp only [List.mem_cons, List.not_mem_nil, or_false] at hx
      rcases hx with rfl | rfl
      · exact ownU ho
      · simp [unk]
    · exact T3.thru S fun x hx => .inr (by rw [List.mem_singleton.1 hx]; exact hqH)
theorem good94 (hJ : Closed prog main J) {q j : Nat} {b : Bool} {a1 a2 v : Value} {xs : List Int} {o : Option Nat} (hq : H[q]? = some (.cells [v] true 0)) (O : OwnX H 1 (xs.map vint) xs.length v o) (hne : o ≠ some q) (hk : xs.length < 100000)
    (hK : ∀ H' v' o', SameX (q :: o.toList) H H' → H'[q]? = some (.cells [v'] true 0) → OwnX H' 1 ((xs ++ if b = true then [(j : Int)] else []).map vint) (xs ++ if b = true then [(j : Int)] else []).length v' o' → o' ≠ some q → (∀ i, o' = some i → o = some i ∨ H.length ≤ i) → K (pack []) H') : Good prog J 94 [vint (j : Nat), a1, .bool b, a2, ptr q 0] H K := by
  refine g94 hJ fun ok => ?_
  rw [e94]
  have kv := (ownX_val O).2.2
  refine cndB (fun hb => ?_) fun hb => ?_
  · rw [hb, if_pos rfl] at hK
    refine ldI (v := v) hq rfl kv ⟨⟨by decide, by decide, rfl⟩, fillO (l := [vint (j : Nat)]) rfl rfl rfl (by decide) (fillI (qNew fun H1 p1 e1 S1 c1 l1 => ?_))⟩
    have hq1 := S1.get hq (by simp)
    have lq := lt_of_get hq
    refine ⟨⟨rfl, by decide, by decide, by decide⟩, ownX_more (ownX_keep O S1 (by simp)) (by decide) hk (e := [vint (j : Nat)]) ⟨_, _, rfl, ⟨rfl, rfl⟩, .inr ⟨p1, 0, rfl, .inr ⟨_, _, _, c1, rfl⟩⟩⟩ fun v' H2 p2 e2 O2 S2 => ?_⟩
    have hq2 : H2[q]? = some (.cells [v] true 0) := S2.get hq1 (by
      cases o with
      | none => simp
      | some i => simp; exact fun e => hne (by rw [e]))
    have vv := ownX_val O2
    refine qSt hq2 (by simp) vv.1 vv.2.1 fun H3 S3 c3 l3 => retL_same (by simp) (hK H3 v' (some p2) ?_ c3 ?_ (by simp; omega) fun i hi => by cases hi; right; omega)
    · refine ((S1.weak0.thru S2 fun y hy => .inl (by simp [hy])).thru S3 fun y hy => .inl (by simp at hy; simp [hy]) : SameX (q :: o.toList) H H3)
    · rw [List.map_append, List.length_append]
      exact ownX_keep O2 S3 (fun i hi => by cases hi; simp; omega)
  · rw [hb, if_neg (by decide), List.append_nil] at hK
    exact retL_same (by simp) (hK H v o SameX.refl hq O hne fun i hi => .inl hi)
theorem good43 (hJ : Closed prog main J) {p : Pas} {heads : List Int} {w : List UInt8} {hv : Value} (sh : Sli H hv 1 heads.length (heads.map vint)) (hl : heads.length < 1000000) (hw : w.length ≤ 1000000)
    (hK0 : askE p heads w ≠ 0 → ∀ H', SameX [] H H' → K (.tuple ⟨[.slice none 0 0, vint (askE p heads w)]⟩) H')
    (hK1 : askE p heads w = 0 → ∀ H' v, SameX [] H H' → Sli H' v 1 (daysR (hungAt p heads w) w.length).length ((daysR (hungAt p heads w) w.length).map vint) → K (.tuple ⟨[v, vint 0]⟩) H') : Good prog J 43 [.agg ⟨p.cells⟩, hv, strV w] H K := by
  refine g43 hJ fun ok => ?_
  rw [e43]
  refine qBox (l := p.cells) rfl fun H1 p1 e1 S1 c1 l1 => load_part (c := p.cells) c1 (by simp [Pas.cells]) rfl rfl ?_
  refine good85 hJ (S1.sli sh (by simp)) hl hw fun H2 S2 => neqI (cndI (fun h1 => retL_same (by simp [unk]) (hK0 h1 H2 (S1.trans S2))) fun h1 => ?_)
  have h1 := Classical.not_not.1 h1
  obtain ⟨fp, fw, fl, fh, fo⟩ := askE_ok h1
  have T2 := S1.trans S2
  refine qAl fun H3 q e3 S3 c3 l3 => load_part (c := p.cells) (S3.get (S2.get c1 (by simp)) (by simp)) (by simp [Pas.cells]) rfl rfl ⟨rfl, ?_⟩
  have T3 := T2.trans S3
  have hqH : H.length ≤ q := by
    have := T2.1
    omega
  refine good86 hJ fp fh T3 sh (by omega) (by omega) (O0 := [q]) (fun x hx => by rw [List.mem_singleton.1 hx]; exact hqH)
    (I := fun k O H1 => ∃ v o, H1[q]? = some (.cells [v] true 0) ∧ OwnX H1 1 ((daysR (hungAt p heads w) k).map vint) (daysR (hungAt p heads w) k).length v o ∧ o ≠ some q ∧ O = q :: o.toList)
    ⟨_, none, c3, ⟨rfl, rfl, .inl ⟨rfl, rfl, rfl⟩⟩, by simp, rfl⟩ (fun k O H1 ⟨v, o, hq, ho, hne, e⟩ x hx => ?_) (fun k O H1 H2 X ⟨v, o, hq, ho, hne, e⟩ S hX => ?_) (fun k O H1 K1 ⟨v, o, hq, ho, hne, e⟩ hk hk1 => ?_) fun O H' ⟨v, o, hq, ho, hne, e⟩ S => ?_
  · rw [e] at hx
    rcases List.mem_cons.1 hx with rfl | hx
    · exact lt_of_get hq
    · exact ownX_lt ho x (by simpa using hx)
  · refine ⟨v, o, S.get hq (hX q (by rw [e]; simp)), ownX_keep ho S (fun i hi => hX i (by rw [e, hi]; simp)), hne, e⟩
  · have hf := daysR_few (q := hungAt p heads w) (k := k)
    refine callCz (by kernel_rfl) (good94 hJ hq ho hne (by omega) fun H2 v' o' S' hq' ho' hne' hnew => hk1 (q :: o'.toList) H2 _ ⟨v', o', hq', by rw [daysR_succ]; exact ho', hne', rfl⟩ (by rw [e]; exact S') fun x hx => ?_)
    rcases List.mem_cons.1 hx with rfl | hx
    · exact .inl (by rw [e]; simp)
    · rcases hnew x (by simpa using hx) with h | h
      · exact .inl (by rw [e, h]; simp)
      · exact .inr h
  · have kv := (ownX_val ho).2.2
    refine ldI (v := v) hq rfl kv (retL_same ?_ (hK1 h1 H' v ?_ (ownX_sli ho)))
    · intro x hx
      simp only [List.mem_cons, List.not_mem_nil, or_false] at hx
      rcases hx with rfl | rfl
      · exact ownU ho
      · simp [unk]
    · exact T3.thru S fun x hx => .inr (by rw [List.mem_singleton.1 hx]; exact hqH)
end
end Go.Proofs.Ythnccaajpdnndaa
namespace Go.Proofs.Ythnccaajpdnndaa
open Go.Conc Go.Proofs.Try
set_option maxRecDepth 100000
set_option maxHeartbeats 4000000
set_option linter.unusedVariables false
section
variable {main : Bool} {J : JT} {n0 : Nat} {h : List AObj} {K : Value → List AObj → Prop}
theorem at5 : prog.funcs[5]? = some f5 := by kernel_rfl
theorem body5 : f5.body = some (codeOf f5) := by kernel_rfl
def pl5 : Plans := [(3, false, .take 0 (.take 1 (.take 3 (.take 4 (.alt 2 true (.last 5 true (.last 6 false (.take 7 (.take 8 (.take 9 (.take 10 (.take 11 (.fin)))))))) (.last 5 true (.last 2 true (.last 6 false (.take 7 (.take 8 (.take 9 (.take 10 (.take 11 (.fin)))))))))))))),
  (10, true, .take 0 (.take 1 (.take 2 (.take 3 (.take 4 (.take 5 (.take 6 (.take 7 (.take 8 (.take 9 (.take 10 (.take 11 (.take 12 (.take 13 (.take 14 (.fin))))))))))))))))]
def ct5 : Cuts := .bin (.go) (.bin (.go) (.bin (.go) (.bin (.go) (.cut (.bin (.bin (.go) (.cut (.go))) (.bin (.go) (.bin (.bin (.go) (.un (.un (.bin (.go) (.bin (.un (.bin (.bin (.go) (.cut (.go))) (.go))) (.go)))))) (.go))))))))
theorem pok5 : plansOk prog pl5 (codeOf f5) = true := by kernel_rfl
theorem e5 {a0 : Value} : W prog J 61 h.length 5 (codeOf f5) (RG.mk (regs [a0]) []) h (RetQ prog [.tmp 2] h.length K) =
(Good prog J 22 [a0] h fun v1 h2 =>
 Good prog J 24 [v1] h2 fun v3 h4 =>
 Good prog J 23 [v1, (vint 1), (vint 8)] h4 fun v5 h6 =>
 aAlloc [(vint 0), (vint 0), (vint 0), (vint 0), (vint 0), (vint 0)] h6 fun v7 h8 =>
 aStore 6 v7 v3 h8 fun h9 =>
(∃ B, aLoad true 6 v7 h9 fun v10 =>
 RdOk (some B) (ptrBlk v7) ∧ ((((List.length [(vint 0)] = 1 ∧ (8 : Nat) ≤ 1024) ∧ aMkS [(vint 0)] v5 v5 h9 fun v11 h12 =>
 SameB (some B) h9 h12 ∧ (Good prog J 31 [v1, v5] h12 fun v13 h14 =>
 SameB (some B) h9 h14 ∧ (Good prog J 32 [v10, v11, v13] h14 fun v15 h16 =>
 aExt v15 0 fun v17 =>
 aExt v15 1 fun v18 =>
 Hold (W prog J 61 h.length 5 (subC [1, 1, 1, 1] (codeOf f5)) (RG.p (RG.p (RG.p (RG.p (RG.p (RG.p (RG.p (RG.p (RG.p (RG.p (RG.p (RG.p (RG.p (RG.p (RG.p (RG.p (RG.p (RG.p (RG.p (RG.p (RG.p (RG.p (RG.mk (regs [a0]) []) 2 (Value.bool false)) 10 a0) 11 v1) 3 v1) 12 v1) 13 v3) 14 v1) 15 v5) 4 v7) 5 v5) 17 v10) 18 v5) 20 v1) 21 v5) 19 v11) 22 v13) 23 v15) 16 v15) 24 v17) 25 v18) 6 v17) 7 v18) h16 (contX pl5 prog J 61 h.length 5 ct5 [1, 1, 1, 1] (codeOf f5) [] (RetQ prog [.tmp 2] h.length K))))))) ∧ (Good prog J 31 [v1, v5] h9 fun v19 h20 =>
 SameB (some B) h9 h20 ∧ (((List.length [(vint 0)] = 1 ∧ (8 : Nat) ≤ 1024) ∧ aMkS [(vint 0)] v5 v5 h20 fun v21 h22 =>
 SameB (some B) h9 h22 ∧ (Good prog J 32 [v10, v21, v19] h22 fun v23 h24 =>
 aExt v23 0 fun v25 =>
 aExt v23 1 fun v26 =>
 Hold (W prog J 61 h.length 5 (subC [1, 1, 1, 1] (codeOf f5)) (RG.p (RG.p (RG.p (RG.p (RG.p (RG.p (RG.p (RG.p (RG.p (RG.p (RG.p (RG.p (RG.p (RG.p (RG.p (RG.p (RG.p (RG.p (RG.p (RG.p (RG.p (RG.p (RG.mk (regs [a0]) []) 2 (Value.bool false)) 10 a0) 11 v1) 3 v1) 12 v1) 13 v3) 14 v1) 15 v5) 4 v7) 5 v5) 17 v10) 18 v5) 20 v1) 21 v5) 22 v19) 19 v21) 23 v23) 16 v23) 24 v25) 25 v26) 6 v25) 7 v26) h24 (contX pl5 prog J 61 h.length 5 ct5 [1, 1, 1, 1] (codeOf f5) [] (RetQ prog [.tmp 2] h.length K)))))))))) := top_eq pok5 ct5 (by kernel_rfl)
theorem g5 (hJ : Closed prog main J) {a0 : Value} (hs : heapOk h → W prog J 61 h.length 5 (codeOf f5) (RG.mk (regs [a0]) []) h (RetQ prog [.tmp 2] h.length K)) : Good prog J 5 [a0] h K :=
  good_of_W hJ mixed at5 body5 (by kernel_rfl) (Nat.le_of_ble_eq_true rfl) hs
end
end Go.Proofs.Ythnccaajpdnndaa
namespace Go.Proofs.Ythnccaajpdnndaa
open Go.Conc Go.Proofs.Try
set_option maxRecDepth 100000
structure FineG (q p : Pas) : Prop where
  grass : p.grass ≤ q.grass
  bears : q.bears = p.bears
  dry : p.dry ≤ q.dry
  wet : p.wet ≤ q.wet
  stubble : q.stubble ≤ p.stubble
  sleep : q.sleep ≤ p.sleep
theorem FineG.refl {p : Pas} : FineG p p := ⟨Int.le_refl _, rfl, Int.le_refl _, Int.le_refl _, Int.le_refl _, Int.le_refl _⟩
def wetter (v w : List UInt8) : Prop := ∀ i, wetB (w.getD i 0) = true → wetB (v.getD i 0) = true
theorem wetter.refl {w : List UInt8} : wetter w w := fun _ h => h
end Go.Proofs.Ythnccaajpdnndaa
namespace Go.Proofs.Ythnccaajpdnndaa
open Go.Conc Go.Proofs.Try
set_option maxRecDepth 100000
set_option maxHeartbeats 4000000
set_option linter.unusedVariables false
section
variable {main : Bool} {J : JT} {n0 : Nat} {h : List AObj} {K : Value → List AObj → Prop}
theorem at30 : prog.funcs[30]? = some f30 := by kernel_rfl
theorem body30 : f30.body = some (codeOf f30) := by kernel_rfl
def pl30 : Plans := []
def ct30 : Cuts := .go
theorem pok30 : plansOk prog pl30 (codeOf f30) = true := by kernel_rfl
theorem e30 {a0 a1 a2 : Value} : W prog J 30 h.length 30 (codeOf f30) (RG.mk (regs [a0, a1, a2]) []) h (RetQ prog [.tmp 6] h.length K) =
(Good prog J 26 [a0, a2] h fun v1 h2 =>
 Sem J 30 h.length 30 (subC [1, 1, 1, 0, 1, 0] (codeOf f30)) (RG.p (RG.p (RG.p (RG.p (RG.p (RG.p (RG.p (RG.mk (regs [a0, a1, a2]) []) 6 (Value.slice none 0 0)) 7 (Value.slice none 0 0)) 10 a0) 11 a2) 12 v1) 8 v1) 9 (vint 0)) h2 (contX pl30 prog J 30 h.length 30 ct30 [1, 1, 1, 0, 1, 0] (codeOf f30) [] (RetQ prog [.tmp 6] h.length K))) := top_eq pok30 ct30 (by kernel_rfl)
theorem g30 (hJ : Closed prog main J) {a0 a1 a2 : Value} (hs : heapOk h → W prog J 30 h.length 30 (codeOf f30) (RG.mk (regs [a0, a1, a2]) []) h (RetQ prog [.tmp 6] h.length K)) : Good prog J 30 [a0, a1, a2] h K :=
  good_of_W hJ mixed at30 body30 (by kernel_rfl) (Nat.le_of_ble_eq_true rfl) hs
theorem s30_1 {f : RG} {nx0 : RG → List AObj → Prop} : W prog J 30 n0 30 (subC [1, 1, 1, 0, 1, 0, 0] (codeOf f30)) f h (thenK nx0 (contX pl30 prog J 30 n0 30 ct30 [1, 1, 1, 0, 1, 0] (codeOf f30) [] (RetQ prog [.tmp 6] n0 K))) =
(aBin prog .lss 3 (f.r 9) (f.r 1) fun v1 =>
 cnd v1
(Good prog J 26 [(f.r 0), (f.r 2)] h fun v2 h3 =>
(((3 * 1 : Nat) ≤ 16777216 ∧ (3 : Nat) ≤ 16777216 ∧ List.length [(vint 0)] = 1) ∧ aFill (zrep [(vint 0)] 3) [(0, 1, (f.r 8)), (1, 1, (vint 0)), (2, 1, v2)] fun c4 =>
 aNewS 3 c4 h3 fun v5 h6 =>
 Good prog J 69 [(f.r 0), (f.r 8), v5] h6 fun v7 h8 =>
(((1 * 1 : Nat) ≤ 16777216 ∧ (1 : Nat) ≤ 16777216 ∧ List.length [(vint 0)] = 1) ∧ aFill (zrep [(vint 0)] 1) [(0, 1, v7)] fun c9 =>
 aNewS 1 c9 h8 fun v10 h11 =>
((List.length [(vint 0)] = 1 ∧ 0 < (1 : Nat) ∧ 0 < (8 : Nat) ∧ (8 : Nat) ≤ 1024) ∧ aApp 1 (f.r 7) v10 h11 fun v12 h13 =>
 aBin prog .add 3 (f.r 9) (vint 1) fun v14 =>
 nx0 (RG.p (RG.p (RG.p (RG.p (RG.p (RG.p (RG.p (RG.p (RG.p (RG.p (RG.p (RG.p (RG.p (RG.p (RG.p (RG.p (RG.p (RG.p f 13 (f.r 9)) 14 (f.r 1)) 15 v1) 18 (f.r 7)) 19 (f.r 0)) 20 (f.r 8)) 21 (f.r 8)) 22 (f.r 0)) 23 (f.r 2)) 24 v2) 25 v5) 26 v7) 27 v10) 28 v12) 7 v12) 16 (f.r 9)) 17 v14) 9 v14) h13))))
(retL n0 K f.ds [(f.r 7)] h)) := sub_eq pok30 ct30 (by kernel_rfl)
theorem l30_1 (hJ : Closed prog main J) {S : Type} (μ : S → Nat) (I : S → RG → List AObj → Prop) (hI : ∀ s f h, I s f h → heapOk h → n0 ≤ h.length → W prog J 30 n0 30 (subC [1, 1, 1, 0, 1, 0, 0] (codeOf f30)) f h (thenK (Nx n0 μ I s) (contX pl30 prog J 30 n0 30 ct30 [1, 1, 1, 0, 1, 0] (codeOf f30) [] (RetQ prog [.tmp 6] n0 K))))
  {s : S} {f : RG} (hi : Gets n0 I s f h) : Sem J 30 n0 30 (subC [1, 1, 1, 0, 1, 0] (codeOf f30)) f h (contX pl30 prog J 30 n0 30 ct30 [1, 1, 1, 0, 1, 0] (codeOf f30) [] (RetQ prog [.tmp 6] n0 K)) :=
  loop_rule hJ mixed (b := subC [1, 1, 1, 0, 1, 0, 0] (codeOf f30)) (by kernel_rfl) μ I hI hi
theorem at31 : prog.funcs[31]? = some f31 := by kernel_rfl
theorem body31 : f31.body = some (codeOf f31) := by kernel_rfl
def pl31 : Plans := []
def ct31 : Cuts := .go
theorem pok31 : plansOk prog pl31 (codeOf f31) = true := by kernel_rfl
theorem e31 {a0 a1 : Value} : W prog J 19 h.length 31 (codeOf f31) (RG.mk (regs [a0, a1]) []) h (RetQ prog [.tmp 4] h.length K) =
(Sem J 19 h.length 31 (subC [1, 1, 0, 1, 0] (codeOf f31)) (RG.p (RG.p (RG.p (RG.mk (regs [a0, a1]) []) 4 (Value.string { data := #[] })) 5 (Value.string { data := #[] })) 6 (vint 0)) h (contX pl31 prog J 19 h.length 31 ct31 [1, 1, 0, 1, 0] (codeOf f31) [] (RetQ prog [.tmp 4] h.length K))) := top_eq pok31 ct31 (by kernel_rfl)
theorem g31 (hJ : Closed prog main J) {a0 a1 : Value} (hs : heapOk h → W prog J 19 h.length 31 (codeOf f31) (RG.mk (regs [a0, a1]) []) h (RetQ prog [.tmp 4] h.length K)) : Good prog J 31 [a0, a1] h K :=
  good_of_W hJ mixed at31 body31 (by kernel_rfl) (Nat.le_of_ble_eq_true rfl) hs
theorem s31_1 {f : RG} {nx0 : RG → List AObj → Prop} : W prog J 19 n0 31 (subC [1, 1, 0, 1, 0, 0] (codeOf f31)) f h (thenK nx0 (contX pl31 prog J 19 n0 31 ct31 [1, 1, 0, 1, 0] (codeOf f31) [] (RetQ prog [.tmp 4] n0 K))) =
(aBin prog .lss 3 (f.r 6) (f.r 1) fun v1 =>
 cnd v1
(Good prog J 42 [(f.r 0), (vint 1), (vint 2)] h fun v2 h3 =>
 cnd v2
(aBin prog .add 9 (f.r 5) (Value.string { data := #[100] }) fun v4 =>
 aBin prog .add 3 (f.r 6) (vint 1) fun v5 =>
 nx0 (RG.p (RG.p (RG.p (RG.p (RG.p (RG.p (RG.p (RG.p (RG.p (RG.p (RG.p f 7 (f.r 6)) 8 (f.r 1)) 9 v1) 12 (f.r 0)) 13 v2) 14 (f.r 5)) 15 v4) 5 v4) 10 (f.r 6)) 11 v5) 6 v5) h3)
(aBin prog .add 9 (f.r 5) (Value.string { data := #[119] }) fun v6 =>
 aBin prog .add 3 (f.r 6) (vint 1) fun v7 =>
 nx0 (RG.p (RG.p (RG.p (RG.p (RG.p (RG.p (RG.p (RG.p (RG.p (RG.p (RG.p f 7 (f.r 6)) 8 (f.r 1)) 9 v1) 12 (f.r 0)) 13 v2) 16 (f.r 5)) 17 v6) 5 v6) 10 (f.r 6)) 11 v7) 6 v7) h3))
(retL n0 K f.ds [(f.r 5)] h)) := sub_eq pok31 ct31 (by kernel_rfl)
theorem l31_1 (hJ : Closed prog main J) {S : Type} (μ : S → Nat) (I : S → RG → List AObj → Prop) (hI : ∀ s f h, I s f h → heapOk h → n0 ≤ h.length → W prog J 19 n0 31 (subC [1, 1, 0, 1, 0, 0] (codeOf f31)) f h (thenK (Nx n0 μ I s) (contX pl31 prog J 19 n0 31 ct31 [1, 1, 0, 1, 0] (codeOf f31) [] (RetQ prog [.tmp 4] n0 K))))
  {s : S} {f : RG} (hi : Gets n0 I s f h) : Sem J 19 n0 31 (subC [1, 1, 0, 1, 0] (codeOf f31)) f h (contX pl31 prog J 19 n0 31 ct31 [1, 1, 0, 1, 0] (codeOf f31) [] (RetQ prog [.tmp 4] n0 K)) :=
  loop_rule hJ mixed (b := subC [1, 1, 0, 1, 0, 0] (codeOf f31)) (by kernel_rfl) μ I hI hi
theorem at42 : prog.funcs[42]? = some f42 := by kernel_rfl
theorem body42 : f42.body = some (codeOf f42) := by kernel_rfl
def pl42 : Plans := []
def ct42 : Cuts := .go
theorem pok42 : plansOk prog pl42 (codeOf f42) = true := by kernel_rfl
theorem e42 {a0 a1 a2 : Value} : W prog J 13 h.length 42 (codeOf f42) (RG.mk (regs [a0, a1, a2]) []) h (RetQ prog [.tmp 6] h.length K) =
(aBin prog .sub 3 a2 (vint 1) fun v1 =>
 Good prog J 26 [a0, v1] h fun v2 h3 =>
 aBin prog .lss 3 v2 a1 fun v4 =>
 retL h.length K [] [v4] h3) := top_eq pok42 ct42 (by kernel_rfl)
theorem g42 (hJ : Closed prog main J) {a0 a1 a2 : Value} (hs : heapOk h → W prog J 13 h.length 42 (codeOf f42) (RG.mk (regs [a0, a1, a2]) []) h (RetQ prog [.tmp 6] h.length K)) : Good prog J 42 [a0, a1, a2] h K :=
  good_of_W hJ mixed at42 body42 (by kernel_rfl) (Nat.le_of_ble_eq_true rfl) hs
end
end Go.Proofs.Ythnccaajpdnndaa
namespace Go.Proofs.Ythnccaajpdnndaa
open Go.Conc Go.Proofs.Try
set_option maxRecDepth 100000
section
variable {main : Bool} {J : JT} {h H : List AObj} {K : Value → List AObj → Prop} {KV : Value → Prop} {HL : List AObj → Prop} {n0 : Nat} {ns : List Int} {k : Nat}
theorem strAddR {c : UInt8} {u : List UInt8} {t : TypeId} (hu : u.length ≤ 1000000) (hk : KV (strV (u ++ [c]))) : aBin prog .add t (strV u) (Value.string { data := #[c] }) KV := by
  have hrm : (2000000 : Nat) < room := by decide
  show (ByteArray.mk ⟨u⟩).size + (ByteArray.mk #[c]).size ≤ room ∧ KV (.string (ByteArray.mk ⟨u⟩ ++ ByteArray.mk #[c]))
  have e1 : (ByteArray.mk #[c]).size = 1 := rfl
  have e2 : (ByteArray.mk ⟨u⟩).size = u.length := rfl
  have e3 : ByteArray.mk ⟨u⟩ ++ ByteArray.mk #[c] = ByteArray.mk ⟨u ++ [c]⟩ := by
    apply ByteArray.ext
    rw [ByteArray.data_append]
    apply Array.ext'
    rw [Array.toList_append]
  rw [e1, e2, e3]
  exact ⟨by omega, hk⟩
theorem good42 (hJ : Closed prog main J) (a : HX h H ns k) (hk : k < 900000) {x y : Int} (hy : -1000000 ≤ y ∧ y ≤ 1000000)
    (hK : ∀ b H', SameX [h.length] H H' → H'.length = H.length → HX h H' ns (k + 1) → K (.bool b) H') : Good prog J 42 [ptr h.length 0, vint x, vint y] H K := by
  refine g42 hJ fun ok => ?_
  rw [e42]
  refine subI (by omega) (upX hJ a (by omega) (by omega) fun u H1 u1 u2 S1 l1 a1 => lssI (retL_same (by simp [unk]) (hK _ H1 S1 l1 a1)))
theorem good30 (hJ : Closed prog main J) (a : HX h H ns k) (hk : k < 400000) {D : Nat} {m : Int} (hD : D ≤ 8) (hm : 0 ≤ m ∧ m ≤ 40)
    (hK : ∀ (xs : List Int) v o H', xs.length = D → (∀ x ∈ xs, 0 ≤ x ∧ x ≤ m) → SameX [h.length] H H' → HX h H' ns (k + 20) → OwnX H' 1 (xs.map vint) D v o → (∀ i, o = some i → H.length ≤ i) → K v H') : Good prog J 30 [ptr h.length 0, vint (D : Nat), vint m] H K := by
  refine g30 hJ fun ok => ?_
  rw [e30]
  have hlt := hxLt a
  refine upX hJ a (by omega) (by omega) fun u H1 u1 u2 S1 l1 a1 => ?_
  refine l30_1 hJ (fun i : Nat => D - i) (fun i F H' => i ≤ D ∧ (∃ xs v o, xs.length = i ∧ (∀ x ∈ xs, 0 ≤ x ∧ x ≤ m) ∧ OwnX H' 1 (xs.map vint) i v o ∧ (∀ j, o = some j → H.length ≤ j) ∧ F.r 7 = v) ∧ SameX [h.length] H H' ∧ HX h H' ns (k + 1 + 2 * i) ∧ F.ds = [] ∧ F.r 0 = ptr h.length 0 ∧ F.r 1 = vint (D : Nat) ∧ F.r 2 = vint m ∧ F.r 8 = vint u ∧ F.r 9 = vint (i : Nat)) ?_ (s := 0)
    (.inl ⟨Nat.zero_le _, ⟨[], _, none, rfl, by simp, ⟨rfl, rfl, .inl ⟨rfl, rfl, rfl⟩⟩, by simp, rfl⟩, S1, a1, rfl, rfl, rfl, rfl, rfl, rfl⟩)
  rintro i F H' ⟨hi, ⟨xs, v, o, hx, hxs, O, ho, r7⟩, S, b, ds, r0, r1, r2, r8, r9⟩ okc hnc
  rw [s30_1, r0, r1, r2, r7, r8, r9, ds]
  have hS := S.1
  refine lssI (cndI (fun hl => ?_) fun hge => ?_)
  · refine upX hJ b (by omega) (by omega) fun y H2 y1 y2 S2 l2 b2 => ⟨by decide, fillO (l := [vint u]) rfl rfl rfl (by decide) (fillO (l := [vint 0]) rfl rfl rfl (by rw [wrAt_length]; decide) (fillO (l := [vint y]) rfl rfl rfl (by rw [wrAt_length, wrAt_length]; decide) (fillI (qNew fun H3 p3 e3 S3 c3 l3 => ?_))))⟩
    have c3 : H3[p3]? = some (.cells (([u, 0, y] : List Int).map vint) true 0) := c3
    refine ofZ hJ (b2.same S3 (by simp)) (by omega) c3 (by omega) rfl (by simp) fun z H4 m4 S4 l4 b4 => ?_
    have hz : 0 ≤ z ∧ z ≤ m := by
      rcases m4 with e | e
      · omega
      · simp only [List.mem_cons, List.not_mem_nil, or_false] at e
        omega
    refine ⟨by decide, fillO (l := [vint z]) rfl rfl rfl (by decide) (fillI (qNew fun H5 p5 e5 S5 c5 l5 => ?_))⟩
    have S25 : SameX [h.length] H' H5 := ((S2.trans S3.weak0).trans S4).trans S5.weak0
    have T5 := S.trans S25
    have hno : ∀ j, o = some j → j ∉ [h.length] := fun j hj => by
      have := ho j hj
      simp
      omega
    refine ⟨by decide, ownX_more (ownX_keep O S25 hno) (by decide) (by omega) (e := [vint z]) ⟨_, _, rfl, ⟨rfl, rfl⟩, .inr ⟨p5, 0, rfl, .inr ⟨_, _, _, c5, rfl⟩⟩⟩ fun v' H6 p6 e6 O6 S6 => ?_⟩
    have h5 := T5.1
    refine addI (by omega) ⟨i + 1, by dsimp only; omega, .inl ⟨by omega, ⟨xs ++ [z], v', some p6, by simp [hx], ?_, by rw [List.map_append]; exact O6, fun j hj => by cases hj; omega, rfl⟩, T5.thru S6 fun y hy => .inr (ho y (by simpa using hy)), ?_, ds, r0, r1, r2, r8, by show vint _ = vint _; congr 1⟩⟩
    · intro x hxm
      rcases List.mem_append.1 hxm with e | e
      · exact hxs x e
      · rw [List.mem_singleton.1 e]
        exact hz
    · refine HX.mono (HX.same (HX.same b4 S5 (by simp)) S6 fun x hx => ?_) (by omega)
      have := ho x (by simpa using hx)
      omega
  · have : i = D := by omega
    subst this
    refine retL_same ?_ (hK xs v o H' hx hxs S (b.mono (by omega)) O ho)
    intro x hx
    rw [List.mem_singleton.1 hx]
    exact ownU O
theorem good31 (hJ : Closed prog main J) (a : HX h H ns k) (hk : k < 400000) {D : Nat} (hD : D ≤ 8)
    (hK : ∀ (w : List UInt8) H', w.length = D → (∀ c ∈ w, c = 100 ∨ c = 119) → SameX [h.length] H H' → HX h H' ns (k + 8) → K (strV w) H') : Good prog J 31 [ptr h.length 0, vint (D : Nat)] H K := by
  refine g31 hJ fun ok => ?_
  rw [e31]
  have hlt := hxLt a
  refine l31_1 hJ (fun i : Nat => D - i) (fun i F H' => i ≤ D ∧ (∃ w, w.length = i ∧ (∀ c ∈ w, c = 100 ∨ c = 119) ∧ F.r 5 = strV w) ∧ SameX [h.length] H H' ∧ HX h H' ns (k + i) ∧ F.ds = [] ∧ F.r 0 = ptr h.length 0 ∧ F.r 1 = vint (D : Nat) ∧ F.r 6 = vint (i : Nat)) ?_ (s := 0)
    (.inl ⟨Nat.zero_le _, ⟨[], rfl, by simp, rfl⟩, SameX.refl, a, rfl, rfl, rfl, rfl⟩)
  rintro i F H' ⟨hi, ⟨w, hw, hc, r5⟩, S, b, ds, r0, r1, r6⟩ okc hnc
  rw [s31_1, r0, r1, r5, r6, ds]
  refine lssI (cndI (fun hl => ?_) fun hge => ?_)
  · have more : ∀ {c : UInt8}, (c = 100 ∨ c = 119) → ∀ d ∈ w ++ [c], d = 100 ∨ d = 119 := fun {c} h d hd => by
      rcases List.mem_append.1 hd with e | e
      · exact hc d e
      · rw [List.mem_singleton.1 e]
        exact h
    refine good42 hJ b (by omega) (by omega) fun z H2 S2 l2 b2 => cndB (fun _ => ?_) fun _ => ?_
    · exact strAddR (by omega) (addI (by omega) ⟨i + 1, by dsimp only; omega, .inl ⟨by omega, ⟨w ++ [100], by simp [hw], more (.inl rfl), rfl⟩, S.trans S2, b2, ds, r0, r1, by show vint _ = vint _; congr 1⟩⟩)
    · exact strAddR (by omega) (addI (by omega) ⟨i + 1, by dsimp only; omega, .inl ⟨by omega, ⟨w ++ [119], by simp [hw], more (.inr rfl), rfl⟩, S.trans S2, b2, ds, r0, r1, by show vint _ = vint _; congr 1⟩⟩)
  · have : i = D := by omega
    subst this
    exact retL_same (by simp [unk, strV]) (hK w H' hw hc S (b.mono (by omega)))
end
theorem ask_ok {p : Pas} {heads : List Int} {w : List UInt8} (f : pasOk p) (hw : 1 ≤ w.length ∧ w.length ≤ 8) (hl : heads.length = w.length) (hh : headsOk heads) (ho : wordOk w) : askE p heads w = 0 := by
  have e1 : cntE (w.length : Nat) 1 8 = 0 := by
    unfold cntE
    rw [if_neg (by omega), if_neg (by omega)]
  have e2 : fst2 (pasE p) (cntE (w.length : Nat) 1 8) = 0 := by
    unfold pasE
    rw [if_pos f, e1]
    rfl
  have e3 : hunE heads (w.length : Nat) = 0 := by
    unfold hunE
    have e4 : cntE (heads.length : Nat) (w.length : Nat) (w.length : Nat) = 0 := by
      unfold cntE
      rw [if_neg (by omega), if_neg (by omega)]
    have hq : ∀ n ∈ heads, 0 ≤ n ∧ n ≤ 40 := hh
    rw [if_neg (not_not_intro e4), if_pos hq]
  unfold askE
  rw [if_neg (not_not_intro e2), if_neg (not_not_intro e3), if_pos ho]
theorem endsZ_get {p : Pas} {hs : List Int} {w : List UInt8} {k i : Nat} (h : i < k) : (endsZ p hs w k)[i]? = some (stdR p hs w (i + 1)).1 := by
  unfold endsZ
  rw [List.getElem?_map, List.getElem?_range h]
  rfl
theorem daysR_mem {q : Nat → Bool} {n i : Nat} : (i : Int) ∈ daysR q n ↔ i < n ∧ q i = true := by
  unfold daysR
  rw [List.mem_map]
  constructor
  · rintro ⟨j, hj, e⟩
    obtain ⟨h1, h2⟩ := List.mem_filter.1 hj
    have : j = i := Int.ofNat_inj.1 e
    subst this
    exact ⟨List.mem_range.1 h1, h2⟩
  · rintro ⟨h1, h2⟩
    exact ⟨i, List.mem_filter.2 ⟨List.mem_range.2 h1, h2⟩, rfl⟩
theorem daysR_all {q : Nat → Bool} : ∀ {n : Nat} {x : Int}, x ∈ daysR q n → 0 ≤ x ∧ x < n := by
  intro n x hx
  unfold daysR at hx
  obtain ⟨j, hj, rfl⟩ := List.mem_map.1 hx
  have := List.mem_range.1 (List.mem_filter.1 hj).1
  exact ⟨Int.natCast_nonneg j, by show ((j : Nat) : Int) < n; omega⟩
theorem daysR_up {q : Nat → Bool} {n : Nat} : (daysR q n).Pairwise (· < ·) := by
  unfold daysR
  rw [List.pairwise_map]
  exact (List.pairwise_lt_range.filter _).imp fun h => Int.ofNat_lt.2 h
def ascR (l : List Int) (n : Int) : Prop := (∀ x ∈ l, 0 ≤ x ∧ x < n) ∧ l.Pairwise (· < ·)
theorem ascR_days {q : Nat → Bool} {n : Nat} : ascR (daysR q n) n := ⟨fun _ hx => daysR_all hx, daysR_up⟩
theorem ascR_next {l : List Int} {n : Int} (h : ascR l n) {i : Nat} {x y : Int} (hx : l[i]? = some x) (hy : l[i + 1]? = some y) : x < y := by
  obtain ⟨h1, e1⟩ := List.getElem?_eq_some_iff.1 hx
  obtain ⟨h2, e2⟩ := List.getElem?_eq_some_iff.1 hy
  rw [← e1, ← e2]
  exact List.pairwise_iff_getElem.1 h.2 i (i + 1) h1 h2 (by omega)
def placeR (n : Int) : List Int → Nat → Int
  | [], _ => -1
  | x :: l, k => if x = n then (k : Int) else placeR n l (k + 1)
theorem placeR_mem {n : Int} : ∀ {l : List Int} {k : Nat}, 0 ≤ placeR n l k ↔ n ∈ l
  | [], k => ⟨fun h => absurd h (by show ¬ (0 : Int) ≤ -1; decide), fun h => by cases h⟩
  | x :: l, k => by
    unfold placeR
    by_cases e : x = n
    · rw [if_pos e]
      exact ⟨fun _ => by rw [e]; exact List.mem_cons_self .., fun _ => Int.natCast_nonneg k⟩
    · rw [if_neg e, placeR_mem]
      exact ⟨fun h => List.mem_cons_of_mem _ h, fun h => by
        rcases List.mem_cons.1 h with h | h
        · exact absurd h.symm e
        · exact h⟩
theorem byday {p : Pas} (f : pasOk p) {x : Std} (o : StdOk p x) {n : Int} {w : Bool} {i awake : Int} (hn : 0 ≤ n ∧ n ≤ 40) (hx : x.2 = max 0 (awake - i)) (_hi : 0 ≤ i) :
    let aw := if shortR p x n = true then i + 1 + p.sleep else awake
    let gr := if i < aw then 0 else if w = true then p.wet else p.dry
    let now := if leftR x n + gr > p.bears then p.bears else leftR x n + gr
    (dayR p x n w).1 = now ∧ (dayR p x n w).2 = max 0 (aw - (i + 1)) := by
  obtain ⟨f1, f2, f3, f4, f5, f6⟩ := f
  have hg := o.g
  have hl := leftR_bd o hn.1
  dsimp only
  unfold dayR
  by_cases s : shortR p x n = true
  · rw [if_pos s, if_pos s, if_pos (show i < i + 1 + p.sleep by omega), if_neg (show ¬ leftR x n + 0 > p.bears by omega)]
    exact ⟨by dsimp only; omega, by dsimp only; omega⟩
  · rw [if_neg s, if_neg s]
    by_cases h : x.2 > 0
    · rw [if_pos h, if_pos (show i < awake by omega), if_neg (show ¬ leftR x n + 0 > p.bears by omega)]
      exact ⟨by dsimp only; omega, by dsimp only; omega⟩
    · rw [if_neg h, if_neg (show ¬ i < awake by omega)]
      refine ⟨?_, by dsimp only; omega⟩
      dsimp only
      generalize (if w = true then p.wet else p.dry) = gr
      split <;> omega
section
variable {H : List AObj}
theorem sliBlkC {v : Value} {xs : List Int} (hs : Sli H v 1 xs.length (xs.map vint)) (h0 : 0 < xs.length) : ∃ b cs wr sz, H[b]? = some (.cells cs wr sz) ∧ ∀ {i : Nat} {x : Int} {K2 : Value → Value → Prop}, xs[i]? = some x → (∀ o, K2 (ptr b o) (vint x)) → aIdx 1 v (vint (i : Nat)) fun p => aLoad false 1 p H (K2 p) := by
  obtain ⟨base, c, rfl, ⟨hl, hkn⟩, ⟨_, hz⟩ | ⟨b, o, rfl, hz | ⟨cs, wr, sz, hb, hc⟩⟩⟩ := hs
  · omega
  · omega
  · refine ⟨b, cs, wr, sz, hb, fun {i x K2} hx hk => ?_⟩
    have hi := (List.getElem?_eq_some_iff.1 hx).1
    refine idxI ⟨by omega, by omega⟩ (ldI (v := vint x) hb ?_ rfl (hk _))
    have e : (xs.map vint)[i]? = some (vint x) := by rw [List.getElem?_map, hx]; rfl
    rw [← hc, List.getElem?_take_of_lt (by omega), List.getElem?_drop] at e
    rw [Int.toNat_natCast, Nat.mul_one]
    exact e
end
end Go.Proofs.Ythnccaajpdnndaa
namespace Go.Proofs.Ythnccaajpdnndaa
open Go.Conc Go.Proofs.Try
set_option maxRecDepth 100000
set_option maxHeartbeats 4000000
set_option linter.unusedVariables false
section
variable {main : Bool} {J : JT} {n0 : Nat} {h : List AObj} {K : Value → List AObj → Prop}
def pl19 : Plans := [(3, false, .take 0 (.take 2 (.take 3 (.take 4 (.take 6 (.take 7 (.take 8 (.take 9 (.last 1 true (.last 5 true (.last 10 true (.take 11 (.take 12 (.take 13 (.fin)))))))))))))))]
def ct19 : Cuts := .bin (.go) (.bin (.go) (.bin (.go) (.bin (.go) (.bin (.go) (.bin (.bin (.go) (.cut (.go))) (.bin (.bin (.go) (.un (.un (.bin (.go) (.bin (.un (.bin (.go) (.bin (.go) (.cut (.go))))) (.go)))))) (.go)))))))
theorem pok19 : plansOk prog pl19 (codeOf f19) = true := by kernel_rfl
theorem e19 {a0 : Value} : W prog J 95 h.length 19 (codeOf f19) (RG.mk (regs [a0]) []) h (RetQ prog [.tmp 2] h.length K) =
(Good prog J 22 [a0] h fun v1 h2 =>
 Good prog J 24 [v1] h2 fun v3 h4 =>
 Good prog J 25 [v1, (vint 6)] h4 fun v5 h6 =>
 aAlloc [(vint 0), (vint 0), (vint 0), (vint 0), (vint 0), (vint 0)] h6 fun v7 h8 =>
 aAlloc [(vint 0), (vint 0), (vint 0)] h8 fun v9 h10 =>
 aStore 6 v7 v3 h10 fun h11 =>
 aStore 3 v9 v5 h11 fun h12 =>
(∃ B, aOff v9 0 fun v13 =>
 aLoad false 1 v13 h12 fun v14 =>
 RdOk (some B) (ptrBlk v13) ∧ (aOff v9 0 fun v15 =>
 aLoad false 1 v15 h12 fun v16 =>
 RdOk (some B) (ptrBlk v15) ∧ (aBin prog .sub 3 v16 (vint 1) fun v17 =>
 Good prog J 26 [v1, (vint 20)] h12 fun v18 h19 =>
 SameB (some B) h12 h19 ∧ (Good prog J 23 [v1, (vint 1), v14] h19 fun v20 h21 =>
 SameB (some B) h12 h21 ∧ (Good prog J 26 [v1, v17] h21 fun v22 h23 =>
 SameB (some B) h12 h23 ∧ (aLoad true 6 v7 h23 fun v24 =>
 aLoad true 3 v9 h23 fun v25 =>
 Good prog J 65 [v24, v25, v18, v20, v22] h23 fun v26 h27 =>
 aExt v26 0 fun v28 =>
 aExt v26 1 fun v29 =>
 aBin prog .neq 37 v29 (vint 0) fun v30 =>
 cnd v30
(aBin prog .neq 37 v29 (vint 11) fun v31 =>
 Hold (W prog J 95 h.length 19 (subC [1, 1, 1, 1, 1, 0, 1] (codeOf f19)) (RG.p (RG.p (RG.p (RG.p (RG.p (RG.p (RG.p (RG.p (RG.p (RG.p (RG.p (RG.p (RG.p (RG.p (RG.p (RG.p (RG.p (RG.p (RG.p (RG.p (RG.p (RG.p (RG.p (RG.p (RG.p (RG.p (RG.p (RG.p (RG.p (RG.p (RG.p (RG.p (RG.p (RG.p (RG.p (RG.p (RG.p (RG.p (RG.p (RG.p (RG.p (RG.p (RG.mk (regs [a0]) []) 2 (Value.bool false)) 14 a0) 15 v1) 3 v1) 16 v1) 17 v3) 18 v1) 19 v5) 4 v7) 5 v9) 20 v1) 22 v1) 23 v13) 24 v14) 26 v1) 27 v15) 28 v16) 29 v17) 21 v18) 25 v20) 30 v22) 6 v18) 7 v20) 8 v22) 32 v24) 33 v25) 34 v18) 35 v20) 36 v22) 37 v26) 31 v26) 38 v28) 39 v29) 9 v28) 10 v29) 40 v29) 41 v30) 42 v30) 42 (Value.bool true)) 43 v29) 44 v31) 45 v31) h27 (contX pl19 prog J 95 h.length 19 ct19 [1, 1, 1, 1, 1, 0, 1] (codeOf f19) [] (RetQ prog [.tmp 2] h.length K))))
(Hold (W prog J 95 h.length 19 (subC [1, 1, 1, 1, 1, 0, 1] (codeOf f19)) (RG.p (RG.p (RG.p (RG.p (RG.p (RG.p (RG.p (RG.p (RG.p (RG.p (RG.p (RG.p (RG.p (RG.p (RG.p (RG.p (RG.p (RG.p (RG.p (RG.p (RG.p (RG.p (RG.p (RG.p (RG.p (RG.p (RG.p (RG.p (RG.p (RG.p (RG.p (RG.p (RG.p (RG.p (RG.p (RG.p (RG.p (RG.p (RG.p (RG.p (RG.p (RG.p (RG.mk (regs [a0]) []) 2 (Value.bool false)) 14 a0) 15 v1) 3 v1) 16 v1) 17 v3) 18 v1) 19 v5) 4 v7) 5 v9) 20 v1) 22 v1) 23 v13) 24 v14) 26 v1) 27 v15) 28 v16) 29 v17) 21 v18) 25 v20) 30 v22) 6 v18) 7 v20) 8 v22) 32 v24) 33 v25) 34 v18) 35 v20) 36 v22) 37 v26) 31 v26) 38 v28) 39 v29) 9 v28) 10 v29) 40 v29) 41 v30) 42 v30) 42 (Value.bool false)) 43 undef) 44 undef) 45 (Value.bool false)) h27 (contX pl19 prog J 95 h.length 19 ct19 [1, 1, 1, 1, 1, 0, 1] (codeOf f19) [] (RetQ prog [.tmp 2] h.length K))))))))))) := top_eq pok19 ct19 (by kernel_rfl)
end
end Go.Proofs.Ythnccaajpdnndaa
namespace Go.Proofs.Ythnccaajpdnndaa
open Go.Conc Go.Proofs.Try
set_option maxRecDepth 100000
section
variable {W0 : World} {Post : Value → World → Prop} {h : List AObj} {K : Value → List AObj → Prop} {KV : Value → Prop}
theorem neqLr {a b : Bool} (hk : KV (.bool (!(a == b)))) : aBin prog .neq 4 (.bool a) (.bool b) KV := by
  have e1 : teq prog 10000 4 (.bool a) (.bool b) = some (a == b) := by kernel_rfl
  have e2 : prog.eqGuardType prog.depth 4 = false := by kernel_rfl
  show aEq prog true 4 (.bool a) (.bool b) KV
  unfold aEq
  rw [e1]
  exact ⟨e2, hk⟩
end
section
variable {main : Bool} {J : JT} {n0 : Nat} {h H : List AObj} {K : Value → List AObj → Prop}
theorem good61 (hJ : Closed prog main J) {v : Value} {xs : List Int} {n : Int} (sv : Sli H v 1 xs.length (xs.map vint)) (hl : xs.length < 1000000) (hK : K (vint (placeR n xs 0)) H) : Good prog J 61 [v, vint n] H K := by
  refine g61 hJ fun ok => ?_
  rw [e61]
  refine l61_1 hJ (fun i : Nat => xs.length - i) (fun i F H' => i ≤ xs.length ∧ H' = H ∧ placeR n xs 0 = placeR n (xs.drop i) i ∧ F.ds = [] ∧ F.r 0 = v ∧ F.r 1 = vint n ∧ F.r 5 = vint (i : Nat)) ?_ (s := 0)
    (.inl ⟨Nat.zero_le _, rfl, by rw [List.drop_zero], rfl, rfl, rfl, rfl⟩)
  rintro i F H' ⟨hi, rfl, hp, ds, r0, r1, r5⟩ okc hnc
  rw [s61_1, r0, r1, r5, ds]
  refine lenI sv (lssI (cndI (fun hlt => ?_) fun hge => ?_))
  · have hlt : i < xs.length := by omega
    have hx : xs[i]? = some xs[i] := List.getElem?_eq_getElem hlt
    have hd : xs.drop i = xs[i] :: xs.drop (i + 1) := List.drop_eq_getElem_cons hlt
    refine sliN sv hx fun q => eqlI (cndI (fun he => ?_) fun he => ?_)
    · rw [hp, hd] at hK
      unfold placeR at hK
      rw [if_pos he] at hK
      exact retL_same (by simp [unk]) hK
    · refine addI (by omega) ⟨i + 1, by dsimp only; omega, .inl ⟨by omega, rfl, ?_, ds, r0, r1, by show vint _ = vint _; congr 1⟩⟩
      rw [hp, hd]
      conv => lhs; unfold placeR
      rw [if_neg he]
  · have : i = xs.length := by omega
    subst this
    rw [hp, List.drop_length] at hK
    exact retL_same (by simp [unk]) hK
theorem good62 (hJ : Closed prog main J) {v : Value} {xs : List Int} {n : Int} (sv : Sli H v 1 xs.length (xs.map vint)) (hl : xs.length < 1000000) (ha : ascR xs n) (hK : K (.bool true) H) : Good prog J 62 [v, vint n] H K := by
  refine g62 hJ fun ok => ?_
  rw [e62]
  refine l62_1 hJ (fun i : Nat => xs.length - i) (fun i F H' => i ≤ xs.length ∧ H' = H ∧ F.ds = [] ∧ F.r 0 = v ∧ F.r 1 = vint n ∧ F.r 5 = vint (i : Nat)) ?_ (s := 0)
    (.inl ⟨Nat.zero_le _, rfl, rfl, rfl, rfl, rfl⟩)
  rintro i F H' ⟨hi, rfl, ds, r0, r1, r5⟩ okc hnc
  have next : ∀ {F2 : RG}, F2.ds = [] → F2.r 0 = v → F2.r 1 = vint n → F2.r 5 = vint (i : Nat) → F2.r 40 = .bool false → i < xs.length →
      W prog J 41 H'.length 62 (subC [1, 0, 1, 0, 0, 1, 0, 0, 1] (codeOf f62)) F2 H' (contX pl62 prog J 41 H'.length 62 ct62 [1, 0, 1, 0, 0, 1, 0, 0, 1] (codeOf f62) [Nx H'.length (fun i : Nat => xs.length - i) (fun i F H2 => i ≤ xs.length ∧ H2 = H' ∧ F.ds = [] ∧ F.r 0 = v ∧ F.r 1 = vint n ∧ F.r 5 = vint (i : Nat)) i] (RetQ prog [.tmp 4] H'.length K)) := by
    intro F2 ds r0 r1 r5 r40 hlt
    rw [s62_2, r5, r40]
    exact cnd_false.2 (addI (by omega) ⟨i + 1, by dsimp only; omega, .inl ⟨by omega, rfl, ds, r0, r1, by show vint _ = vint _; congr 1⟩⟩)
  rw [s62_1, r0, r1, r5, ds]
  refine lenI sv (lssI (cndI (fun hlt => ?_) fun _ => retL_same (by simp [unk]) hK))
  have hlt : i < xs.length := by omega
  have hx : xs[i]? = some xs[i] := List.getElem?_eq_getElem hlt
  have hb := ha.1 xs[i] (List.getElem_mem hlt)
  refine sliN sv hx fun q => lssI (cndI (fun h => absurd h (by omega)) fun _ => sliN sv hx fun q2 => geqI (cndI (fun h => absurd h (by omega)) fun _ => gtrI (cndI (fun hp => ?_) fun _ => hold.2 (next ds r0 r1 r5 rfl hlt))))
  obtain ⟨j, rfl⟩ : ∃ j, i = j + 1 := ⟨i - 1, by omega⟩
  refine sliN sv hx fun q3 => subI (by omega) ?_
  have e1 : ((j + 1 : Nat) : Int) - 1 = (j : Nat) := by omega
  have hy : xs[j]? = some xs[j] := List.getElem?_eq_getElem (by omega)
  have := ascR_next ha hy hx
  rw [e1]
  exact sliN sv hy fun q4 => leqI (hold.2 (next ds r0 r1 r5 (congrArg Value.bool (decide_eq_false (by omega))) hlt))
structure Mby (F : RG) (p4 n : Nat) (hv : Value) (w : List UInt8) (va vb vc : Value) (i : Nat) : Prop where
  ds : F.ds = []
  r4 : F.r 4 = ptr p4 0
  r5 : F.r 5 = vint (n : Nat)
  r6 : F.r 6 = hv
  r7 : F.r 7 = strV w
  r8 : F.r 8 = va
  r10 : F.r 10 = vb
  r12 : F.r 12 = vc
  r16 : F.r 16 = vint (i : Nat)
variable {F : RG} {nx0 : RG → List AObj → Prop} {p : Pas} {p4 n i : Nat} {hv va vb vc : Value} {w : List UInt8} {es : List Int}
theorem by8 {now aw : Int} (M : Mby F p4 n hv w va vb vc i) (r14 : F.r 14 = vint now) (r15 : F.r 15 = vint aw) (hi : i < 1000) (sa : Sli H va 1 es.length (es.map vint)) (hg : es[i]? = some now) (hn : ∀ F', Mby F' p4 n hv w va vb vc (i + 1) → F'.r 14 = vint now → F'.r 15 = vint aw → nx0 F' H) :
    W prog J 157 n0 15 (subC [1, 1, 1, 1, 1, 1, 1, 1, 1, 0, 1, 0, 0, 1, 0, 0, 1, 1, 1, 1, 1, 1, 1, 1, 1] (codeOf f15)) F H (contX pl15 prog J 157 n0 15 ct15 [1, 1, 1, 1, 1, 1, 1, 1, 1, 0, 1, 0, 0, 1, 0, 0, 1, 1, 1, 1, 1, 1, 1, 1, 1] (codeOf f15) [nx0] (RetQ prog [.tmp 2] n0 K)) := by
  rw [s15_8, M.r8, M.r16, r14]
  refine sliN sa hg fun q => neqI (cndI (fun h => absurd rfl h) fun _ => addI (by omega) (hn _ ⟨M.ds, M.r4, M.r5, M.r6, M.r7, M.r8, M.r10, M.r12, by show vint _ = vint _; congr 1⟩ r14 r15))
theorem by7 {left g aw : Int} (M : Mby F p4 n hv w va vb vc i) (cp : H[p4]? = some (.cells p.cells true 0)) (r15 : F.r 15 = vint aw) (r17 : F.r 17 = vint left) (r19 : F.r 19 = vint g) (hb : -1000 ≤ left + g ∧ left + g ≤ 1000) (hi : i < 1000) (sa : Sli H va 1 es.length (es.map vint)) (hg : es[i]? = some (if left + g > p.bears then p.bears else left + g)) (hn : ∀ F', Mby F' p4 n hv w va vb vc (i + 1) → F'.r 14 = vint (if left + g > p.bears then p.bears else left + g) → F'.r 15 = vint aw → nx0 F' H) :
    W prog J 157 n0 15 (subC [1, 1, 1, 1, 1, 1, 1, 1, 1, 0, 1, 0, 0, 1, 0, 0, 1, 1, 1, 1, 1, 1, 1] (codeOf f15)) F H (contX pl15 prog J 157 n0 15 ct15 [1, 1, 1, 1, 1, 1, 1, 1, 1, 0, 1, 0, 0, 1, 0, 0, 1, 1, 1, 1, 1, 1, 1] (codeOf f15) [nx0] (RetQ prog [.tmp 2] n0 K)) := by
  rw [s15_7, M.r4, r17, r19]
  refine addI (by omega) (offI (ldI (v := vint p.bears) cp rfl rfl (gtrI (cndI (fun h1 => ?_) fun h1 => hold.2 ?_))))
  · rw [if_pos h1] at hg hn
    exact offI (ldI (v := vint p.bears) cp rfl rfl (hold.2 (by8 ⟨M.ds, M.r4, M.r5, M.r6, M.r7, M.r8, M.r10, M.r12, M.r16⟩ rfl r15 hi sa hg hn)))
  · rw [if_neg h1] at hg hn
    exact by8 ⟨M.ds, M.r4, M.r5, M.r6, M.r7, M.r8, M.r10, M.r12, M.r16⟩ rfl r15 hi sa hg hn
theorem by6 {left g aw : Int} (M : Mby F p4 n hv w va vb vc i) (cp : H[p4]? = some (.cells p.cells true 0)) (r15 : F.r 15 = vint aw) (r17 : F.r 17 = vint left) (r19 : F.r 19 = vint g) (hl : 0 ≤ left ∧ left ≤ 100) (hgb : 0 ≤ g ∧ g ≤ 100) (hi : i < 1000) (sa : Sli H va 1 es.length (es.map vint)) (hg : es[i]? = some (if left + (if (i : Int) < aw then 0 else g) > p.bears then p.bears else left + (if (i : Int) < aw then 0 else g))) (hn : ∀ F', Mby F' p4 n hv w va vb vc (i + 1) → F'.r 14 = vint (if left + (if (i : Int) < aw then 0 else g) > p.bears then p.bears else left + (if (i : Int) < aw then 0 else g)) → F'.r 15 = vint aw → nx0 F' H) :
    W prog J 157 n0 15 (subC [1, 1, 1, 1, 1, 1, 1, 1, 1, 0, 1, 0, 0, 1, 0, 0, 1, 1, 1, 1, 1, 1] (codeOf f15)) F H (contX pl15 prog J 157 n0 15 ct15 [1, 1, 1, 1, 1, 1, 1, 1, 1, 0, 1, 0, 0, 1, 0, 0, 1, 1, 1, 1, 1, 1] (codeOf f15) [nx0] (RetQ prog [.tmp 2] n0 K)) := by
  rw [s15_6, M.r16, r15]
  refine lssI (cndI (fun h1 => hold.2 ?_) fun h1 => hold.2 ?_)
  · simp only [if_pos h1] at hg hn
    exact by7 ⟨M.ds, M.r4, M.r5, M.r6, M.r7, M.r8, M.r10, M.r12, M.r16⟩ cp r15 r17 rfl (by omega) hi sa hg hn
  · simp only [if_neg h1] at hg hn
    exact by7 ⟨M.ds, M.r4, M.r5, M.r6, M.r7, M.r8, M.r10, M.r12, M.r16⟩ cp r15 r17 r19 (by omega) hi sa hg hn
theorem by5 {left aw : Int} (fp : pasOk p) (M : Mby F p4 n hv w va vb vc i) (cp : H[p4]? = some (.cells p.cells true 0)) (r15 : F.r 15 = vint aw) (r17 : F.r 17 = vint left) (hl : 0 ≤ left ∧ left ≤ 100) (hi : i < w.length) (hi2 : i < 1000) (sa : Sli H va 1 es.length (es.map vint)) (hg : es[i]? = some (if left + (if (i : Int) < aw then 0 else if wetB (w.getD i 0) = true then p.wet else p.dry) > p.bears then p.bears else left + (if (i : Int) < aw then 0 else if wetB (w.getD i 0) = true then p.wet else p.dry))) (hn : ∀ F', Mby F' p4 n hv w va vb vc (i + 1) → F'.r 14 = vint (if left + (if (i : Int) < aw then 0 else if wetB (w.getD i 0) = true then p.wet else p.dry) > p.bears then p.bears else left + (if (i : Int) < aw then 0 else if wetB (w.getD i 0) = true then p.wet else p.dry)) → F'.r 15 = vint aw → nx0 F' H) :
    W prog J 157 n0 15 (subC [1, 1, 1, 1, 1, 1, 1, 1, 1, 0, 1, 0, 0, 1, 0, 0, 1, 1, 1, 1] (codeOf f15)) F H (contX pl15 prog J 157 n0 15 ct15 [1, 1, 1, 1, 1, 1, 1, 1, 1, 0, 1, 0, 0, 1, 0, 0, 1, 1, 1, 1] (codeOf f15) [nx0] (RetQ prog [.tmp 2] n0 K)) := by
  have hb : w[i]? = some (w.getD i 0) := by
    rw [List.getD_eq_getElem?_getD, List.getElem?_eq_getElem hi]
    rfl
  obtain ⟨f1, f2, f3, f4, f5, f6⟩ := fp
  rw [s15_5, M.r4, M.r7, M.r16]
  refine offI (ldI (v := vint p.dry) cp rfl rfl (byteI hb (eqlW (cndB (fun h1 => ?_) fun h1 => hold.2 ?_))))
  · simp only [if_pos h1] at hg hn
    exact offI (ldI (v := vint p.wet) cp rfl rfl (hold.2 (by6 ⟨M.ds, M.r4, M.r5, M.r6, M.r7, M.r8, M.r10, M.r12, M.r16⟩ cp r15 r17 rfl hl (by omega) hi2 sa hg hn)))
  · simp only [h1, Bool.false_eq_true, if_false] at hg hn
    exact by6 ⟨M.ds, M.r4, M.r5, M.r6, M.r7, M.r8, M.r10, M.r12, M.r16⟩ cp r15 r17 rfl hl (by omega) hi2 sa hg hn
theorem by4 {left aw : Int} {z : Bool} (fp : pasOk p) (M : Mby F p4 n hv w va vb vc i) (cp : H[p4]? = some (.cells p.cells true 0)) (r15 : F.r 15 = vint aw) (r17 : F.r 17 = vint left) (r18 : F.r 18 = .bool z) (r113 : F.r 113 = .bool false) (hl : 0 ≤ left ∧ left ≤ 100) (hi : i < w.length) (hi2 : i < 1000) (sa : Sli H va 1 es.length (es.map vint)) (hg : es[i]? = some (if left + (if (i : Int) < (if z = true then (i : Int) + 1 + p.sleep else aw) then 0 else if wetB (w.getD i 0) = true then p.wet else p.dry) > p.bears then p.bears else left + (if (i : Int) < (if z = true then (i : Int) + 1 + p.sleep else aw) then 0 else if wetB (w.getD i 0) = true then p.wet else p.dry))) (hn : ∀ F', Mby F' p4 n hv w va vb vc (i + 1) → F'.r 14 = vint (if left + (if (i : Int) < (if z = true then (i : Int) + 1 + p.sleep else aw) then 0 else if wetB (w.getD i 0) = true then p.wet else p.dry) > p.bears then p.bears else left + (if (i : Int) < (if z = true then (i : Int) + 1 + p.sleep else aw) then 0 else if wetB (w.getD i 0) = true then p.wet else p.dry)) → F'.r 15 = vint (if z = true then (i : Int) + 1 + p.sleep else aw) → nx0 F' H) :
    W prog J 157 n0 15 (subC [1, 1, 1, 1, 1, 1, 1, 1, 1, 0, 1, 0, 0, 1, 0, 0, 1, 1, 0, 1] (codeOf f15)) F H (contX pl15 prog J 157 n0 15 ct15 [1, 1, 1, 1, 1, 1, 1, 1, 1, 0, 1, 0, 0, 1, 0, 0, 1, 1, 0, 1] (codeOf f15) [nx0] (RetQ prog [.tmp 2] n0 K)) := by
  obtain ⟨f1, f2, f3, f4, f5, f6⟩ := id fp
  rw [s15_4, M.r4, M.r16, r18, r113]
  refine cnd_false.2 (cndB (fun h1 => ?_) fun h1 => hold.2 ?_)
  · simp only [if_pos h1] at hg hn
    exact addI (by omega) (offI (ldI (v := vint p.sleep) cp rfl rfl (addI (by omega) (hold.2 (by5 fp ⟨M.ds, M.r4, M.r5, M.r6, M.r7, M.r8, M.r10, M.r12, M.r16⟩ cp rfl r17 hl hi hi2 sa hg hn)))))
  · simp only [h1, Bool.false_eq_true, if_false] at hg hn
    exact by5 fp ⟨M.ds, M.r4, M.r5, M.r6, M.r7, M.r8, M.r10, M.r12, M.r16⟩ cp r15 r17 hl hi hi2 sa hg hn
theorem by3 {now aw x left : Int} {z : Bool} {xs bs cs : List Int} (hJ : Closed prog main J) (fp : pasOk p) (M : Mby F p4 n hv w va vb vc i) (cp : H[p4]? = some (.cells p.cells true 0)) (r14 : F.r 14 = vint now) (r15 : F.r 15 = vint aw) (r17 : F.r 17 = vint left) (r18 : F.r 18 = .bool z) (hl : 0 ≤ left ∧ left ≤ 100) (hi : i < w.length) (hi2 : i < 1000)
    (sv : Sli H hv 1 xs.length (xs.map vint)) (hx : xs[i]? = some x) (sb : Sli H vb 1 bs.length (bs.map vint)) (hbl : bs.length < 1000) (hbz : (i : Int) ∈ bs ↔ z = true) (sc : Sli H vc 1 cs.length (cs.map vint)) (hcl : cs.length < 1000) (hcz : (i : Int) ∈ cs ↔ now < x)
    (sa : Sli H va 1 es.length (es.map vint)) (hg : es[i]? = some (if left + (if (i : Int) < (if z = true then (i : Int) + 1 + p.sleep else aw) then 0 else if wetB (w.getD i 0) = true then p.wet else p.dry) > p.bears then p.bears else left + (if (i : Int) < (if z = true then (i : Int) + 1 + p.sleep else aw) then 0 else if wetB (w.getD i 0) = true then p.wet else p.dry))) (hn : ∀ F', Mby F' p4 n hv w va vb vc (i + 1) → F'.r 14 = vint (if left + (if (i : Int) < (if z = true then (i : Int) + 1 + p.sleep else aw) then 0 else if wetB (w.getD i 0) = true then p.wet else p.dry) > p.bears then p.bears else left + (if (i : Int) < (if z = true then (i : Int) + 1 + p.sleep else aw) then 0 else if wetB (w.getD i 0) = true then p.wet else p.dry)) → F'.r 15 = vint (if z = true then (i : Int) + 1 + p.sleep else aw) → nx0 F' H) :
    W prog J 157 n0 15 (subC [1, 1, 1, 1, 1, 1, 1, 1, 1, 0, 1, 0, 0, 1, 0, 0, 1, 1] (codeOf f15)) F H (contX pl15 prog J 157 n0 15 ct15 [1, 1, 1, 1, 1, 1, 1, 1, 1, 0, 1, 0, 0, 1, 0, 0, 1, 1] (codeOf f15) [nx0] (RetQ prog [.tmp 2] n0 K)) := by
  rw [s15_3, M.r6, M.r10, M.r12, M.r16, r14, r18]
  have lx := (List.getElem?_eq_some_iff.1 hx).1
  obtain ⟨b1, cs1, w1, z1, g1, rd⟩ := sliBlkC sv (by omega)
  refine ⟨[b1], good61 hJ sb (by omega) ⟨fun b hb => rfl, geqI (neqLr (cndB (fun h => ?_) fun _ => ?_))⟩⟩
  · exfalso
    have : z = decide (placeR (i : Int) bs 0 ≥ 0) := by
      rw [eq_comm]
      cases z with
      | true => exact decide_eq_true (placeR_mem.2 (hbz.2 rfl))
      | false => exact decide_eq_false fun h => by have := hbz.1 (placeR_mem.1 h); cases this
    rw [← this, beq_self_eq_true] at h
    cases h
  refine rd hx fun o1 => ⟨by simp [RdOk, ptrBlk], lssI (good61 hJ sc (by omega) ⟨fun b hb => rfl, geqI (neqLr (hold.2 ?_))⟩)⟩
  refine by4 fp ⟨M.ds, M.r4, M.r5, M.r6, M.r7, M.r8, M.r10, M.r12, M.r16⟩ cp r15 r17 r18 ?_ hl hi hi2 sa hg hn
  show Value.bool (!(decide (now < x) == decide (placeR (i : Int) cs 0 ≥ 0))) = .bool false
  have : decide (placeR (i : Int) cs 0 ≥ 0) = decide (now < x) := decide_eq_decide.2 (placeR_mem.trans hcz)
  rw [this, beq_self_eq_true]
  rfl
end
section
variable {W0 : World} {Post : Value → World → Prop} {h : List AObj} {K : Value → List AObj → Prop}
set_option maxHeartbeats 1000000 in
theorem walk15 {nv : Value} {ns : List Int} (sn : Sli h nv 1 ns.length (ns.map vint)) (hln : ns.length < 4611686018427387904) (hK : ∀ H', K (.bool true) H') :
    W prog (J2 prog W0 Post) 157 h.length 15 (codeOf f15) (RG.mk (regs [nv]) []) h (RetQ prog [.tmp 2] h.length K) := by
  have hJ := J2.closed prog W0 Post
  rw [e15]
  refine newX hJ sn hln fun H1 a1 => good24 hJ a1 (by omega) fun p H2 fp _ S2 a2 => amX hJ a2 (by omega) (by omega) (by omega) fun dy H3 d0 d1 S3 l3' a3 => ?_
  obtain ⟨d, rfl⟩ := Int.eq_ofNat_of_zero_le (by omega : 0 ≤ dy)
  have l3 := hxLt a3
  refine qAl fun H4 p4 e4 S4 c4 l4 => qStA (c := p.cells) c4 rfl rfl rfl fun H5 S5 c5 l5 => ?_
  have T35 : SameX [] H3 H5 := S4.thru S5 (by simp; omega)
  have a5 := HX.same a3 T35 (by simp)
  have b4 := lt_of_get c5
  refine good30 hJ a5 (by omega) (by omega) (by omega) fun xs hv o H6 hx hxs S6 a6 O6 ho => ?_
  subst hx
  have hh : headsOk xs := fun x hx => ⟨(hxs x hx).1, by have := (hxs x hx).2; omega⟩
  refine good31 hJ a6 (by omega) (by omega) fun w H7 hw hc S7 a7 => ?_
  have no : ∀ i, o = some i → i ∉ [h.length] := fun i hi => by
    have := ho i hi
    simp
    omega
  have sv := ownX_sli (ownX_keep O6 S7 no)
  have cp := (S6.trans S7).get c5 (by simp; omega)
  have zw : askE p xs w = 0 := ask_ok fp (by omega) (by omega) hh fun b hb => hc b hb
  refine load_part (c := p.cells) cp (by simp [Pas.cells]) rfl rfl ?_
  refine good32 hJ sv (by omega) (by omega) (fun h => absurd zw h) fun _ H8 va S8 sa => ext0 (ext1 ?_)
  refine load_part (c := p.cells) (S8.get cp (by simp)) (by simp [Pas.cells]) rfl rfl ?_
  refine good58 hJ (S8.sli sv (by simp)) (by omega) (by omega) (fun h => absurd zw h) fun _ H9 vb S9 sb => ext0 (ext1 ?_)
  have S89 := S8.trans S9
  refine load_part (c := p.cells) (S89.get cp (by simp)) (by simp [Pas.cells]) rfl rfl ?_
  refine good43 hJ (S89.sli sv (by simp)) (by omega) (by omega) (fun h => absurd zw h) fun _ H10 vc S10 sc => ext0 (ext1 ?_)
  have S810 := S89.trans S10
  have cp' := S810.get cp (by simp)
  have sv' := S810.sli sv (by simp)
  have sa' : Sli H10 va 1 (endsZ p xs w xs.length).length ((endsZ p xs w xs.length).map vint) := by
    have := (S9.trans S10).sli sa (by simp)
    rw [hw] at this
    rw [endsZ_len]
    exact this
  have sb' := S10.sli sb (by simp)
  rw [hw] at sb' sc
  refine neqI (cndI (fun h => absurd rfl h) fun _ => neqI (cndI (fun h => absurd rfl h) fun _ => neqI (cndI (fun h => absurd rfl h) fun _ => lenI sa' (neqI (hold.2 ?_)))))
  rw [s15_1]
  refine cndI (fun h => absurd (by rw [endsZ_len]) h) fun _ => offI (ldI (v := vint p.grass) cp' rfl rfl ?_)
  refine l15_2 hJ (fun i : Nat => xs.length - i) (fun i F H' => i ≤ xs.length ∧ H' = H10 ∧ Mby F p4 xs.length hv w va vb vc i ∧ F.r 14 = vint (stdR p xs w i).1 ∧ ∃ aw : Int, F.r 15 = vint aw ∧ (0 ≤ aw ∧ aw ≤ 100) ∧ (stdR p xs w i).2 = max 0 (aw - i)) ?_ (s := 0)
    (.inl ⟨Nat.zero_le _, rfl, ⟨rfl, rfl, rfl, rfl, rfl, rfl, rfl, rfl, rfl⟩, rfl, 0, rfl, by omega, rfl⟩)
  rintro i F H' ⟨hi, rfl, M, r14, aw, r15, haw, hsl⟩ okc hnc
  rw [s15_2, M.r4, M.r5, M.r6, M.r10, M.r12, M.r16, r14, M.ds]
  have fb := daysR_few (q := shortAt p xs w) (k := xs.length)
  have fc := daysR_few (q := hungAt p xs w) (k := xs.length)
  refine lssI (cndI (fun hl => ?_) fun _ => ?_)
  · have hx : xs[i]? = some (xs.getD i 0) := by
      rw [List.getD_eq_getElem?_getD, List.getElem?_eq_getElem (by omega)]
      rfl
    have o := stdR_ok (rain := w) fp hh i
    have hq := headsOk_getD hh i
    have eL : (stdR p xs w i).1 - min (stdR p xs w i).1 (xs.getD i 0) = leftR (stdR p xs w i) (xs.getD i 0) := by unfold leftR; omega
    have hL := leftR_bd o hq.1
    have og := o.g
    have fg := fp.1
    obtain ⟨d1, d2⟩ := byday fp o (n := xs.getD i 0) (w := wetB (w.getD i 0)) (i := (i : Int)) (awake := aw) hq hsl (by omega)
    have hg := endsZ_get (p := p) (hs := xs) (w := w) (k := xs.length) (i := i) (by omega)
    have hs1 : stdR p xs w (i + 1) = dayR p (stdR p xs w i) (xs.getD i 0) (wetB (w.getD i 0)) := rfl
    rw [hs1, d1] at hg
    have fin : ∀ {F2 : RG} {z : Bool}, z = shortAt p xs w i → Mby F2 p4 xs.length hv w va vb vc i → F2.r 14 = vint (stdR p xs w i).1 → F2.r 15 = vint aw → F2.r 17 = vint (leftR (stdR p xs w i) (xs.getD i 0)) → F2.r 18 = .bool z →
        W prog (J2 prog W0 Post) 157 h.length 15 (subC [1, 1, 1, 1, 1, 1, 1, 1, 1, 0, 1, 0, 0, 1, 0, 0, 1, 1] (codeOf f15)) F2 H' (contX pl15 prog (J2 prog W0 Post) 157 h.length 15 ct15 [1, 1, 1, 1, 1, 1, 1, 1, 1, 0, 1, 0, 0, 1, 0, 0, 1, 1] (codeOf f15) [Nx h.length (fun i : Nat => xs.length - i) (fun i F H2 => i ≤ xs.length ∧ H2 = H' ∧ Mby F p4 xs.length hv w va vb vc i ∧ F.r 14 = vint (stdR p xs w i).1 ∧ ∃ aw : Int, F.r 15 = vint aw ∧ (0 ≤ aw ∧ aw ≤ 100) ∧ (stdR p xs w i).2 = max 0 (aw - i)) i] (RetQ prog [.tmp 2] h.length K)) := by
      intro F2 z hz M2 q14 q15 q17 q18
      refine by3 (xs := xs) (es := endsZ p xs w xs.length) (bs := daysR (shortAt p xs w) xs.length) (cs := daysR (hungAt p xs w) xs.length) hJ fp M2 cp' q14 q15 q17 q18 (by omega) (by omega) (by omega) sv' hx sb' (by omega) (by rw [daysR_mem, hz]; exact ⟨fun h => h.2, fun h => ⟨by omega, h⟩⟩) sc (by omega) ?_ sa' (by rw [hz]; exact hg) fun F3 M3 t14 t15 => ?_
      · rw [daysR_mem]
        unfold hungAt hungR
        rw [decide_eq_true_iff]
        exact ⟨fun h => h.2, fun h => ⟨by omega, h⟩⟩
      · rw [hz] at t14 t15
        refine ⟨i + 1, by dsimp only; omega, .inl ⟨by omega, rfl, M3, ?_, _, t15, ?_, ?_⟩⟩
        · rw [t14, hs1, d1]
          rfl
        · have := fp.2.2.2.2.2
          split <;> omega
        · rw [hs1, d2]
          unfold shortAt
          rfl
    refine sliN sv' hx fun q1 => minI (subI (by omega) ?_)
    rw [eL]
    refine sliN sv' hx fun q2 => gtrI (cndI (fun h1 => ?_) fun h1 => ?_)
    · refine offI (ldI (v := vint p.stubble) cp' rfl rfl (lssI (hold.2 ?_)))
      exact fin (z := decide (leftR (stdR p xs w i) (xs.getD i 0) < p.stubble)) (by unfold shortAt shortR; rw [decide_eq_true h1, Bool.true_and]) ⟨M.ds, M.r4, M.r5, M.r6, M.r7, M.r8, M.r10, M.r12, M.r16⟩ r14 r15 rfl rfl
    · refine hold.2 ?_
      exact fin (z := false) (by unfold shortAt shortR; rw [decide_eq_false h1, Bool.false_and]) ⟨M.ds, M.r4, M.r5, M.r6, M.r7, M.r8, M.r10, M.r12, M.r16⟩ r14 r15 rfl rfl
  · exact good62 hJ sb' (by omega) ascR_days (cnd_true.2 (good62 hJ sc (by omega) ascR_days (cnd_true.2 (good21 fun H13 _ => retL_same (by simp [unk]) (hK H13)))))
end
end Go.Proofs.Ythnccaajpdnndaa
namespace Go.Proofs.Ythnccaajpdnndaa
open Go.Conc Go.ChangeShapes Go.WideShapes Go.ChangeAt Go.RowKit Go.Proofs.Try
set_option maxRecDepth 100000
theorem lifted15 (os : Os) (started : os.Started) (H : Type) (enc : TypeId × Value → H) :
    ReturnsInLeavingWide {} checked os 15 .any (Rows.grassByDaySpec.pre6 enc prog f15 Rows.grassByDayRow.domain false) (Rows.grassByDaySpec.post enc prog f15 false true false false) := by
  refine returnsInLeavingWide_of_change_sized (C := checked) own started at15
    (ChangeSpec.witness6 (enc := enc) (C := checked) false ⟨#[], #[.slice none 0 0], []⟩ 8 (by kernel_rfl) (by kernel_rfl) (by kernel_rfl) (by kernel_rfl)) ?_
  intro W base args ds gs before hval0 hW _ hsz0 _
  have hsz : (DataW.weightsEach prog (f15.params.toList ++ Rows.grassByDaySpec.plain.varTypes prog) (ds ++ gs)).all (· ≤ reachBytes) = true := hsz0
  clear hsz0
  have hval : ∀ (j : Nat) t v, f15.params[j]? = some t → args[j]? = some v → Value.okWide prog W .any base t v := hval0
  have hW' := hW
  obtain ⟨p, q, hA0, hV, rfl, _, _⟩ := hW
  have hA : DataW.TrodAll enc prog W 0 (fun _ => true) true f15.params.toList args.toList ds p := hA0
  have hps : f15.params = #[25] := by kernel_rfl
  rw [hps] at hA hval hsz
  obtain ⟨v0, d0, rfl, rfl, h0⟩ := trodAll_one hA
  obtain ⟨rfl, rfl⟩ := trodVars_none hV
  have u3 : prog.underlying 3 = some (.int .i64) := by kernel_rfl
  have u27 : prog.underlying 25 = some (.slice 3) := by kernel_rfl
  have u4 : prog.underlying 4 = some .bool := by kernel_rfl
  have c3 : prog.cellsOf 3 = 1 := by kernel_rfl
  have b3 : prog.bytesOf 3 = 8 := by kernel_rfl
  have hlt : ∀ x ∈ p, x.block < W.heap.size := fun x hx => by simpa using hW'.lt x (by simpa using hx)
  have hargs : ∀ (W' : World), Below W.heap.size W W' → DataW.TrodAll enc prog W' 0 (fun b => decide (b < W.heap.size)) true [25] [v0] [d0] p := fun W' hn =>
    trodAll_mk1 (Below.trod laidOut (by kernel_rfl) (of_decide_eq_true (by kernel_rfl)) h0 hn hlt)
  obtain ⟨ns, sn, ok2, hbig⟩ := arg_ints u27 u3 c3 (hval 0 25 v0 rfl rfl) h0
  have hln : ns.length < 4611686018427387904 := by
    rcases hbig with rfl | ⟨es, sp, rfl, hle⟩
    · simp
    · have := sized_slice hsz (j := 0) (t := 25) (e := 3) rfl rfl u27
      rw [b3] at this
      simp only [reachBytes] at this
      omega
  obtain ⟨M, last, o, w', t', r1, r2, r3, r4⟩ := law_run2 (g := 15) (fn := f15) at15 body15 (by kernel_rfl) W [v0] (Nat.le_of_ble_eq_true (by kernel_rfl : Nat.ble 1 f15.ntmps = true))
    (by
      intro v hv
      simp only [List.mem_cons, List.not_mem_nil, or_false] at hv
      subst hv
      exact ok2)
    (fun Post => walk15 (K := fun v _ => v = .bool true) sn hln fun _ => rfl)
  refine ⟨M, last, o, w', t', r1, r2, r3, r4.mono fun v hF => ?_⟩
  obtain ⟨rfl, hbelow⟩ := hF
  refine ⟨_, _, _, [], _, [], hW', ?_, hargs _ hbelow, by rfl, hbelow.frame _, fun h => by cases h⟩
  exact trodAll_mk1 (shut_bool u4 true)
theorem grassByDay_holds : Rows.GrassByDaySaid :=
  OpenClaim.holds_of_wide_leaving 15 f15 rfl rfl rfl rfl rfl rfl rfl ⟨rfl, rfl, rfl, rfl, rfl⟩ rfl rfl rfl rfl rfl (by kernel_rfl) at15 (by kernel_rfl)
    (of_decide_eq_true (by kernel_rfl)) (by unfold Func.isWrapper; first | (rw [if_pos (by decide +kernel)]; kernel_rfl) | (rw [if_neg (by decide +kernel)]; exact ⟨rfl, rfl⟩))
    (fun os started H enc _ => lifted15 os started H enc)
#print axioms grassByDay_holds
end Go.Proofs.Ythnccaajpdnndaa
