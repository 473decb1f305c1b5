/- GrassBetween answers true at every input, and its argument reads behind the call as it read before. No conditions. -/
import Derived.Test.YthnccaajpdnndaaK3
import Derived.Test.YthnccaajpdnndaaK2
import Derived.Test.YthnccaajpdnndaaK5
import Derived.Test.YthnccaajpdnndaaK6
namespace Go.Proofs.Ythnccaajpdnndaa
open Go.Conc Go.Proofs.Try
set_option maxRecDepth 100000
set_option maxHeartbeats 4000000
set_option linter.unusedVariables false
section
variable {main : Bool} {J : JT} {n0 : Nat} {h : List AObj} {K : Value → List AObj → Prop}
theorem at8 : prog.funcs[8]? = some f8 := by kernel_rfl
theorem body8 : f8.body = some (codeOf f8) := by kernel_rfl
def pl8 : Plans := [(8, false, .take 0 (.take 1 (.take 3 (.take 4 (.alt 2 true (.take 6 (.last 5 true (.take 7 (.fin)))) (.last 5 true (.last 2 true (.take 6 (.take 7 (.fin)))))))))),
  (12, true, .take 0 (.take 1 (.take 2 (.take 3 (.take 4 (.take 5 (.last 6 false (.take 7 (.take 8 (.take 9 (.take 10 (.take 11 (.fin))))))))))))),
  (18, true, .take 0 (.take 1 (.take 2 (.take 3 (.take 4 (.take 5 (.take 6 (.take 7 (.take 8 (.take 9 (.take 10 (.take 11 (.take 12 (.take 13 (.take 14 (.take 15 (.take 16 (.take 17 (.take 18 (.take 19 (.take 20 (.take 21 (.fin))))))))))))))))))))))),
  (20, true, .take 0 (.take 1 (.take 2 (.take 3 (.take 4 (.take 5 (.take 6 (.take 7 (.take 8 (.take 9 (.take 10 (.take 11 (.take 12 (.take 13 (.take 14 (.take 15 (.take 16 (.take 17 (.take 18 (.take 19 (.take 20 (.take 21 (.take 22 (.take 23 (.take 24 (.take 25 (.take 26 (.take 27 (.take 28 (.take 29 (.take 30 (.take 31 (.take 32 (.take 33 (.take 34 (.take 35 (.take 36 (.last 37 false (.take 38 (.last 39 false (.fin)))))))))))))))))))))))))))))))))))))))))]
def ct8 : Cuts := .bin (.go) (.bin (.go) (.bin (.go) (.bin (.go) (.bin (.go) (.bin (.go) (.bin (.bin (.go) (.cut (.go))) (.bin (.go) (.cut (.bin (.bin (.go) (.un (.un (.bin (.go) (.bin (.un (.bin (.go) (.bin (.bin (.go) (.cut (.go))) (.bin (.go) (.un (.un (.bin (.go) (.bin (.un (.bin (.bin (.go) (.cut (.go))) (.go))) (.go))))))))) (.go)))))) (.bin (.bin (.go) (.un (.un (.bin (.go) (.bin (.un (.bin (.go) (.cut (.go)))) (.go)))))) (.go)))))))))))
theorem pok8 : plansOk prog pl8 (codeOf f8) = true := by kernel_rfl
theorem e8 {a0 : Value} : W prog J 169 h.length 8 (codeOf f8) (RG.mk (regs [a0]) []) h (RetQ prog [.tmp 2] h.length K) =
(Good prog J 22 [a0] h fun v1 h2 =>
 Good prog J 24 [v1] h2 fun v3 h4 =>
 Good prog J 25 [v1, (vint 7)] h4 fun v5 h6 =>
 aAlloc [(vint 0), (vint 0), (vint 0), (vint 0), (vint 0), (vint 0)] h6 fun v7 h8 =>
 aAlloc [(vint 0), (vint 0), (vint 0)] h8 fun v9 h10 =>
 aStore 6 v7 v3 h10 fun h11 =>
 aStore 3 v9 v5 h11 fun h12 =>
 aOff v9 0 fun v13 =>
 aLoad false 1 v13 h12 fun v14 =>
 Good prog J 30 [v1, v14, (vint 9)] h12 fun v15 h16 =>
 aLoad true 6 v7 h16 fun v17 =>
 aLoad true 3 v9 h16 fun v18 =>
 Good prog J 41 [v17, v15, v18] h16 fun v19 h20 =>
 aExt v19 0 fun v21 =>
 aExt v19 1 fun v22 =>
 aLoad true 3 v9 h20 fun v23 =>
 Good prog J 34 [v23] h20 fun v24 h25 =>
 aExt v24 0 fun v26 =>
 aExt v24 1 fun v27 =>
 aBin prog .neq 37 v22 (vint 0) fun v28 =>
 cnd v28
(Hold (W prog J 169 h.length 8 (subC [1, 1, 1, 1, 1, 1, 0, 1] (codeOf f8)) (RG.p (RG.p (RG.p (RG.p (RG.p (RG.p (RG.p (RG.p (RG.p (RG.p (RG.p (RG.p (RG.p (RG.p (RG.p (RG.p (RG.p (RG.p (RG.p (RG.p (RG.p (RG.p (RG.p (RG.p (RG.p (RG.p (RG.p (RG.p (RG.p (RG.p (RG.p (RG.p (RG.p (RG.p (RG.p (RG.p (RG.p (RG.p (RG.p (RG.p (RG.p (RG.p (RG.p (RG.p (RG.p (RG.p (RG.mk (regs [a0]) []) 2 (Value.bool false)) 18 a0) 19 v1) 3 v1) 20 v1) 21 v3) 22 v1) 23 v5) 4 v7) 5 v9) 24 v1) 25 v13) 26 v14) 27 v15) 6 v15) 29 v17) 30 v15) 31 v18) 32 v19) 28 v19) 33 v21) 34 v22) 7 v21) 8 v22) 36 v23) 37 v24) 35 v24) 38 v26) 39 v27) 9 v26) 10 v27) 40 v22) 41 v28) 42 v28) 42 (Value.bool true)) 43 undef) 44 undef) 45 (Value.bool true)) 46 (Value.bool true)) 46 (Value.bool true)) 47 undef) 48 undef) 49 undef) 50 undef) 51 undef) 52 (Value.bool true)) h25 (contX pl8 prog J 169 h.length 8 ct8 [1, 1, 1, 1, 1, 1, 0, 1] (codeOf f8) [] (RetQ prog [.tmp 2] h.length K))))
(aBin prog .neq 37 v27 (vint 0) fun v29 =>
 cnd v29
(Hold (W prog J 169 h.length 8 (subC [1, 1, 1, 1, 1, 1, 0, 1] (codeOf f8)) (RG.p (RG.p (RG.p (RG.p (RG.p (RG.p (RG.p (RG.p (RG.p (RG.p (RG.p (RG.p (RG.p (RG.p (RG.p (RG.p (RG.p (RG.p (RG.p (RG.p (RG.p (RG.p (RG.p (RG.p (RG.p (RG.p (RG.p (RG.p (RG.p (RG.p (RG.p (RG.p (RG.p (RG.p (RG.p (RG.p (RG.p (RG.p (RG.p (RG.p (RG.p (RG.p (RG.p (RG.p (RG.p (RG.p (RG.mk (regs [a0]) []) 2 (Value.bool false)) 18 a0) 19 v1) 3 v1) 20 v1) 21 v3) 22 v1) 23 v5) 4 v7) 5 v9) 24 v1) 25 v13) 26 v14) 27 v15) 6 v15) 29 v17) 30 v15) 31 v18) 32 v19) 28 v19) 33 v21) 34 v22) 7 v21) 8 v22) 36 v23) 37 v24) 35 v24) 38 v26) 39 v27) 9 v26) 10 v27) 40 v22) 41 v28) 42 v28) 42 (Value.bool false)) 43 v27) 44 v29) 45 v29) 46 v29) 46 (Value.bool true)) 47 undef) 48 undef) 49 undef) 50 undef) 51 undef) 52 (Value.bool true)) h25 (contX pl8 prog J 169 h.length 8 ct8 [1, 1, 1, 1, 1, 1, 0, 1] (codeOf f8) [] (RetQ prog [.tmp 2] h.length K))))
(aLenS v21 fun v30 =>
 aOff v9 0 fun v31 =>
 aLoad false 1 v31 h25 fun v32 =>
 aBin prog .neq 3 v30 v32 fun v33 =>
 Hold (W prog J 169 h.length 8 (subC [1, 1, 1, 1, 1, 1, 0, 1] (codeOf f8)) (RG.p (RG.p (RG.p (RG.p (RG.p (RG.p (RG.p (RG.p (RG.p (RG.p (RG.p (RG.p (RG.p (RG.p (RG.p (RG.p (RG.p (RG.p (RG.p (RG.p (RG.p (RG.p (RG.p (RG.p (RG.p (RG.p (RG.p (RG.p (RG.p (RG.p (RG.p (RG.p (RG.p (RG.p (RG.p (RG.p (RG.p (RG.p (RG.p (RG.p (RG.p (RG.p (RG.p (RG.p (RG.p (RG.p (RG.mk (regs [a0]) []) 2 (Value.bool false)) 18 a0) 19 v1) 3 v1) 20 v1) 21 v3) 22 v1) 23 v5) 4 v7) 5 v9) 24 v1) 25 v13) 26 v14) 27 v15) 6 v15) 29 v17) 30 v15) 31 v18) 32 v19) 28 v19) 33 v21) 34 v22) 7 v21) 8 v22) 36 v23) 37 v24) 35 v24) 38 v26) 39 v27) 9 v26) 10 v27) 40 v22) 41 v28) 42 v28) 42 (Value.bool false)) 43 v27) 44 v29) 45 v29) 46 v29) 46 (Value.bool false)) 47 v21) 48 v30) 49 v31) 50 v32) 51 v33) 52 v33) h25 (contX pl8 prog J 169 h.length 8 ct8 [1, 1, 1, 1, 1, 1, 0, 1] (codeOf f8) [] (RetQ prog [.tmp 2] h.length K)))))) := top_eq pok8 ct8 (by kernel_rfl)
theorem s8_1 {f : RG} : W prog J 169 n0 8 (subC [1, 1, 1, 1, 1, 1, 0, 1] (codeOf f8)) f h (contX pl8 prog J 169 n0 8 ct8 [1, 1, 1, 1, 1, 1, 0, 1] (codeOf f8) [] (RetQ prog [.tmp 2] n0 K)) =
(cnd (f.r 52)
(retL n0 K f.ds [(Value.bool false)] h)
((∃ B, aOff (f.r 5) 0 fun v1 =>
 aLoad false 1 v1 h fun v2 =>
 RdOk (some B) (ptrBlk v1) ∧ (aOff (f.r 5) 0 fun v3 =>
 aLoad false 1 v3 h fun v4 =>
 RdOk (some B) (ptrBlk v3) ∧ ((((List.length [(Value.bool false)] = 1 ∧ (1 : Nat) ≤ 1024) ∧ aMkS [(Value.bool false)] v2 v2 h fun v5 h6 =>
 SameB (some B) h h6 ∧ (((List.length [(Value.bool false)] = 1 ∧ (1 : Nat) ≤ 1024) ∧ aMkS [(Value.bool false)] v4 v4 h6 fun v7 h8 =>
 SameB (some B) h h8 ∧ (Hold (W prog J 169 n0 8 (subC [1, 1, 1, 1, 1, 1, 1, 1] (codeOf f8)) (RG.p (RG.p (RG.p (RG.p (RG.p (RG.p (RG.p (RG.p f 53 v1) 54 v2) 56 v3) 57 v4) 55 v5) 11 v5) 58 v7) 12 v7) h8 (contX pl8 prog J 169 n0 8 ct8 [1, 1, 1, 1, 1, 1, 1, 1] (codeOf f8) [] (RetQ prog [.tmp 2] n0 K)))))))) ∧ (((List.length [(Value.bool false)] = 1 ∧ (1 : Nat) ≤ 1024) ∧ aMkS [(Value.bool false)] v4 v4 h fun v9 h10 =>
 SameB (some B) h h10 ∧ (((List.length [(Value.bool false)] = 1 ∧ (1 : Nat) ≤ 1024) ∧ aMkS [(Value.bool false)] v2 v2 h10 fun v11 h12 =>
 SameB (some B) h h12 ∧ (Hold (W prog J 169 n0 8 (subC [1, 1, 1, 1, 1, 1, 1, 1] (codeOf f8)) (RG.p (RG.p (RG.p (RG.p (RG.p (RG.p (RG.p (RG.p f 53 v1) 54 v2) 56 v3) 57 v4) 58 v9) 55 v11) 11 v11) 12 v9) h12 (contX pl8 prog J 169 n0 8 ct8 [1, 1, 1, 1, 1, 1, 1, 1] (codeOf f8) [] (RetQ prog [.tmp 2] n0 K))))))))))))) := sub_eq pok8 ct8 (by kernel_rfl)
theorem s8_2 {f : RG} : W prog J 169 n0 8 (subC [1, 1, 1, 1, 1, 1, 1, 1] (codeOf f8)) f h (contX pl8 prog J 169 n0 8 ct8 [1, 1, 1, 1, 1, 1, 1, 1] (codeOf f8) [] (RetQ prog [.tmp 2] n0 K)) =
(Sem J 169 n0 8 (subC [1, 1, 1, 1, 1, 1, 1, 1, 0, 1, 0] (codeOf f8)) (RG.p f 13 (vint 0)) h (contX pl8 prog J 169 n0 8 ct8 [1, 1, 1, 1, 1, 1, 1, 1, 0, 1, 0] (codeOf f8) [] (RetQ prog [.tmp 2] n0 K))) := sub_eq pok8 ct8 (by kernel_rfl)
theorem s8_3 {f : RG} {nx0 : RG → List AObj → Prop} : W prog J 169 n0 8 (subC [1, 1, 1, 1, 1, 1, 1, 1, 0, 1, 0, 0] (codeOf f8)) f h (thenK nx0 (contX pl8 prog J 169 n0 8 ct8 [1, 1, 1, 1, 1, 1, 1, 1, 0, 1, 0] (codeOf f8) [] (RetQ prog [.tmp 2] n0 K))) =
(aLenS (f.r 9) fun v1 =>
 aBin prog .lss 3 (f.r 13) v1 fun v2 =>
 cnd v2
(aLoad true 6 (f.r 4) h fun v3 =>
 aIdx 1 (f.r 9) (f.r 13) fun v4 =>
 aLoad false 1 v4 h fun v5 =>
 Good prog J 32 [v3, (f.r 6), v5] h fun v6 h7 =>
 aExt v6 0 fun v8 =>
 aExt v6 1 fun v9 =>
 aBin prog .neq 37 v9 (vint 0) fun v10 =>
 cnd v10
(Hold (W prog J 169 n0 8 (subC [1, 1, 1, 1, 1, 1, 1, 1, 0, 1, 0, 0, 1, 0, 0, 1, 0, 1] (codeOf f8)) (RG.p (RG.p (RG.p (RG.p (RG.p (RG.p (RG.p (RG.p (RG.p (RG.p (RG.p (RG.p (RG.p (RG.p (RG.p (RG.p (RG.p (RG.p (RG.p (RG.p (RG.p (RG.p (RG.p (RG.p (RG.p (RG.p f 59 (f.r 13)) 60 (f.r 9)) 61 v1) 62 v2) 66 v3) 67 (f.r 6)) 68 (f.r 9)) 69 (f.r 13)) 70 v4) 71 v5) 72 v6) 65 v6) 73 v8) 74 v9) 14 v8) 15 v9) 75 v9) 76 v10) 77 v10) 77 (Value.bool true)) 78 undef) 79 undef) 80 undef) 81 undef) 82 undef) 83 (Value.bool true)) h7 (contX pl8 prog J 169 n0 8 ct8 [1, 1, 1, 1, 1, 1, 1, 1, 0, 1, 0, 0, 1, 0, 0, 1, 0, 1] (codeOf f8) [nx0] (RetQ prog [.tmp 2] n0 K))))
(aLenS v8 fun v11 =>
 aOff (f.r 5) 0 fun v12 =>
 aLoad false 1 v12 h7 fun v13 =>
 aBin prog .neq 3 v11 v13 fun v14 =>
 Hold (W prog J 169 n0 8 (subC [1, 1, 1, 1, 1, 1, 1, 1, 0, 1, 0, 0, 1, 0, 0, 1, 0, 1] (codeOf f8)) (RG.p (RG.p (RG.p (RG.p (RG.p (RG.p (RG.p (RG.p (RG.p (RG.p (RG.p (RG.p (RG.p (RG.p (RG.p (RG.p (RG.p (RG.p (RG.p (RG.p (RG.p (RG.p (RG.p (RG.p (RG.p (RG.p f 59 (f.r 13)) 60 (f.r 9)) 61 v1) 62 v2) 66 v3) 67 (f.r 6)) 68 (f.r 9)) 69 (f.r 13)) 70 v4) 71 v5) 72 v6) 65 v6) 73 v8) 74 v9) 14 v8) 15 v9) 75 v9) 76 v10) 77 v10) 77 (Value.bool false)) 78 v8) 79 v11) 80 v12) 81 v13) 82 v14) 83 v14) h7 (contX pl8 prog J 169 n0 8 ct8 [1, 1, 1, 1, 1, 1, 1, 1, 0, 1, 0, 0, 1, 0, 0, 1, 0, 1] (codeOf f8) [nx0] (RetQ prog [.tmp 2] n0 K)))))
(Sem J 169 n0 8 (subC [1, 1, 1, 1, 1, 1, 1, 1, 1, 0, 1, 0] (codeOf f8)) (RG.p (RG.p (RG.p (RG.p (RG.p f 59 (f.r 13)) 60 (f.r 9)) 61 v1) 62 v2) 17 (vint 0)) h (contX pl8 prog J 169 n0 8 ct8 [1, 1, 1, 1, 1, 1, 1, 1, 1, 0, 1, 0] (codeOf f8) [] (RetQ prog [.tmp 2] n0 K)))) := sub_eq pok8 ct8 (by kernel_rfl)
theorem l8_3 (hJ : Closed prog main J) {S : Type} (μ : S → Nat) (I : S → RG → List AObj → Prop) (hI : ∀ s f h, I s f h → heapOk h → n0 ≤ h.length → W prog J 169 n0 8 (subC [1, 1, 1, 1, 1, 1, 1, 1, 0, 1, 0, 0] (codeOf f8)) f h (thenK (Nx n0 μ I s) (contX pl8 prog J 169 n0 8 ct8 [1, 1, 1, 1, 1, 1, 1, 1, 0, 1, 0] (codeOf f8) [] (RetQ prog [.tmp 2] n0 K))))
  {s : S} {f : RG} (hi : Gets n0 I s f h) : Sem J 169 n0 8 (subC [1, 1, 1, 1, 1, 1, 1, 1, 0, 1, 0] (codeOf f8)) f h (contX pl8 prog J 169 n0 8 ct8 [1, 1, 1, 1, 1, 1, 1, 1, 0, 1, 0] (codeOf f8) [] (RetQ prog [.tmp 2] n0 K)) :=
  loop_rule hJ mixed (b := subC [1, 1, 1, 1, 1, 1, 1, 1, 0, 1, 0, 0] (codeOf f8)) (by kernel_rfl) μ I hI hi
theorem s8_4 {f : RG} {nx0 : RG → List AObj → Prop} : W prog J 169 n0 8 (subC [1, 1, 1, 1, 1, 1, 1, 1, 0, 1, 0, 0, 1, 0, 0, 1, 0, 1] (codeOf f8)) f h (contX pl8 prog J 169 n0 8 ct8 [1, 1, 1, 1, 1, 1, 1, 1, 0, 1, 0, 0, 1, 0, 0, 1, 0, 1] (codeOf f8) [nx0] (RetQ prog [.tmp 2] n0 K)) =
(cnd (f.r 83)
(retL n0 K f.ds [(Value.bool false)] h)
(Sem J 169 n0 8 (subC [1, 1, 1, 1, 1, 1, 1, 1, 0, 1, 0, 0, 1, 0, 0, 1, 1, 1, 0] (codeOf f8)) (RG.p f 16 (vint 0)) h (contX pl8 prog J 169 n0 8 ct8 [1, 1, 1, 1, 1, 1, 1, 1, 0, 1, 0, 0, 1, 0, 0, 1, 1, 1, 0] (codeOf f8) [nx0] (RetQ prog [.tmp 2] n0 K)))) := sub_eq pok8 ct8 (by kernel_rfl)
theorem s8_5 {f : RG} {nx0 : RG → List AObj → Prop} : W prog J 169 n0 8 (subC [1, 1, 1, 1, 1, 1, 1, 1, 1, 0, 1, 0, 0] (codeOf f8)) f h (thenK nx0 (contX pl8 prog J 169 n0 8 ct8 [1, 1, 1, 1, 1, 1, 1, 1, 1, 0, 1, 0] (codeOf f8) [] (RetQ prog [.tmp 2] n0 K))) =
(aOff (f.r 5) 0 fun v1 =>
 aLoad false 1 v1 h fun v2 =>
 aBin prog .lss 3 (f.r 17) v2 fun v3 =>
 cnd v3
(aIdx 1 (f.r 11) (f.r 17) fun v4 =>
 aLoad false 1 v4 h fun v5 =>
 aUn .not v5 fun v6 =>
 cnd v6
(Hold (W prog J 169 n0 8 (subC [1, 1, 1, 1, 1, 1, 1, 1, 1, 0, 1, 0, 0, 1, 0, 0, 1] (codeOf f8)) (RG.p (RG.p (RG.p (RG.p (RG.p (RG.p (RG.p (RG.p (RG.p (RG.p (RG.p (RG.p (RG.p (RG.p (RG.p (RG.p (RG.p f 150 (f.r 17)) 151 v1) 152 v2) 153 v3) 156 (f.r 11)) 157 (f.r 17)) 158 v4) 159 v5) 160 v6) 161 v6) 161 (Value.bool true)) 162 undef) 163 undef) 164 undef) 165 undef) 166 undef) 167 (Value.bool true)) h (contX pl8 prog J 169 n0 8 ct8 [1, 1, 1, 1, 1, 1, 1, 1, 1, 0, 1, 0, 0, 1, 0, 0, 1] (codeOf f8) [nx0] (RetQ prog [.tmp 2] n0 K))))
(aIdx 1 (f.r 12) (f.r 17) fun v7 =>
 aLoad false 1 v7 h fun v8 =>
 aUn .not v8 fun v9 =>
 Hold (W prog J 169 n0 8 (subC [1, 1, 1, 1, 1, 1, 1, 1, 1, 0, 1, 0, 0, 1, 0, 0, 1] (codeOf f8)) (RG.p (RG.p (RG.p (RG.p (RG.p (RG.p (RG.p (RG.p (RG.p (RG.p (RG.p (RG.p (RG.p (RG.p (RG.p (RG.p (RG.p f 150 (f.r 17)) 151 v1) 152 v2) 153 v3) 156 (f.r 11)) 157 (f.r 17)) 158 v4) 159 v5) 160 v6) 161 v6) 161 (Value.bool false)) 162 (f.r 12)) 163 (f.r 17)) 164 v7) 165 v8) 166 v9) 167 v9) h (contX pl8 prog J 169 n0 8 ct8 [1, 1, 1, 1, 1, 1, 1, 1, 1, 0, 1, 0, 0, 1, 0, 0, 1] (codeOf f8) [nx0] (RetQ prog [.tmp 2] n0 K)))))
(Good prog J 21 [] h fun v10 h11 =>
 retL n0 K f.ds [v10] h11)) := sub_eq pok8 ct8 (by kernel_rfl)
theorem l8_5 (hJ : Closed prog main J) {S : Type} (μ : S → Nat) (I : S → RG → List AObj → Prop) (hI : ∀ s f h, I s f h → heapOk h → n0 ≤ h.length → W prog J 169 n0 8 (subC [1, 1, 1, 1, 1, 1, 1, 1, 1, 0, 1, 0, 0] (codeOf f8)) f h (thenK (Nx n0 μ I s) (contX pl8 prog J 169 n0 8 ct8 [1, 1, 1, 1, 1, 1, 1, 1, 1, 0, 1, 0] (codeOf f8) [] (RetQ prog [.tmp 2] n0 K))))
  {s : S} {f : RG} (hi : Gets n0 I s f h) : Sem J 169 n0 8 (subC [1, 1, 1, 1, 1, 1, 1, 1, 1, 0, 1, 0] (codeOf f8)) f h (contX pl8 prog J 169 n0 8 ct8 [1, 1, 1, 1, 1, 1, 1, 1, 1, 0, 1, 0] (codeOf f8) [] (RetQ prog [.tmp 2] n0 K)) :=
  loop_rule hJ mixed (b := subC [1, 1, 1, 1, 1, 1, 1, 1, 1, 0, 1, 0, 0] (codeOf f8)) (by kernel_rfl) μ I hI hi
theorem s8_6 {f : RG} {nx0 nx1 : RG → List AObj → Prop} : W prog J 169 n0 8 (subC [1, 1, 1, 1, 1, 1, 1, 1, 0, 1, 0, 0, 1, 0, 0, 1, 1, 1, 0, 0] (codeOf f8)) f h (thenK nx1 (contX pl8 prog J 169 n0 8 ct8 [1, 1, 1, 1, 1, 1, 1, 1, 0, 1, 0, 0, 1, 0, 0, 1, 1, 1, 0] (codeOf f8) [nx0] (RetQ prog [.tmp 2] n0 K))) =
(aOff (f.r 5) 0 fun v1 =>
 aLoad false 1 v1 h fun v2 =>
 aBin prog .lss 3 (f.r 16) v2 fun v3 =>
 cnd v3
(aIdx 1 (f.r 14) (f.r 16) fun v4 =>
 aLoad false 1 v4 h fun v5 =>
 aIdx 2 (f.r 7) (f.r 16) fun v6 =>
 aOff v6 0 fun v7 =>
 aLoad false 1 v7 h fun v8 =>
 aBin prog .lss 3 v5 v8 fun v9 =>
 cnd v9
(Hold (W prog J 169 n0 8 (subC [1, 1, 1, 1, 1, 1, 1, 1, 0, 1, 0, 0, 1, 0, 0, 1, 1, 1, 0, 0, 1, 0, 0, 0, 1] (codeOf f8)) (RG.p (RG.p (RG.p (RG.p (RG.p (RG.p (RG.p (RG.p (RG.p (RG.p (RG.p (RG.p (RG.p (RG.p (RG.p (RG.p (RG.p (RG.p (RG.p (RG.p (RG.p (RG.p (RG.p (RG.p (RG.p (RG.p (RG.p f 84 (f.r 16)) 85 v1) 86 v2) 87 v3) 90 (f.r 14)) 91 (f.r 16)) 92 v4) 93 v5) 94 (f.r 7)) 95 (f.r 16)) 96 v6) 97 v7) 98 v8) 99 v9) 100 v9) 100 (Value.bool true)) 101 undef) 102 undef) 103 undef) 104 undef) 105 undef) 106 undef) 107 undef) 108 undef) 109 undef) 110 undef) 111 (Value.bool true)) h (contX pl8 prog J 169 n0 8 ct8 [1, 1, 1, 1, 1, 1, 1, 1, 0, 1, 0, 0, 1, 0, 0, 1, 1, 1, 0, 0, 1, 0, 0, 0, 1] (codeOf f8) [nx0, nx1] (RetQ prog [.tmp 2] n0 K))))
(aIdx 1 (f.r 14) (f.r 16) fun v10 =>
 aLoad false 1 v10 h fun v11 =>
 aIdx 2 (f.r 7) (f.r 16) fun v12 =>
 aOff v12 1 fun v13 =>
 aLoad false 1 v13 h fun v14 =>
 aBin prog .gtr 3 v11 v14 fun v15 =>
 Hold (W prog J 169 n0 8 (subC [1, 1, 1, 1, 1, 1, 1, 1, 0, 1, 0, 0, 1, 0, 0, 1, 1, 1, 0, 0, 1, 0, 0, 0, 1] (codeOf f8)) (RG.p (RG.p (RG.p (RG.p (RG.p (RG.p (RG.p (RG.p (RG.p (RG.p (RG.p (RG.p (RG.p (RG.p (RG.p (RG.p (RG.p (RG.p (RG.p (RG.p (RG.p (RG.p (RG.p (RG.p (RG.p (RG.p (RG.p f 84 (f.r 16)) 85 v1) 86 v2) 87 v3) 90 (f.r 14)) 91 (f.r 16)) 92 v4) 93 v5) 94 (f.r 7)) 95 (f.r 16)) 96 v6) 97 v7) 98 v8) 99 v9) 100 v9) 100 (Value.bool false)) 101 (f.r 14)) 102 (f.r 16)) 103 v10) 104 v11) 105 (f.r 7)) 106 (f.r 16)) 107 v12) 108 v13) 109 v14) 110 v15) 111 v15) h (contX pl8 prog J 169 n0 8 ct8 [1, 1, 1, 1, 1, 1, 1, 1, 0, 1, 0, 0, 1, 0, 0, 1, 1, 1, 0, 0, 1, 0, 0, 0, 1] (codeOf f8) [nx0, nx1] (RetQ prog [.tmp 2] n0 K)))))
(aBin prog .add 3 (f.r 13) (vint 1) fun v16 =>
 nx0 (RG.p (RG.p (RG.p (RG.p (RG.p (RG.p (RG.p f 84 (f.r 16)) 85 v1) 86 v2) 87 v3) 63 (f.r 13)) 64 v16) 13 v16) h)) := sub_eq pok8 ct8 (by kernel_rfl)
theorem l8_6 (hJ : Closed prog main J) {nx0 : RG → List AObj → Prop} {S : Type} (μ : S → Nat) (I : S → RG → List AObj → Prop) (hI : ∀ s f h, I s f h → heapOk h → n0 ≤ h.length → W prog J 169 n0 8 (subC [1, 1, 1, 1, 1, 1, 1, 1, 0, 1, 0, 0, 1, 0, 0, 1, 1, 1, 0, 0] (codeOf f8)) f h (thenK (Nx n0 μ I s) (contX pl8 prog J 169 n0 8 ct8 [1, 1, 1, 1, 1, 1, 1, 1, 0, 1, 0, 0, 1, 0, 0, 1, 1, 1, 0] (codeOf f8) [nx0] (RetQ prog [.tmp 2] n0 K))))
  {s : S} {f : RG} (hi : Gets n0 I s f h) : Sem J 169 n0 8 (subC [1, 1, 1, 1, 1, 1, 1, 1, 0, 1, 0, 0, 1, 0, 0, 1, 1, 1, 0] (codeOf f8)) f h (contX pl8 prog J 169 n0 8 ct8 [1, 1, 1, 1, 1, 1, 1, 1, 0, 1, 0, 0, 1, 0, 0, 1, 1, 1, 0] (codeOf f8) [nx0] (RetQ prog [.tmp 2] n0 K)) :=
  loop_rule hJ mixed (b := subC [1, 1, 1, 1, 1, 1, 1, 1, 0, 1, 0, 0, 1, 0, 0, 1, 1, 1, 0, 0] (codeOf f8)) (by kernel_rfl) μ I hI hi
theorem s8_7 {f : RG} {nx0 : RG → List AObj → Prop} : W prog J 169 n0 8 (subC [1, 1, 1, 1, 1, 1, 1, 1, 1, 0, 1, 0, 0, 1, 0, 0, 1] (codeOf f8)) f h (contX pl8 prog J 169 n0 8 ct8 [1, 1, 1, 1, 1, 1, 1, 1, 1, 0, 1, 0, 0, 1, 0, 0, 1] (codeOf f8) [nx0] (RetQ prog [.tmp 2] n0 K)) =
(cnd (f.r 167)
(retL n0 K f.ds [(Value.bool false)] h)
(aBin prog .add 3 (f.r 17) (vint 1) fun v1 =>
 nx0 (RG.p (RG.p (RG.p f 154 (f.r 17)) 155 v1) 17 v1) h)) := sub_eq pok8 ct8 (by kernel_rfl)
theorem s8_8 {f : RG} {nx0 nx1 : RG → List AObj → Prop} : W prog J 169 n0 8 (subC [1, 1, 1, 1, 1, 1, 1, 1, 0, 1, 0, 0, 1, 0, 0, 1, 1, 1, 0, 0, 1, 0, 0, 0, 1] (codeOf f8)) f h (contX pl8 prog J 169 n0 8 ct8 [1, 1, 1, 1, 1, 1, 1, 1, 0, 1, 0, 0, 1, 0, 0, 1, 1, 1, 0, 0, 1, 0, 0, 0, 1] (codeOf f8) [nx0, nx1] (RetQ prog [.tmp 2] n0 K)) =
(cnd (f.r 111)
(retL n0 K f.ds [(Value.bool false)] h)
(aIdx 1 (f.r 11) (f.r 16) fun v1 =>
 aLoad false 1 v1 h fun v2 =>
 cnd v2
(aIdx 1 (f.r 12) (f.r 16) fun v3 =>
 aLoad false 1 v3 h fun v4 =>
 cnd v4
(aIdx 1 (f.r 11) (f.r 16) fun v5 =>
 aStore 1 v5 (Value.bool true) h fun h6 =>
 aIdx 1 (f.r 12) (f.r 16) fun v7 =>
 aStore 1 v7 (Value.bool true) h6 fun h8 =>
 aBin prog .add 3 (f.r 16) (vint 1) fun v9 =>
 nx1 (RG.p (RG.p (RG.p (RG.p (RG.p (RG.p (RG.p (RG.p (RG.p (RG.p (RG.p (RG.p (RG.p (RG.p (RG.p (RG.p (RG.p (RG.p (RG.p (RG.p (RG.p (RG.p (RG.p (RG.p (RG.p (RG.p (RG.p (RG.p (RG.p (RG.p (RG.p (RG.p (RG.p (RG.p (RG.p (RG.p (RG.p (RG.p (RG.p (RG.p (RG.p (RG.p (RG.p f 112 (f.r 11)) 113 (f.r 16)) 114 (f.r 12)) 115 (f.r 16)) 116 (f.r 11)) 117 (f.r 16)) 118 v1) 119 v2) 120 v2) 120 (Value.bool true)) 121 undef) 122 undef) 123 undef) 124 undef) 125 undef) 126 undef) 127 undef) 128 undef) 129 undef) 130 undef) 131 (Value.bool true)) 132 (f.r 12)) 133 (f.r 16)) 134 v3) 135 v4) 136 v4) 136 (Value.bool true)) 137 undef) 138 undef) 139 undef) 140 undef) 141 undef) 142 undef) 143 undef) 144 undef) 145 undef) 146 undef) 147 (Value.bool true)) 148 v5) 149 v7) 88 (f.r 16)) 89 v9) 16 v9) h8)
(aIdx 1 (f.r 14) (f.r 16) fun v10 =>
 aLoad false 1 v10 h fun v11 =>
 aIdx 2 (f.r 7) (f.r 16) fun v12 =>
 aOff v12 1 fun v13 =>
 aLoad false 1 v13 h fun v14 =>
 aBin prog .eql 3 v11 v14 fun v15 =>
 aIdx 1 (f.r 11) (f.r 16) fun v16 =>
 aStore 1 v16 (Value.bool true) h fun h17 =>
 aIdx 1 (f.r 12) (f.r 16) fun v18 =>
 aStore 1 v18 v15 h17 fun h19 =>
 aBin prog .add 3 (f.r 16) (vint 1) fun v20 =>
 nx1 (RG.p (RG.p (RG.p (RG.p (RG.p (RG.p (RG.p (RG.p (RG.p (RG.p (RG.p (RG.p (RG.p (RG.p (RG.p (RG.p (RG.p (RG.p (RG.p (RG.p (RG.p (RG.p (RG.p (RG.p (RG.p (RG.p (RG.p (RG.p (RG.p (RG.p (RG.p (RG.p (RG.p (RG.p (RG.p (RG.p (RG.p (RG.p (RG.p (RG.p (RG.p (RG.p (RG.p f 112 (f.r 11)) 113 (f.r 16)) 114 (f.r 12)) 115 (f.r 16)) 116 (f.r 11)) 117 (f.r 16)) 118 v1) 119 v2) 120 v2) 120 (Value.bool true)) 121 undef) 122 undef) 123 undef) 124 undef) 125 undef) 126 undef) 127 undef) 128 undef) 129 undef) 130 undef) 131 (Value.bool true)) 132 (f.r 12)) 133 (f.r 16)) 134 v3) 135 v4) 136 v4) 136 (Value.bool false)) 137 (f.r 14)) 138 (f.r 16)) 139 v10) 140 v11) 141 (f.r 7)) 142 (f.r 16)) 143 v12) 144 v13) 145 v14) 146 v15) 147 v15) 148 v16) 149 v18) 88 (f.r 16)) 89 v20) 16 v20) h19))
(aIdx 1 (f.r 14) (f.r 16) fun v21 =>
 aLoad false 1 v21 h fun v22 =>
 aIdx 2 (f.r 7) (f.r 16) fun v23 =>
 aOff v23 0 fun v24 =>
 aLoad false 1 v24 h fun v25 =>
 aBin prog .eql 3 v22 v25 fun v26 =>
 aIdx 1 (f.r 12) (f.r 16) fun v27 =>
 aLoad false 1 v27 h fun v28 =>
 cnd v28
(aIdx 1 (f.r 11) (f.r 16) fun v29 =>
 aStore 1 v29 v26 h fun h30 =>
 aIdx 1 (f.r 12) (f.r 16) fun v31 =>
 aStore 1 v31 (Value.bool true) h30 fun h32 =>
 aBin prog .add 3 (f.r 16) (vint 1) fun v33 =>
 nx1 (RG.p (RG.p (RG.p (RG.p (RG.p (RG.p (RG.p (RG.p (RG.p (RG.p (RG.p (RG.p (RG.p (RG.p (RG.p (RG.p (RG.p (RG.p (RG.p (RG.p (RG.p (RG.p (RG.p (RG.p (RG.p (RG.p (RG.p (RG.p (RG.p (RG.p (RG.p (RG.p (RG.p (RG.p (RG.p (RG.p (RG.p (RG.p (RG.p (RG.p (RG.p (RG.p (RG.p f 112 (f.r 11)) 113 (f.r 16)) 114 (f.r 12)) 115 (f.r 16)) 116 (f.r 11)) 117 (f.r 16)) 118 v1) 119 v2) 120 v2) 120 (Value.bool false)) 121 (f.r 14)) 122 (f.r 16)) 123 v21) 124 v22) 125 (f.r 7)) 126 (f.r 16)) 127 v23) 128 v24) 129 v25) 130 v26) 131 v26) 132 (f.r 12)) 133 (f.r 16)) 134 v27) 135 v28) 136 v28) 136 (Value.bool true)) 137 undef) 138 undef) 139 undef) 140 undef) 141 undef) 142 undef) 143 undef) 144 undef) 145 undef) 146 undef) 147 (Value.bool true)) 148 v29) 149 v31) 88 (f.r 16)) 89 v33) 16 v33) h32)
(aIdx 1 (f.r 14) (f.r 16) fun v34 =>
 aLoad false 1 v34 h fun v35 =>
 aIdx 2 (f.r 7) (f.r 16) fun v36 =>
 aOff v36 1 fun v37 =>
 aLoad false 1 v37 h fun v38 =>
 aBin prog .eql 3 v35 v38 fun v39 =>
 aIdx 1 (f.r 11) (f.r 16) fun v40 =>
 aStore 1 v40 v26 h fun h41 =>
 aIdx 1 (f.r 12) (f.r 16) fun v42 =>
 aStore 1 v42 v39 h41 fun h43 =>
 aBin prog .add 3 (f.r 16) (vint 1) fun v44 =>
 nx1 (RG.p (RG.p (RG.p (RG.p (RG.p (RG.p (RG.p (RG.p (RG.p (RG.p (RG.p (RG.p (RG.p (RG.p (RG.p (RG.p (RG.p (RG.p (RG.p (RG.p (RG.p (RG.p (RG.p (RG.p (RG.p (RG.p (RG.p (RG.p (RG.p (RG.p (RG.p (RG.p (RG.p (RG.p (RG.p (RG.p (RG.p (RG.p (RG.p (RG.p (RG.p (RG.p (RG.p f 112 (f.r 11)) 113 (f.r 16)) 114 (f.r 12)) 115 (f.r 16)) 116 (f.r 11)) 117 (f.r 16)) 118 v1) 119 v2) 120 v2) 120 (Value.bool false)) 121 (f.r 14)) 122 (f.r 16)) 123 v21) 124 v22) 125 (f.r 7)) 126 (f.r 16)) 127 v23) 128 v24) 129 v25) 130 v26) 131 v26) 132 (f.r 12)) 133 (f.r 16)) 134 v27) 135 v28) 136 v28) 136 (Value.bool false)) 137 (f.r 14)) 138 (f.r 16)) 139 v34) 140 v35) 141 (f.r 7)) 142 (f.r 16)) 143 v36) 144 v37) 145 v38) 146 v39) 147 v39) 148 v40) 149 v42) 88 (f.r 16)) 89 v44) 16 v44) h43)))) := sub_eq pok8 ct8 (by kernel_rfl)
end
section
variable {main : Bool} {J : JT} {n0 : Nat} {h : List AObj} {K : Value → List AObj → Prop}
def pl16 : Plans := [(4, false, .take 0 (.take 1 (.take 2 (.take 3 (.take 5 (.take 6 (.take 7 (.last 4 true (.last 8 true (.take 9 (.take 10 (.fin)))))))))))),
  (13, true, .take 0 (.take 1 (.take 2 (.take 3 (.take 4 (.take 5 (.last 6 false (.take 7 (.take 8 (.take 9 (.take 10 (.take 11 (.fin)))))))))))))]
def ct16 : Cuts := .bin (.go) (.bin (.go) (.bin (.go) (.bin (.go) (.bin (.go) (.bin (.go) (.bin (.go) (.bin (.bin (.go) (.cut (.go))) (.bin (.go) (.bin (.bin (.go) (.un (.un (.bin (.go) (.bin (.un (.bin (.go) (.bin (.bin (.go) (.cut (.go))) (.go)))) (.go)))))) (.go))))))))))
theorem pok16 : plansOk prog pl16 (codeOf f16) = true := by kernel_rfl
theorem e16 {a0 : Value} : W prog J 138 h.length 16 (codeOf f16) (RG.mk (regs [a0]) []) h (RetQ prog [.tmp 2] h.length K) =
(Good prog J 22 [a0] h fun v1 h2 =>
 Good prog J 24 [v1] h2 fun v3 h4 =>
 Good prog J 25 [v1, (vint 7)] h4 fun v5 h6 =>
 aAlloc [(vint 0), (vint 0), (vint 0), (vint 0), (vint 0), (vint 0)] h6 fun v7 h8 =>
 aAlloc [(vint 0), (vint 0), (vint 0)] h8 fun v9 h10 =>
 aStore 6 v7 v3 h10 fun h11 =>
 aStore 3 v9 v5 h11 fun h12 =>
 aOff v9 0 fun v13 =>
 aLoad false 1 v13 h12 fun v14 =>
 Good prog J 30 [v1, v14, (vint 7)] h12 fun v15 h16 =>
(∃ B, aOff v9 0 fun v17 =>
 aLoad false 1 v17 h16 fun v18 =>
 RdOk (some B) (ptrBlk v17) ∧ (aBin prog .sub 3 v18 (vint 1) fun v19 =>
 aOff v7 1 fun v20 =>
 aLoad false 1 v20 h16 fun v21 =>
 RdOk (some B) (ptrBlk v20) ∧ (Good prog J 26 [v1, v19] h16 fun v22 h23 =>
 SameB (some B) h16 h23 ∧ (Good prog J 26 [v1, v21] h23 fun v24 h25 =>
 SameB (some B) h16 h25 ∧ (aLoad true 6 v7 h25 fun v26 =>
 aLoad true 3 v9 h25 fun v27 =>
 Good prog J 63 [v26, v15, v27, v22, v24] h25 fun v28 h29 =>
 aExt v28 0 fun v30 =>
 aExt v28 1 fun v31 =>
 aLoad true 3 v9 h29 fun v32 =>
 Good prog J 34 [v32] h29 fun v33 h34 =>
 aExt v33 0 fun v35 =>
 aExt v33 1 fun v36 =>
 aBin prog .neq 37 v36 (vint 0) fun v37 =>
 cnd v37
(Hold (W prog J 138 h.length 16 (subC [1, 1, 1, 1, 1, 1, 1, 0, 1] (codeOf f16)) (RG.p (RG.p (RG.p (RG.p (RG.p (RG.p (RG.p (RG.p (RG.p (RG.p (RG.p (RG.p (RG.p (RG.p (RG.p (RG.p (RG.p (RG.p (RG.p (RG.p (RG.p (RG.p (RG.p (RG.p (RG.p (RG.p (RG.p (RG.p (RG.p (RG.p (RG.p (RG.p (RG.p (RG.p (RG.p (RG.p (RG.p (RG.p (RG.p (RG.p (RG.p (RG.p (RG.p (RG.p (RG.p (RG.p (RG.p (RG.p (RG.p (RG.p (RG.p (RG.p (RG.p (RG.p (RG.p (RG.mk (regs [a0]) []) 2 (Value.bool false)) 19 a0) 20 v1) 3 v1) 21 v1) 22 v3) 23 v1) 24 v5) 4 v7) 5 v9) 25 v1) 26 v13) 27 v14) 28 v15) 6 v15) 29 v1) 30 v17) 31 v18) 32 v19) 34 v1) 35 v20) 36 v21) 33 v22) 37 v24) 7 v22) 8 v24) 39 v26) 40 v15) 41 v27) 42 v22) 43 v24) 44 v28) 38 v28) 45 v30) 46 v31) 9 v30) 10 v31) 48 v32) 49 v33) 47 v33) 50 v35) 51 v36) 11 v35) 12 v36) 52 v36) 53 v37) 54 v37) 54 (Value.bool true)) 55 undef) 56 undef) 57 undef) 58 undef) 59 undef) 60 undef) 61 (Value.bool true)) h34 (contX pl16 prog J 138 h.length 16 ct16 [1, 1, 1, 1, 1, 1, 1, 0, 1] (codeOf f16) [] (RetQ prog [.tmp 2] h.length K))))
(aBin prog .neq 37 v31 (vint 0) fun v38 =>
 cnd v38
(aBin prog .neq 37 v31 (vint 11) fun v39 =>
 Hold (W prog J 138 h.length 16 (subC [1, 1, 1, 1, 1, 1, 1, 0, 1] (codeOf f16)) (RG.p (RG.p (RG.p (RG.p (RG.p (RG.p (RG.p (RG.p (RG.p (RG.p (RG.p (RG.p (RG.p (RG.p (RG.p (RG.p (RG.p (RG.p (RG.p (RG.p (RG.p (RG.p (RG.p (RG.p (RG.p (RG.p (RG.p (RG.p (RG.p (RG.p (RG.p (RG.p (RG.p (RG.p (RG.p (RG.p (RG.p (RG.p (RG.p (RG.p (RG.p (RG.p (RG.p (RG.p (RG.p (RG.p (RG.p (RG.p (RG.p (RG.p (RG.p (RG.p (RG.p (RG.p (RG.p (RG.p (RG.mk (regs [a0]) []) 2 (Value.bool false)) 19 a0) 20 v1) 3 v1) 21 v1) 22 v3) 23 v1) 24 v5) 4 v7) 5 v9) 25 v1) 26 v13) 27 v14) 28 v15) 6 v15) 29 v1) 30 v17) 31 v18) 32 v19) 34 v1) 35 v20) 36 v21) 33 v22) 37 v24) 7 v22) 8 v24) 39 v26) 40 v15) 41 v27) 42 v22) 43 v24) 44 v28) 38 v28) 45 v30) 46 v31) 9 v30) 10 v31) 48 v32) 49 v33) 47 v33) 50 v35) 51 v36) 11 v35) 12 v36) 52 v36) 53 v37) 54 v37) 54 (Value.bool false)) 55 v31) 56 v38) 57 v38) 57 (Value.bool true)) 58 v31) 59 v39) 60 v39) 61 v39) h34 (contX pl16 prog J 138 h.length 16 ct16 [1, 1, 1, 1, 1, 1, 1, 0, 1] (codeOf f16) [] (RetQ prog [.tmp 2] h.length K))))
(Hold (W prog J 138 h.length 16 (subC [1, 1, 1, 1, 1, 1, 1, 0, 1] (codeOf f16)) (RG.p (RG.p (RG.p (RG.p (RG.p (RG.p (RG.p (RG.p (RG.p (RG.p (RG.p (RG.p (RG.p (RG.p (RG.p (RG.p (RG.p (RG.p (RG.p (RG.p (RG.p (RG.p (RG.p (RG.p (RG.p (RG.p (RG.p (RG.p (RG.p (RG.p (RG.p (RG.p (RG.p (RG.p (RG.p (RG.p (RG.p (RG.p (RG.p (RG.p (RG.p (RG.p (RG.p (RG.p (RG.p (RG.p (RG.p (RG.p (RG.p (RG.p (RG.p (RG.p (RG.p (RG.p (RG.p (RG.p (RG.mk (regs [a0]) []) 2 (Value.bool false)) 19 a0) 20 v1) 3 v1) 21 v1) 22 v3) 23 v1) 24 v5) 4 v7) 5 v9) 25 v1) 26 v13) 27 v14) 28 v15) 6 v15) 29 v1) 30 v17) 31 v18) 32 v19) 34 v1) 35 v20) 36 v21) 33 v22) 37 v24) 7 v22) 8 v24) 39 v26) 40 v15) 41 v27) 42 v22) 43 v24) 44 v28) 38 v28) 45 v30) 46 v31) 9 v30) 10 v31) 48 v32) 49 v33) 47 v33) 50 v35) 51 v36) 11 v35) 12 v36) 52 v36) 53 v37) 54 v37) 54 (Value.bool false)) 55 v31) 56 v38) 57 v38) 57 (Value.bool false)) 58 undef) 59 undef) 60 (Value.bool false)) 61 (Value.bool false)) h34 (contX pl16 prog J 138 h.length 16 ct16 [1, 1, 1, 1, 1, 1, 1, 0, 1] (codeOf f16) [] (RetQ prog [.tmp 2] h.length K))))))))))) := top_eq pok16 ct16 (by kernel_rfl)
end
section
variable {main : Bool} {J : JT} {n0 : Nat} {h : List AObj} {K : Value → List AObj → Prop}
def pl7 : Plans := [(10, false, .take 0 (.take 1 (.take 2 (.take 3 (.take 4 (.take 5 (.take 6 (.last 7 true (.take 8 (.take 9 (.take 10 (.take 11 (.take 12 (.take 13 (.take 14 (.take 15 (.last 16 true (.take 17 (.fin))))))))))))))))))),
  (11, true, .take 0 (.take 1 (.take 2 (.take 3 (.take 4 (.take 5 (.take 6 (.take 7 (.take 8 (.take 9 (.take 10 (.take 11 (.take 12 (.take 13 (.take 14 (.fin))))))))))))))))]
def ct7 : Cuts := .bin (.go) (.bin (.go) (.bin (.go) (.bin (.go) (.bin (.go) (.bin (.go) (.bin (.bin (.go) (.un (.un (.bin (.go) (.bin (.un (.bin (.bin (.go) (.cut (.go))) (.bin (.bin (.go) (.cut (.go))) (.go)))) (.go)))))) (.go)))))))
theorem pok7 : plansOk prog pl7 (codeOf f7) = true := by kernel_rfl
theorem e7 {a0 : Value} : W prog J 74 h.length 7 (codeOf f7) (RG.mk (regs [a0]) []) h (RetQ prog [.tmp 2] h.length K) =
(Good prog J 22 [a0] h fun v1 h2 =>
 Good prog J 25 [v1, (vint 8)] h2 fun v3 h4 =>
 aAlloc [(vint 0), (vint 0), (vint 0)] h4 fun v5 h6 =>
 aStore 3 v5 v3 h6 fun h7 =>
 aLoad true 3 v5 h7 fun v8 =>
 Good prog J 34 [v8] h7 fun v9 h10 =>
 aExt v9 0 fun v11 =>
 aExt v9 1 fun v12 =>
 aBin prog .neq 37 v12 (vint 0) fun v13 =>
 cnd v13
(retL h.length K [] [(Value.bool false)] h10)
(aOff v5 0 fun v14 =>
 aLoad false 1 v14 h10 fun v15 =>
 Good prog J 39 [v15] h10 fun v16 h17 =>
 Sem J 74 h.length 7 (subC [1, 1, 1, 1, 1, 1, 0, 1, 0] (codeOf f7)) (RG.p (RG.p (RG.p (RG.p (RG.p (RG.p (RG.p (RG.p (RG.p (RG.p (RG.p (RG.p (RG.p (RG.p (RG.p (RG.p (RG.p (RG.p (RG.p (RG.p (RG.mk (regs [a0]) []) 2 (Value.bool false)) 9 a0) 10 v1) 11 v3) 3 v5) 13 v8) 14 v9) 12 v9) 15 v11) 16 v12) 4 v11) 5 v12) 17 v12) 18 v13) 19 v14) 20 v15) 21 v16) 6 v16) 7 (vint 0)) 8 (vint 0)) h17 (contX pl7 prog J 74 h.length 7 ct7 [1, 1, 1, 1, 1, 1, 0, 1, 0] (codeOf f7) [] (RetQ prog [.tmp 2] h.length K)))) := top_eq pok7 ct7 (by kernel_rfl)
end
section
variable {main : Bool} {J : JT} {n0 : Nat} {h : List AObj} {K : Value → List AObj → Prop}
theorem at34 : prog.funcs[34]? = some f34 := by kernel_rfl
theorem body34 : f34.body = some (codeOf f34) := by kernel_rfl
def pl34 : Plans := []
def ct34 : Cuts := .go
theorem pok34 : plansOk prog pl34 (codeOf f34) = true := by kernel_rfl
theorem e34 {a0 : Value} : W prog J 20 h.length 34 (codeOf f34) (RG.mk (regs [a0]) []) h (RetQ prog [.tmp 2, .tmp 3] h.length K) =
(aBox a0 h fun v1 h2 =>
 aLoad true 3 v1 h2 fun v3 =>
 Good prog J 72 [v3] h2 fun v4 h5 =>
 aBin prog .neq 37 v4 (vint 0) fun v6 =>
 cnd v6
(retL h.length K [] [(Value.slice none 0 0), v4] h5)
(aAlloc [(Value.slice none 0 0)] h5 fun v7 h8 =>
 aLoad true 3 v1 h8 fun v9 =>
 Good prog J 90 [v9] h8 fun v10 h11 =>
 Sem J 20 h.length 34 (subC [1, 1, 1, 0, 1, 0] (codeOf f34)) (RG.p (RG.p (RG.p (RG.p (RG.p (RG.p (RG.p (RG.p (RG.p (RG.p (RG.p (RG.mk (regs [a0]) []) 1 v1) 2 (Value.slice none 0 0)) 3 (vint 0)) 7 v3) 8 v4) 4 v4) 9 v4) 10 v6) 5 v7) 12 v9) 13 v10) h11 (contX pl34 prog J 20 h.length 34 ct34 [1, 1, 1, 0, 1, 0] (codeOf f34) [] (RetQ prog [.tmp 2, .tmp 3] h.length K)))) := top_eq pok34 ct34 (by kernel_rfl)
theorem g34 (hJ : Closed prog main J) {a0 : Value} (hs : heapOk h → W prog J 20 h.length 34 (codeOf f34) (RG.mk (regs [a0]) []) h (RetQ prog [.tmp 2, .tmp 3] h.length K)) : Good prog J 34 [a0] h K :=
  good_of_W hJ mixed at34 body34 (by kernel_rfl) (Nat.le_of_ble_eq_true rfl) hs
theorem a34_1 {f : RG} {fr : FuncId} {Q : QT} : W prog J 20 n0 fr (subC [1, 1, 1, 0, 1, 0, 0] (codeOf f34)) f h Q =
(Q .normal (RG.p f 6 (f.r 14)) h) := sub_eq pok34 ct34 (by kernel_rfl)
theorem b34_1 {f : RG} {fr : FuncId} {Q : QT} : W prog J 20 n0 fr (subC [1, 1, 1, 0, 1, 0, 1] (codeOf f34)) f h Q =
(aLoad false 1 (f.r 5) h fun v1 =>
(((1 * 1 : Nat) ≤ 16777216 ∧ (1 : Nat) ≤ 16777216 ∧ List.length [(Value.string { data := #[] })] = 1) ∧ aFill (zrep [(Value.string { data := #[] })] 1) [(0, 1, (f.r 6))] fun c2 =>
 aNewS 1 c2 h fun v3 h4 =>
((List.length [(Value.string { data := #[] })] = 1 ∧ 0 < (1 : Nat) ∧ 0 < (16 : Nat) ∧ (16 : Nat) ≤ 1024) ∧ aApp 1 v1 v3 h4 fun v5 h6 =>
 aStore 1 (f.r 5) v5 h6 fun h7 =>
 Q .normal (RG.p (RG.p (RG.p (RG.p f 15 v1) 16 (f.r 6)) 17 v3) 18 v5) h7))) := sub_eq pok34 ct34 (by kernel_rfl)
theorem c34_1 {f : RG} : (contX pl34 prog J 20 n0 34 ct34 [1, 1, 1, 0, 1, 0] (codeOf f34) [] (RetQ prog [.tmp 2, .tmp 3] n0 K)) .normal f h =
(aLoad false 1 (f.r 5) h fun v1 =>
 retL n0 K f.ds [v1, (vint 0)] h) := by kernel_rfl
theorem l34_1 (hJ : Closed prog main J) {f : RG} {g : FuncId} {first cap : List Value} (hx : ev f.r ((Go.Operand.tmp 13)) = .func (.func g) ⟨first⟩ ⟨cap⟩) (hg : g < prog.funcs.size)
  (hs : Good prog J g (first ++ [.func (.yield (h.length + 1)) ⟨[]⟩ ⟨[]⟩] ++ cap) (h ++ [.deferred] ++ [.loop .ready none 34 f.r 20 #[14] (subC [1, 1, 1, 0, 1, 0, 0] (codeOf f34)) (subC [1, 1, 1, 0, 1, 0, 1] (codeOf f34)) h.length]) (endQ h.length f (contX pl34 prog J 20 n0 34 ct34 [1, 1, 1, 0, 1, 0] (codeOf f34) [] (RetQ prog [.tmp 2, .tmp 3] n0 K)))) (hcall : callable prog g = true := by kernel_rfl) : Sem J 20 n0 34 (subC [1, 1, 1, 0, 1, 0] (codeOf f34)) f h (contX pl34 prog J 20 n0 34 ct34 [1, 1, 1, 0, 1, 0] (codeOf f34) [] (RetQ prog [.tmp 2, .tmp 3] n0 K)) :=
  Sem_range hJ (by decide) (fop := (Go.Operand.tmp 13)) (params := #[14]) (assign := subC [1, 1, 1, 0, 1, 0, 0] (codeOf f34)) (body := subC [1, 1, 1, 0, 1, 0, 1] (codeOf f34)) hx hg hs hcall
end
end Go.Proofs.Ythnccaajpdnndaa
namespace Go.Proofs.Ythnccaajpdnndaa
open Go.Conc Go.Proofs.Try
set_option maxRecDepth 100000
section
variable {main : Bool} {J : JT} {h H : List AObj} {K : Value → List AObj → Prop} {KV : Value → Prop} {HL : List AObj → Prop} {n0 : Nat}
theorem ownX_like {H' : List AObj} {s len : Nat} {cs : List Value} {v : Value} {o : Option Nat} (ho : OwnX H s cs len v o) (e : ∀ i, o = some i → H'[i]? = H[i]?) : OwnX H' s cs len v o := by
  obtain ⟨h1, h2, ⟨h0, r⟩ | ⟨b, c, sz, rfl, rfl, hb, hc⟩⟩ := ho
  · exact ⟨h1, h2, .inl ⟨h0, r⟩⟩
  · exact ⟨h1, h2, .inr ⟨b, c, sz, rfl, rfl, by rw [e b rfl]; exact hb, hc⟩⟩
noncomputable abbrev lpR (st : LoopState) (pend : Option Code) (r : Nat → Value) (d : Nat) : AObj := .loop st pend 34 r 20 #[14] (subC [1, 1, 1, 0, 1, 0, 0] (codeOf f34)) (subC [1, 1, 1, 0, 1, 0, 1] (codeOf f34)) d
theorem roundR (hJ : Closed prog main J) {l d p : Nat} {R : Nat → Value} {w : List UInt8} {L : List (List UInt8)} {v : Value} {o : Option Nat} {Q : Value → List AObj → Prop} (hl : H[l]? = some (lpR .ready none R d)) (r5 : R 5 = ptr p 0) (cp : H[p]? = some (.cells [v] true 0)) (O : OwnX H 1 (strL L) L.length v o) (np : p ≠ l) (no : o ≠ some l) (nop : o ≠ some p) (hL : L.length < 90000)
    (k : ∀ H' v' o', SameX (l :: p :: o.toList) H H' → H'[l]? = some (lpR .ready none R d) → H'[p]? = some (.cells [v'] true 0) → OwnX H' 1 (strL (L ++ [w])) (L ++ [w]).length v' (some o') → H.length ≤ o' → Q (.bool true) H') :
    callV prog (Good prog J) (.func (.yield l) ⟨[]⟩ ⟨[]⟩) [strV w] H Q := by
  show Good prog J (yid prog l) [strV w] H Q
  refine good_round hJ hl rfl (by decide) fun ok => W_sound hJ mixed _ ?_
  rw [a34_1]
  refine ⟨rfl, none, _, _, _, _, _, _, _, hl, W_sound hJ mixed _ ?_⟩
  rw [b34_1]
  have hll := lt_of_get hl
  have hpl := lt_of_get cp
  have hl3 : (H.set l (lpR .busy none R d))[l]? = some (lpR .busy none R d) := List.getElem?_set_self hll
  have S3 : SameX [l] H (H.set l (lpR .busy none R d)) := SameX.refl.set (.inl (by simp))
  have len3 : (H.set l (lpR .busy none R d)).length = H.length := List.length_set ..
  generalize H.set l (lpR .busy none R d) = H3 at hl3 S3 len3
  have O3 := ownX_keep O S3 (fun i hi => by simp; exact fun e => no (by rw [hi, e]))
  have kv := ownX_val O
  show aLoad false 1 (R 5) _ _
  rw [r5]
  refine ldI (v := v) (S3.get cp (by simpa using np)) rfl kv.2.2 ?_
  refine strMore O3 hL fun v' H5 o5 S5 O5 h5 => ?_
  have nx : ∀ {q : Nat}, o ≠ some q → q ∉ o.toList := fun {q} hq => by
    cases o with
    | none => simp
    | some i => simp; exact fun e => hq (by rw [e])
  have vv := ownX_val O5
  show aStore 1 (R 5) _ _ _
  rw [r5]
  refine qSt (S5.get (S3.get cp (by simpa using np)) (nx nop)) (by simp) vv.1 vv.2.1 fun H6 S6 c6 l6 => ?_
  have hl6 := S6.get (S5.get hl3 (nx no)) (by simpa using np.symm)
  refine ⟨.busy, none, _, _, _, _, _, _, _, hl6, .inl (k _ v' o5 ?_ (List.getElem?_set_self (lt_of_get hl6)) (get_set c6 np) ?_ (by omega))⟩
  · exact (((S3.weak (by simp)).trans (S5.weak (by simp; intro a ha; exact .inr (.inr ha)))).trans (S6.weak (by simp))).set (.inl (by simp))
  · refine ownX_keep (ownX_keep O5 S6 fun i hi => ?_) (SameX.refl.set (i := l) (.inl (List.mem_singleton.2 rfl))) fun i hi => ?_
    · cases hi
      simp
      omega
    · cases hi
      simp
      omega
set_option maxHeartbeats 800000 in
theorem good34 (hJ : Closed prog main J) {s : SkyR} (hK0 : skyE s ≠ 0 → ∀ H', SameX [] H H' → K (.tuple ⟨[.slice none 0 0, vint (skyE s)]⟩) H')
    (hK1 : skyE s = 0 → ∀ H' v, SameX [] H H' → Sli H' v 1 (rainsB s).length (strL (rainsB s)) → K (.tuple ⟨[v, vint 0]⟩) H') : Good prog J 34 [.agg ⟨s.cells⟩] H K := by
  refine g34 hJ fun ok => ?_
  rw [e34]
  refine qBox (l := s.cells) rfl fun H1 p1 e1 S1 c1 l1 => load_part (c := s.cells) c1 (by simp [SkyR.cells]) rfl rfl (good72 hJ (neqI (cndI (fun h1 => retL_same (nu2 (by simp [unk]) (by simp [unk])) (hK0 h1 H1 S1)) fun h1 => ?_)))
  have h0 : skyE s = 0 := by omega
  have g : skyOk s := by
    unfold skyE at h0
    split at h0
    · assumption
    · cases h0
  refine qAl fun H5 p5 e5 S5 c5 l5 => load_part (c := s.cells) (S5.get c1 (by simp)) (by simp [SkyR.cells]) rfl rfl ?_
  refine good90 hJ fun H10 ps S10 cs10 gs => ?_
  have TH : SameX [] H H10 := (S1.trans S5).trans S10
  refine l34_1 hJ (first := []) (cap := [ptr ps 0]) rfl (by decide) ?_
  obtain ⟨R, hRe⟩ : ∃ R : RG, R = RG.p (RG.p (RG.p (RG.p (RG.p (RG.p (RG.p (RG.p (RG.p (RG.p (RG.p (RG.mk (regs [.agg ⟨s.cells⟩]) []) 1 (ptr p1 0)) 2 (Value.slice none 0 0)) 3 (vint 0)) 7 (.agg ⟨s.cells⟩)) 8 (vint (skyE s))) 4 (vint (skyE s))) 9 (vint (skyE s))) 10 (.bool (decide (skyE s ≠ 0)))) 5 (ptr p5 0)) 12 (.agg ⟨s.cells⟩)) 13 (.func (.func 127) ⟨[]⟩ ⟨[ptr ps 0]⟩) := ⟨_, rfl⟩
  rw [← hRe]
  have R5 : R.r 5 = ptr p5 0 := by subst hRe; rfl
  have Rds : R.ds = [] := by subst hRe; rfl
  clear hRe
  have hl11 : (H10 ++ [AObj.deferred] ++ [lpR .ready none R.r H10.length])[H10.length + 1]? = some (lpR .ready none R.r H10.length) := by
    rw [List.append_assoc]
    simp
  have hd11 : (H10 ++ [AObj.deferred] ++ [lpR .ready none R.r H10.length])[H10.length]? = some .deferred := by
    rw [List.append_assoc]
    simp
  have hln : (H10 ++ [AObj.deferred] ++ [lpR .ready none R.r H10.length]).length = H10.length + 2 := by simp
  have S11 : SameX [] H10 (H10 ++ [AObj.deferred] ++ [lpR .ready none R.r H10.length]) := SameX.refl.app.app
  generalize hH11 : H10 ++ [AObj.deferred] ++ [lpR .ready none R.r H10.length] = H11 at hl11 hd11 hln S11
  have UH : SameX [] H H11 := TH.trans S11
  have w5 : H11[p5]? = some (.cells [.slice none 0 0] true 0) := (S10.trans S11).get c5 (by simp)
  have ws : H11[ps]? = some (.cells s.cells true 0) := S11.get cs10 (by simp)
  have b5 := lt_of_get c5
  have bs := lt_of_get cs10
  have h10 := S10.1
  have h1l := S1.1
  have h5l := S5.1
  have hfew := rainsB_few g
  have RD : Rnd J (rainsB s) (.func (.yield (H10.length + 1)) ⟨[]⟩ ⟨[]⟩) [H10.length + 1, p5] H11
      (fun k O H' => ∃ v o, O = o.toList ∧ H'[H10.length + 1]? = some (lpR .ready none R.r H10.length) ∧ H'[p5]? = some (.cells [v] true 0) ∧ OwnX H' 1 (strL ((rainsB s).take k)) ((rainsB s).take k).length v o ∧ ∀ i, o = some i → H11.length ≤ i) (fun H' => False) := by
    refine ⟨by simp; omega, ?_, ?_, ?_⟩
    · rintro k O H' ⟨v, o, rfl, i1, i2, i3, i4⟩ x hx
      exact ownX_lt i3 x (by simpa using hx)
    · rintro k O H1 H2 T ⟨v, o, rfl, i1, i2, i3, i4⟩
      refine ⟨v, o, rfl, by rw [T.2 _ (.inl (by omega))]; exact i1, by rw [T.2 _ (.inl (by omega))]; exact i2, ownX_like i3 fun i hi => T.2 i (.inr (by simpa using hi)), i4⟩
    · rintro k w O Ha Q hw Sa hOO ⟨v, o, rfl, i1, i2, i3, i4⟩ q1 q2
      have hSa := Sa.1
      have hk := (List.getElem?_eq_some_iff.1 hw).1
      refine roundR hJ i1 R5 i2 i3 (by omega) (fun e => by have := i4 _ e; omega) (fun e => by have := i4 _ e; omega) (by rw [List.length_take]; omega) fun Hb v' o' Sb hlb h5' O' ho' => ?_
      refine q1 [o'] Hb (Sb.weak (by simp)) (fun x hx => by rw [List.mem_singleton.1 hx]; exact .inr ho') ⟨v', some o', rfl, hlb, h5', ?_, fun i hi => by cases hi; omega⟩
      rw [List.take_add_one, hw]
      exact O'
  refine good127 hJ g RD ⟨rfl, rfl, rfl⟩ ws (by simp; omega) ⟨_, none, rfl, hl11, w5, ⟨rfl, rfl, .inl ⟨rfl, rfl, rfl⟩⟩, by simp⟩ (fun Hb O Sb _ hi => ?_) fun Hb Sb st => st.elim
  obtain ⟨v, o, rfl, i1, i2, i3, i4⟩ := hi
  rw [List.take_of_length_le (Nat.le_refl _)] at i3
  refine endQnorm i1 (by simp) ?_
  rw [c34_1]
  show aLoad false 1 (R.r 5) _ _
  rw [R5, Rds]
  have hd' := Sb.get hd11 (by simp; omega)
  have vv := ownX_val i3
  refine ldI (v := v) (get_set i2 (by omega)) rfl vv.2.2 ?_
  refine retLdef (get_set hd' (by omega)) (nu2 (ownU i3) (by simp [unk])) ?_
  refine hK1 h0 _ v (((UH.thru Sb (by simp; omega)).set (.inr (by omega))).set (.inr (by omega))) (ownX_sli (ownX_like i3 fun i hi => ?_))
  have := i4 i hi
  rw [List.getElem?_set_ne (by omega), List.getElem?_set_ne (by omega)]
end
theorem growB_pos {s : SkyR} : ∀ {n : Nat} {w : List UInt8} {x : Spl}, 0 < (growB s n w x).length
  | 0, w, x => Nat.zero_lt_one
  | n + 1, w, x => by
    unfold growB
    rw [List.length_append]
    have h1 := growB_pos (s := s) (n := n) (w := w ++ [100]) (x := nextX x 100)
    have h2 := growB_pos (s := s) (n := n) (w := w ++ [119]) (x := nextX x 119)
    by_cases e : nextOk s x 100 = true
    · rw [if_pos e]
      omega
    · have : nextOk s x 119 = true := by
        unfold nextOk at *
        by_cases h : x.1 ≠ 100
        · rw [if_pos h] at e
          exact absurd rfl e
        · have h := Classical.not_not.1 h
          rw [if_pos (by rw [h]; decide)]
      rw [if_pos this]
      omega
def SpanOf {α : Type} (g : α → Int) (l : List α) (x : Span) : Prop := (l = [] ∧ x.2.2 = false) ∨ (l ≠ [] ∧ x.2.2 = true ∧ (∀ w ∈ l, x.1 ≤ g w ∧ g w ≤ x.2.1) ∧ (∃ w ∈ l, g w = x.1) ∧ ∃ w ∈ l, g w = x.2.1)
theorem SpanOf.more {α : Type} {g : α → Int} {l : List α} {x : Span} (h : SpanOf g l x) (w : α) : SpanOf g (l ++ [w]) (widenR x (g w)) := by
  right
  refine ⟨by simp, ?_⟩
  rcases h with ⟨rfl, h⟩ | ⟨hne, ht, ha, ⟨u, hu, eu⟩, ⟨v, hv, ev⟩⟩
  · unfold widenR
    rw [if_neg (by rw [h]; decide)]
    exact ⟨rfl, fun u hu => by
      have : u = w := by simpa using hu
      rw [this]
      exact ⟨Int.le_refl _, Int.le_refl _⟩, ⟨w, by simp, rfl⟩, ⟨w, by simp, rfl⟩⟩
  · unfold widenR
    rw [if_pos ht]
    refine ⟨rfl, fun z hz => ?_, ?_, ?_⟩
    · rcases List.mem_append.1 hz with hz | hz
      · have := ha z hz
        exact ⟨by dsimp only; omega, by dsimp only; omega⟩
      · rw [List.mem_singleton.1 hz]
        exact ⟨by dsimp only; omega, by dsimp only; omega⟩
    · by_cases c : x.1 ≤ g w
      · exact ⟨u, List.mem_append_left _ hu, by dsimp only; omega⟩
      · exact ⟨w, by simp, by dsimp only; omega⟩
    · by_cases c : g w ≤ x.2.1
      · exact ⟨v, List.mem_append_left _ hv, by dsimp only; omega⟩
      · exact ⟨w, by simp, by dsimp only; omega⟩
theorem dayS_get {p : Pas} {hs : List Int} {w : List UInt8} {L : List Span} {k : Nat} (hk : k < L.length) : ∀ j, (dayS p hs w j L).getD k (0, 0, false) = if k < j then widenR (L.getD k (0, 0, false)) (stdR p hs w (k + 1)).1 else L.getD k (0, 0, false)
  | 0 => by
    rw [if_neg (Nat.not_lt_zero _)]
    rfl
  | j + 1 => by
    have ih := dayS_get (p := p) (hs := hs) (w := w) hk j
    rw [dayS, List.getD_eq_getElem?_getD, List.getElem?_set]
    by_cases e : j = k
    · subst e
      rw [if_pos rfl, if_pos (by rw [dayS_len]; exact hk), if_pos (by omega), Option.getD_some, ih, if_neg (by omega)]
    · rw [if_neg e, ← List.getD_eq_getElem?_getD, ih]
      by_cases c : k < j
      · rw [if_pos c, if_pos (by omega)]
      · rw [if_neg c, if_neg (by omega)]
theorem spans_fold {p : Pas} {hs : List Int} {n : Nat} : ∀ {l l0 : List (List UInt8)} {L : List Span}, (∀ w ∈ l, w.length = n) → L.length = n → (∀ k, k < n → SpanOf (fun w => (stdR p hs w (k + 1)).1) l0 (L.getD k (0, 0, false))) →
    ∀ k, k < n → SpanOf (fun w => (stdR p hs w (k + 1)).1) (l0 ++ l) ((l.foldl (fun L w => dayS p hs w w.length L) L).getD k (0, 0, false))
  | [], l0, L, _, _, h, k, hk => by
    rw [List.append_nil]
    exact h k hk
  | w :: l, l0, L, hl, hL, h, k, hk => by
    have hw := hl w (List.mem_cons_self ..)
    have e : l0 ++ w :: l = (l0 ++ [w]) ++ l := by simp
    rw [e]
    refine spans_fold (l := l) (l0 := l0 ++ [w]) (L := dayS p hs w w.length L) (fun u hu => hl u (List.mem_cons_of_mem _ hu)) (by rw [dayS_len, hL]) (fun j hj => ?_) k hk
    rw [dayS_get (by omega), if_pos (by omega)]
    exact (h j hj).more w
theorem spans_len {p : Pas} {hs : List Int} {s : SkyR} : (spansR p hs s).length = s.days.toNat := by
  unfold spansR
  rw [spansK_len, List.length_replicate]
theorem spans_of {p : Pas} {hs : List Int} {s : SkyR} {k : Nat} (hk : k < s.days.toNat) : SpanOf (fun w => (stdR p hs w (k + 1)).1) (rainsB s) ((spansR p hs s).getD k (0, 0, false)) := by
  have := spans_fold (p := p) (hs := hs) (n := s.days.toNat) (l := rainsB s) (l0 := []) (L := List.replicate s.days.toNat (0, 0, false)) (fun w hw => rainsB_len hw) (List.length_replicate ..) (fun j hj => .inl ⟨rfl, by
    rw [List.getD_eq_getElem?_getD, List.getElem?_replicate, if_pos hj]
    rfl⟩) k hk
  rw [List.nil_append] at this
  exact this
theorem spans_all {p : Pas} {hs : List Int} {s : SkyR} {k : Nat} (hk : k < s.days.toNat) :
    (∀ w ∈ rainsB s, ((spansR p hs s).getD k (0, 0, false)).1 ≤ (stdR p hs w (k + 1)).1 ∧ (stdR p hs w (k + 1)).1 ≤ ((spansR p hs s).getD k (0, 0, false)).2.1) ∧ (∃ w ∈ rainsB s, (stdR p hs w (k + 1)).1 = ((spansR p hs s).getD k (0, 0, false)).1) ∧ ∃ w ∈ rainsB s, (stdR p hs w (k + 1)).1 = ((spansR p hs s).getD k (0, 0, false)).2.1 := by
  rcases spans_of (p := p) (hs := hs) hk with ⟨h, _⟩ | ⟨_, _, h⟩
  · have : 0 < (rainsB s).length := growB_pos
    rw [h] at this
    cases this
  · exact h
end Go.Proofs.Ythnccaajpdnndaa
namespace Go.Proofs.Ythnccaajpdnndaa
open Go.Conc Go.Proofs.Try
set_option maxRecDepth 100000
set_option maxHeartbeats 4000000
set_option linter.unusedVariables false
section
variable {main : Bool} {J : JT} {n0 : Nat} {h : List AObj} {K : Value → List AObj → Prop}
theorem at5 : prog.funcs[5]? = some f5 := by kernel_rfl
theorem body5 : f5.body = some (codeOf f5) := by kernel_rfl
def pl5 : Plans := [(3, false, .take 0 (.take 1 (.take 3 (.take 4 (.alt 2 true (.last 5 true (.last 6 false (.take 7 (.take 8 (.take 9 (.take 10 (.take 11 (.fin)))))))) (.last 5 true (.last 2 true (.last 6 false (.take 7 (.take 8 (.take 9 (.take 10 (.take 11 (.fin)))))))))))))),
  (10, true, .take 0 (.take 1 (.take 2 (.take 3 (.take 4 (.take 5 (.take 6 (.take 7 (.take 8 (.take 9 (.take 10 (.take 11 (.take 12 (.take 13 (.take 14 (.fin))))))))))))))))]
def ct5 : Cuts := .bin (.go) (.bin (.go) (.bin (.go) (.bin (.go) (.cut (.bin (.bin (.go) (.cut (.go))) (.bin (.go) (.bin (.bin (.go) (.un (.un (.bin (.go) (.bin (.un (.bin (.bin (.go) (.cut (.go))) (.go))) (.go)))))) (.go))))))))
theorem pok5 : plansOk prog pl5 (codeOf f5) = true := by kernel_rfl
theorem e5 {a0 : Value} : W prog J 61 h.length 5 (codeOf f5) (RG.mk (regs [a0]) []) h (RetQ prog [.tmp 2] h.length K) =
(Good prog J 22 [a0] h fun v1 h2 =>
 Good prog J 24 [v1] h2 fun v3 h4 =>
 Good prog J 23 [v1, (vint 1), (vint 8)] h4 fun v5 h6 =>
 aAlloc [(vint 0), (vint 0), (vint 0), (vint 0), (vint 0), (vint 0)] h6 fun v7 h8 =>
 aStore 6 v7 v3 h8 fun h9 =>
(∃ B, aLoad true 6 v7 h9 fun v10 =>
 RdOk (some B) (ptrBlk v7) ∧ ((((List.length [(vint 0)] = 1 ∧ (8 : Nat) ≤ 1024) ∧ aMkS [(vint 0)] v5 v5 h9 fun v11 h12 =>
 SameB (some B) h9 h12 ∧ (Good prog J 31 [v1, v5] h12 fun v13 h14 =>
 SameB (some B) h9 h14 ∧ (Good prog J 32 [v10, v11, v13] h14 fun v15 h16 =>
 aExt v15 0 fun v17 =>
 aExt v15 1 fun v18 =>
 Hold (W prog J 61 h.length 5 (subC [1, 1, 1, 1] (codeOf f5)) (RG.p (RG.p (RG.p (RG.p (RG.p (RG.p (RG.p (RG.p (RG.p (RG.p (RG.p (RG.p (RG.p (RG.p (RG.p (RG.p (RG.p (RG.p (RG.p (RG.p (RG.p (RG.p (RG.mk (regs [a0]) []) 2 (Value.bool false)) 10 a0) 11 v1) 3 v1) 12 v1) 13 v3) 14 v1) 15 v5) 4 v7) 5 v5) 17 v10) 18 v5) 20 v1) 21 v5) 19 v11) 22 v13) 23 v15) 16 v15) 24 v17) 25 v18) 6 v17) 7 v18) h16 (contX pl5 prog J 61 h.length 5 ct5 [1, 1, 1, 1] (codeOf f5) [] (RetQ prog [.tmp 2] h.length K))))))) ∧ (Good prog J 31 [v1, v5] h9 fun v19 h20 =>
 SameB (some B) h9 h20 ∧ (((List.length [(vint 0)] = 1 ∧ (8 : Nat) ≤ 1024) ∧ aMkS [(vint 0)] v5 v5 h20 fun v21 h22 =>
 SameB (some B) h9 h22 ∧ (Good prog J 32 [v10, v21, v19] h22 fun v23 h24 =>
 aExt v23 0 fun v25 =>
 aExt v23 1 fun v26 =>
 Hold (W prog J 61 h.length 5 (subC [1, 1, 1, 1] (codeOf f5)) (RG.p (RG.p (RG.p (RG.p (RG.p (RG.p (RG.p (RG.p (RG.p (RG.p (RG.p (RG.p (RG.p (RG.p (RG.p (RG.p (RG.p (RG.p (RG.p (RG.p (RG.p (RG.p (RG.mk (regs [a0]) []) 2 (Value.bool false)) 10 a0) 11 v1) 3 v1) 12 v1) 13 v3) 14 v1) 15 v5) 4 v7) 5 v5) 17 v10) 18 v5) 20 v1) 21 v5) 22 v19) 19 v21) 23 v23) 16 v23) 24 v25) 25 v26) 6 v25) 7 v26) h24 (contX pl5 prog J 61 h.length 5 ct5 [1, 1, 1, 1] (codeOf f5) [] (RetQ prog [.tmp 2] h.length K)))))))))) := top_eq pok5 ct5 (by kernel_rfl)
theorem g5 (hJ : Closed prog main J) {a0 : Value} (hs : heapOk h → W prog J 61 h.length 5 (codeOf f5) (RG.mk (regs [a0]) []) h (RetQ prog [.tmp 2] h.length K)) : Good prog J 5 [a0] h K :=
  good_of_W hJ mixed at5 body5 (by kernel_rfl) (Nat.le_of_ble_eq_true rfl) hs
end
end Go.Proofs.Ythnccaajpdnndaa
namespace Go.Proofs.Ythnccaajpdnndaa
open Go.Conc Go.Proofs.Try
set_option maxRecDepth 100000
structure FineG (q p : Pas) : Prop where
  grass : p.grass ≤ q.grass
  bears : q.bears = p.bears
  dry : p.dry ≤ q.dry
  wet : p.wet ≤ q.wet
  stubble : q.stubble ≤ p.stubble
  sleep : q.sleep ≤ p.sleep
theorem FineG.refl {p : Pas} : FineG p p := ⟨Int.le_refl _, rfl, Int.le_refl _, Int.le_refl _, Int.le_refl _, Int.le_refl _⟩
def wetter (v w : List UInt8) : Prop := ∀ i, wetB (w.getD i 0) = true → wetB (v.getD i 0) = true
theorem wetter.refl {w : List UInt8} : wetter w w := fun _ h => h
end Go.Proofs.Ythnccaajpdnndaa
namespace Go.Proofs.Ythnccaajpdnndaa
open Go.Conc Go.Proofs.Try
set_option maxRecDepth 100000
set_option maxHeartbeats 4000000
set_option linter.unusedVariables false
section
variable {main : Bool} {J : JT} {n0 : Nat} {h : List AObj} {K : Value → List AObj → Prop}
theorem at30 : prog.funcs[30]? = some f30 := by kernel_rfl
theorem body30 : f30.body = some (codeOf f30) := by kernel_rfl
def pl30 : Plans := []
def ct30 : Cuts := .go
theorem pok30 : plansOk prog pl30 (codeOf f30) = true := by kernel_rfl
theorem e30 {a0 a1 a2 : Value} : W prog J 30 h.length 30 (codeOf f30) (RG.mk (regs [a0, a1, a2]) []) h (RetQ prog [.tmp 6] h.length K) =
(Good prog J 26 [a0, a2] h fun v1 h2 =>
 Sem J 30 h.length 30 (subC [1, 1, 1, 0, 1, 0] (codeOf f30)) (RG.p (RG.p (RG.p (RG.p (RG.p (RG.p (RG.p (RG.mk (regs [a0, a1, a2]) []) 6 (Value.slice none 0 0)) 7 (Value.slice none 0 0)) 10 a0) 11 a2) 12 v1) 8 v1) 9 (vint 0)) h2 (contX pl30 prog J 30 h.length 30 ct30 [1, 1, 1, 0, 1, 0] (codeOf f30) [] (RetQ prog [.tmp 6] h.length K))) := top_eq pok30 ct30 (by kernel_rfl)
theorem g30 (hJ : Closed prog main J) {a0 a1 a2 : Value} (hs : heapOk h → W prog J 30 h.length 30 (codeOf f30) (RG.mk (regs [a0, a1, a2]) []) h (RetQ prog [.tmp 6] h.length K)) : Good prog J 30 [a0, a1, a2] h K :=
  good_of_W hJ mixed at30 body30 (by kernel_rfl) (Nat.le_of_ble_eq_true rfl) hs
theorem s30_1 {f : RG} {nx0 : RG → List AObj → Prop} : W prog J 30 n0 30 (subC [1, 1, 1, 0, 1, 0, 0] (codeOf f30)) f h (thenK nx0 (contX pl30 prog J 30 n0 30 ct30 [1, 1, 1, 0, 1, 0] (codeOf f30) [] (RetQ prog [.tmp 6] n0 K))) =
(aBin prog .lss 3 (f.r 9) (f.r 1) fun v1 =>
 cnd v1
(Good prog J 26 [(f.r 0), (f.r 2)] h fun v2 h3 =>
(((3 * 1 : Nat) ≤ 16777216 ∧ (3 : Nat) ≤ 16777216 ∧ List.length [(vint 0)] = 1) ∧ aFill (zrep [(vint 0)] 3) [(0, 1, (f.r 8)), (1, 1, (vint 0)), (2, 1, v2)] fun c4 =>
 aNewS 3 c4 h3 fun v5 h6 =>
 Good prog J 69 [(f.r 0), (f.r 8), v5] h6 fun v7 h8 =>
(((1 * 1 : Nat) ≤ 16777216 ∧ (1 : Nat) ≤ 16777216 ∧ List.length [(vint 0)] = 1) ∧ aFill (zrep [(vint 0)] 1) [(0, 1, v7)] fun c9 =>
 aNewS 1 c9 h8 fun v10 h11 =>
((List.length [(vint 0)] = 1 ∧ 0 < (1 : Nat) ∧ 0 < (8 : Nat) ∧ (8 : Nat) ≤ 1024) ∧ aApp 1 (f.r 7) v10 h11 fun v12 h13 =>
 aBin prog .add 3 (f.r 9) (vint 1) fun v14 =>
 nx0 (RG.p (RG.p (RG.p (RG.p (RG.p (RG.p (RG.p (RG.p (RG.p (RG.p (RG.p (RG.p (RG.p (RG.p (RG.p (RG.p (RG.p (RG.p f 13 (f.r 9)) 14 (f.r 1)) 15 v1) 18 (f.r 7)) 19 (f.r 0)) 20 (f.r 8)) 21 (f.r 8)) 22 (f.r 0)) 23 (f.r 2)) 24 v2) 25 v5) 26 v7) 27 v10) 28 v12) 7 v12) 16 (f.r 9)) 17 v14) 9 v14) h13))))
(retL n0 K f.ds [(f.r 7)] h)) := sub_eq pok30 ct30 (by kernel_rfl)
theorem l30_1 (hJ : Closed prog main J) {S : Type} (μ : S → Nat) (I : S → RG → List AObj → Prop) (hI : ∀ s f h, I s f h → heapOk h → n0 ≤ h.length → W prog J 30 n0 30 (subC [1, 1, 1, 0, 1, 0, 0] (codeOf f30)) f h (thenK (Nx n0 μ I s) (contX pl30 prog J 30 n0 30 ct30 [1, 1, 1, 0, 1, 0] (codeOf f30) [] (RetQ prog [.tmp 6] n0 K))))
  {s : S} {f : RG} (hi : Gets n0 I s f h) : Sem J 30 n0 30 (subC [1, 1, 1, 0, 1, 0] (codeOf f30)) f h (contX pl30 prog J 30 n0 30 ct30 [1, 1, 1, 0, 1, 0] (codeOf f30) [] (RetQ prog [.tmp 6] n0 K)) :=
  loop_rule hJ mixed (b := subC [1, 1, 1, 0, 1, 0, 0] (codeOf f30)) (by kernel_rfl) μ I hI hi
end
end Go.Proofs.Ythnccaajpdnndaa
namespace Go.Proofs.Ythnccaajpdnndaa
open Go.Conc Go.Proofs.Try
set_option maxRecDepth 100000
section
variable {main : Bool} {J : JT} {h H : List AObj} {K : Value → List AObj → Prop} {KV : Value → Prop} {HL : List AObj → Prop} {n0 : Nat} {ns : List Int} {k : Nat}
theorem good30 (hJ : Closed prog main J) (a : HX h H ns k) (hk : k < 400000) {D : Nat} {m : Int} (hD : D ≤ 8) (hm : 0 ≤ m ∧ m ≤ 40)
    (hK : ∀ (xs : List Int) v o H', xs.length = D → (∀ x ∈ xs, 0 ≤ x ∧ x ≤ m) → SameX [h.length] H H' → HX h H' ns (k + 20) → OwnX H' 1 (xs.map vint) D v o → (∀ i, o = some i → H.length ≤ i) → K v H') : Good prog J 30 [ptr h.length 0, vint (D : Nat), vint m] H K := by
  refine g30 hJ fun ok => ?_
  rw [e30]
  have hlt := hxLt a
  refine upX hJ a (by omega) (by omega) fun u H1 u1 u2 S1 l1 a1 => ?_
  refine l30_1 hJ (fun i : Nat => D - i) (fun i F H' => i ≤ D ∧ (∃ xs v o, xs.length = i ∧ (∀ x ∈ xs, 0 ≤ x ∧ x ≤ m) ∧ OwnX H' 1 (xs.map vint) i v o ∧ (∀ j, o = some j → H.length ≤ j) ∧ F.r 7 = v) ∧ SameX [h.length] H H' ∧ HX h H' ns (k + 1 + 2 * i) ∧ F.ds = [] ∧ F.r 0 = ptr h.length 0 ∧ F.r 1 = vint (D : Nat) ∧ F.r 2 = vint m ∧ F.r 8 = vint u ∧ F.r 9 = vint (i : Nat)) ?_ (s := 0)
    (.inl ⟨Nat.zero_le _, ⟨[], _, none, rfl, by simp, ⟨rfl, rfl, .inl ⟨rfl, rfl, rfl⟩⟩, by simp, rfl⟩, S1, a1, rfl, rfl, rfl, rfl, rfl, rfl⟩)
  rintro i F H' ⟨hi, ⟨xs, v, o, hx, hxs, O, ho, r7⟩, S, b, ds, r0, r1, r2, r8, r9⟩ okc hnc
  rw [s30_1, r0, r1, r2, r7, r8, r9, ds]
  have hS := S.1
  refine lssI (cndI (fun hl => ?_) fun hge => ?_)
  · refine upX hJ b (by omega) (by omega) fun y H2 y1 y2 S2 l2 b2 => ⟨by decide, fillO (l := [vint u]) rfl rfl rfl (by decide) (fillO (l := [vint 0]) rfl rfl rfl (by rw [wrAt_length]; decide) (fillO (l := [vint y]) rfl rfl rfl (by rw [wrAt_length, wrAt_length]; decide) (fillI (qNew fun H3 p3 e3 S3 c3 l3 => ?_))))⟩
    have c3 : H3[p3]? = some (.cells (([u, 0, y] : List Int).map vint) true 0) := c3
    refine ofZ hJ (b2.same S3 (by simp)) (by omega) c3 (by omega) rfl (by simp) fun z H4 m4 S4 l4 b4 => ?_
    have hz : 0 ≤ z ∧ z ≤ m := by
      rcases m4 with e | e
      · omega
      · simp only [List.mem_cons, List.not_mem_nil, or_false] at e
        omega
    refine ⟨by decide, fillO (l := [vint z]) rfl rfl rfl (by decide) (fillI (qNew fun H5 p5 e5 S5 c5 l5 => ?_))⟩
    have S25 : SameX [h.length] H' H5 := ((S2.trans S3.weak0).trans S4).trans S5.weak0
    have T5 := S.trans S25
    have hno : ∀ j, o = some j → j ∉ [h.length] := fun j hj => by
      have := ho j hj
      simp
      omega
    refine ⟨by decide, ownX_more (ownX_keep O S25 hno) (by decide) (by omega) (e := [vint z]) ⟨_, _, rfl, ⟨rfl, rfl⟩, .inr ⟨p5, 0, rfl, .inr ⟨_, _, _, c5, rfl⟩⟩⟩ fun v' H6 p6 e6 O6 S6 => ?_⟩
    have h5 := T5.1
    refine addI (by omega) ⟨i + 1, by dsimp only; omega, .inl ⟨by omega, ⟨xs ++ [z], v', some p6, by simp [hx], ?_, by rw [List.map_append]; exact O6, fun j hj => by cases hj; omega, rfl⟩, T5.thru S6 fun y hy => .inr (ho y (by simpa using hy)), ?_, ds, r0, r1, r2, r8, by show vint _ = vint _; congr 1⟩⟩
    · intro x hxm
      rcases List.mem_append.1 hxm with e | e
      · exact hxs x e
      · rw [List.mem_singleton.1 e]
        exact hz
    · refine HX.mono (HX.same (HX.same b4 S5 (by simp)) S6 fun x hx => ?_) (by omega)
      have := ho x (by simpa using hx)
      omega
  · have : i = D := by omega
    subst this
    refine retL_same ?_ (hK xs v o H' hx hxs S (b.mono (by omega)) O ho)
    intro x hx
    rw [List.mem_singleton.1 hx]
    exact ownU O
end
theorem ask_ok {p : Pas} {heads : List Int} {w : List UInt8} (f : pasOk p) (hw : 1 ≤ w.length ∧ w.length ≤ 8) (hl : heads.length = w.length) (hh : headsOk heads) (ho : wordOk w) : askE p heads w = 0 := by
  have e1 : cntE (w.length : Nat) 1 8 = 0 := by
    unfold cntE
    rw [if_neg (by omega), if_neg (by omega)]
  have e2 : fst2 (pasE p) (cntE (w.length : Nat) 1 8) = 0 := by
    unfold pasE
    rw [if_pos f, e1]
    rfl
  have e3 : hunE heads (w.length : Nat) = 0 := by
    unfold hunE
    have e4 : cntE (heads.length : Nat) (w.length : Nat) (w.length : Nat) = 0 := by
      unfold cntE
      rw [if_neg (by omega), if_neg (by omega)]
    have hq : ∀ n ∈ heads, 0 ≤ n ∧ n ≤ 40 := hh
    rw [if_neg (not_not_intro e4), if_pos hq]
  unfold askE
  rw [if_neg (not_not_intro e2), if_neg (not_not_intro e3), if_pos ho]
theorem endsZ_get {p : Pas} {hs : List Int} {w : List UInt8} {k i : Nat} (h : i < k) : (endsZ p hs w k)[i]? = some (stdR p hs w (i + 1)).1 := by
  unfold endsZ
  rw [List.getElem?_map, List.getElem?_range h]
  rfl
def shB {α : Type} (g : α → Nat → Bool) (l : List α) (n i k : Nat) : List Bool := (List.range n).map fun j => if j < k then (l.take (i + 1)).any (fun w => g w j) else (l.take i).any (fun w => g w j)
theorem shB_len {α : Type} {g : α → Nat → Bool} {l : List α} {n i k : Nat} : (shB g l n i k).length = n := by simp [shB]
theorem shB_get {α : Type} {g : α → Nat → Bool} {l : List α} {n i k j : Nat} (h : j < n) : (shB g l n i k)[j]? = some (if j < k then (l.take (i + 1)).any (fun w => g w j) else (l.take i).any (fun w => g w j)) := by
  unfold shB
  rw [List.getElem?_map, List.getElem?_range h]
  rfl
theorem shB_zero {α : Type} {g : α → Nat → Bool} {l : List α} {n : Nat} : shB g l n 0 0 = List.replicate n false := by
  apply List.ext_getElem?
  intro j
  by_cases h : j < n
  · rw [shB_get h, if_neg (Nat.not_lt_zero _), List.getElem?_replicate, if_pos h]
    rfl
  · rw [List.getElem?_eq_none (by rw [shB_len]; omega), List.getElem?_eq_none (by simp; omega)]
theorem shB_next {α : Type} {g : α → Nat → Bool} {l : List α} {n i : Nat} : shB g l n i n = shB g l n (i + 1) 0 := by
  apply List.ext_getElem?
  intro j
  by_cases h : j < n
  · rw [shB_get h, shB_get h, if_pos h, if_neg (Nat.not_lt_zero _)]
  · rw [List.getElem?_eq_none (by rw [shB_len]; omega), List.getElem?_eq_none (by rw [shB_len]; omega)]
theorem shB_step {α : Type} {g : α → Nat → Bool} {l : List α} {n i k : Nat} {w : α} (hw : l[i]? = some w) (hk : k < n) : (shB g l n i k).set k ((l.take i).any (fun w => g w k) || g w k) = shB g l n i (k + 1) := by
  apply List.ext_getElem?
  intro j
  rw [List.getElem?_set]
  have e1 : (l.take (i + 1)).any (fun w => g w k) = ((l.take i).any (fun w => g w k) || g w k) := by
    rw [List.take_add_one, hw, List.any_append]
    simp
  by_cases h : j < n
  · by_cases e : k = j
    · subst e
      rw [if_pos rfl, if_pos (by rw [shB_len]; exact hk), shB_get h, if_pos (by omega), e1]
    · rw [if_neg e, shB_get h, shB_get h]
      by_cases c : j < k
      · rw [if_pos c, if_pos (by omega)]
      · rw [if_neg c, if_neg (by omega)]
  · rw [if_neg (by omega), List.getElem?_eq_none (by rw [shB_len]; omega), List.getElem?_eq_none (by rw [shB_len]; omega)]
section
variable {main : Bool} {J : JT} {H : List AObj} {K : Value → List AObj → Prop} {HL : List AObj → Prop}
theorem mkB {d : Nat} (hd : d ≤ 8) (hk : ∀ H' p, SameX [] H H' → H'[p]? = some (.cells ((List.replicate d false).map Value.bool) true 0) → p = H.length → H'.length = H.length + 1 → K (.slice (some ⟨p, 0, none⟩) d d) H') : (List.length [(Value.bool false)] = 1 ∧ (1 : Nat) ≤ 1024) ∧ aMkS [(Value.bool false)] (vint (d : Nat)) (vint (d : Nat)) H K := by
  have hrm : (2000 : Nat) < room := by decide
  have zl : ∀ k, zrep [(Value.bool false)] k = (List.replicate k false).map Value.bool := by
    intro k
    induction k with
    | zero => rfl
    | succ k ih =>
      show [(Value.bool false)] ++ zrep [(Value.bool false)] k = _
      rw [ih, List.replicate_succ]
      rfl
  refine ⟨by decide, by omega, Int.le_refl _, by omega, ?_⟩
  have := hk (H ++ [AObj.cells (zrep [(Value.bool false)] d) true 0]) H.length SameX.refl.app (by rw [zl]; simp) rfl (by simp)
  simpa using this
theorem bIdx {L : List Bool} {b n c k : Nat} {x : Bool} (hb : H[b]? = some (.cells (L.map Value.bool) true 0)) (hn : L.length = n) (hx : L[k]? = some x) {K2 : Value → Value → Prop} (hK : ∀ p, K2 p (.bool x)) : aIdx 1 (.slice (some ⟨b, 0, none⟩) n c) (vint (k : Nat)) fun p => aLoad false 1 p H (K2 p) := by
  have hk := (List.getElem?_eq_some_iff.1 hx).1
  refine idxI ⟨by omega, by omega⟩ (ldI (v := .bool x) hb ?_ rfl (hK _))
  rw [Int.toNat_natCast, Nat.mul_one, Nat.zero_add, List.getElem?_map, hx]
  rfl
theorem bSet {L : List Bool} {b n c k : Nat} {y : Bool} (hb : H[b]? = some (.cells (L.map Value.bool) true 0)) (hn : L.length = n) (hk : k < n) (hK : ∀ H', SameX [b] H H' → H'[b]? = some (.cells ((L.set k y).map Value.bool) true 0) → H'.length = H.length → HL H') : aIdx 1 (.slice (some ⟨b, 0, none⟩) n c) (vint (k : Nat)) fun p => aStore 1 p (.bool y) H HL := by
  refine idxI ⟨by omega, by omega⟩ ?_
  rw [Int.toNat_natCast, Nat.zero_add, Nat.mul_one]
  refine qSt hb (by simpa [hn] using hk) rfl rfl fun H' S c' l' => hK H' (by simpa using S) ?_ l'
  rw [List.map_set]
  exact c'
theorem sli_apart {v : Value} {xs : List Int} {L : List Bool} {b : Nat} {H' : List AObj} (hs : Sli H v 1 xs.length (xs.map vint)) (hb : H[b]? = some (.cells (L.map Value.bool) true 0)) (S : SameX [b] H H') : Sli H' v 1 xs.length (xs.map vint) := by
  obtain ⟨base, c, rfl, ⟨hl, hkn⟩, ⟨hb0, hz⟩ | ⟨b1, o, rfl, hz | ⟨cs, wr, sz, hb1, hc⟩⟩⟩ := hs
  · exact ⟨base, c, rfl, ⟨hl, hkn⟩, .inl ⟨hb0, hz⟩⟩
  · exact ⟨_, c, rfl, ⟨hl, hkn⟩, .inr ⟨b1, o, rfl, .inl hz⟩⟩
  · by_cases e : b1 = b
    · subst e
      rw [hb] at hb1
      cases hb1
      refine ⟨_, c, rfl, ⟨hl, hkn⟩, .inr ⟨b1, o, rfl, .inl ?_⟩⟩
      cases xs with
      | nil => rfl
      | cons x xs =>
        exfalso
        have e0 : ((x :: xs).map vint)[0]? = some (vint x) := rfl
        rw [← hc, List.getElem?_take_of_lt (by simp), List.getElem?_drop, List.getElem?_map] at e0
        cases hy : L[o + 0]? with
        | none => rw [hy] at e0; cases e0
        | some y => rw [hy] at e0; cases e0
    · exact ⟨_, c, rfl, ⟨hl, hkn⟩, .inr ⟨b1, o, rfl, .inr ⟨cs, wr, sz, S.get hb1 (by simpa using e), hc⟩⟩⟩
end
theorem ckd_ok {p : Pas} {s : SkyR} {xs : List Int} (f : pasOk p) (g : skyOk s) (hh : headsOk xs) (hl : (xs.length : Int) = s.days) : ckdE p xs s = 0 := by
  unfold ckdE fst2 pasE skyE
  rw [if_pos f, if_pos g, if_neg (by decide)]
  unfold hunE
  have h1 : cntE (xs.length : Nat) s.days s.days = 0 := by
    unfold cntE
    rw [if_neg (by omega), if_neg (by omega)]
  have hq : ∀ k ∈ xs, 0 ≤ k ∧ k ≤ 40 := hh
  rw [if_neg (by rw [h1]; decide), if_pos hq]
def lowB (p : Pas) (xs : List Int) (s : SkyR) (w : List UInt8) (j : Nat) : Bool := decide ((stdR p xs w (j + 1)).1 = ((spansR p xs s).getD j (0, 0, false)).1)
def highB (p : Pas) (xs : List Int) (s : SkyR) (w : List UInt8) (j : Nat) : Bool := decide ((stdR p xs w (j + 1)).1 = ((spansR p xs s).getD j (0, 0, false)).2.1)
structure Mbt (F : RG) (p4 p5 : Nat) (hv va vl : Value) (pl ph n : Nat) : Prop where
  ds : F.ds = []
  r4 : F.r 4 = ptr p4 0
  r5 : F.r 5 = ptr p5 0
  r6 : F.r 6 = hv
  r7 : F.r 7 = vl
  r9 : F.r 9 = va
  r11 : F.r 11 = .slice (some ⟨pl, 0, none⟩) n n
  r12 : F.r 12 = .slice (some ⟨ph, 0, none⟩) n n
section
variable {H : List AObj}
theorem rngAt {vl : Value} {L : List Span} (sl : SliE H vl 2 rngC L) {k : Nat} (hk : k < L.length) {K2 : Value → Value → Value → Prop} : ((∀ q r, K2 q r (vint (L.getD k (0, 0, false)).1)) → aIdx 2 vl (vint (k : Nat)) fun q => aOff q 0 fun q2 => aLoad false 1 q2 H (K2 q q2)) ∧ ((∀ q r, K2 q r (vint (L.getD k (0, 0, false)).2.1)) → aIdx 2 vl (vint (k : Nat)) fun q => aOff q 1 fun q2 => aLoad false 1 q2 H (K2 q q2)) := by
  obtain ⟨b, oo, cs, wr, sz, hidx, hb, hos, htk, hkn⟩ := sliE_elem (s := 2) (fun _ => rfl) (by decide) sl hk
  have e : L.getD k (0, 0, false) = L[k] := by
    rw [List.getD_eq_getElem?_getD, List.getElem?_eq_getElem hk]
    rfl
  rw [e]
  generalize L[k] = x at htk
  refine ⟨fun h => hidx _ (offI (ldI (v := vint x.1) hb (part_get htk rfl) rfl (h _ _))), fun h => hidx _ (offI (ldI (v := vint x.2.1) hb (part_get htk rfl) rfl (h _ _)))⟩
theorem put2 {pl ph n k : Nat} {L M : List Bool} {y z : Bool} {HL : List AObj → Prop} (hL : H[pl]? = some (.cells (L.map Value.bool) true 0)) (hM : H[ph]? = some (.cells (M.map Value.bool) true 0)) (lL : L.length = n) (lM : M.length = n) (hk : k < n) (hne : pl ≠ ph)
    (hk2 : ∀ H', SameX [pl, ph] H H' → H'[pl]? = some (.cells ((L.set k y).map Value.bool) true 0) → H'[ph]? = some (.cells ((M.set k z).map Value.bool) true 0) → HL H') :
    aIdx 1 (.slice (some ⟨pl, 0, none⟩) n n) (vint (k : Nat)) fun q => aStore 1 q (.bool y) H fun H1 => aIdx 1 (.slice (some ⟨ph, 0, none⟩) n n) (vint (k : Nat)) fun q2 => aStore 1 q2 (.bool z) H1 HL := by
  refine bSet hL lL hk fun H1 S1 c1 l1 => ?_
  refine bSet (S1.get hM (by simpa using hne.symm)) lM hk fun H2 S2 c2 l2 => ?_
  exact hk2 H2 ((S1.weak (by simp)).trans (S2.weak (by simp))) (S2.get c1 (by simpa using hne)) c2
end
section
variable {W0 : World} {Post : Value → World → Prop} {h : List AObj} {K : Value → List AObj → Prop}
set_option maxHeartbeats 1000000 in
theorem walk8 {nv : Value} {ns : List Int} (sn : Sli h nv 1 ns.length (ns.map vint)) (hln : ns.length < 4611686018427387904) (hK : ∀ H', K (.bool true) H') :
    W prog (J2 prog W0 Post) 169 h.length 8 (codeOf f8) (RG.mk (regs [nv]) []) h (RetQ prog [.tmp 2] h.length K) := by
  have hJ := J2.closed prog W0 Post
  rw [e8]
  refine newX hJ sn hln fun H1 a1 => good24 hJ a1 (by omega) fun p H2 fp pb S2 a2 => good25 hJ a2 (by omega) (by decide) fun s H3 gs hs7 S3 a3 => ?_
  obtain ⟨g1, g2, g3⟩ := id gs
  refine qAl fun H4 p4 e4 S4 c4 l4 => qAl fun H5 p5 e5 S5 c5 l5 => ?_
  have l3 := hxLt a3
  refine qStA (c := p.cells) (S5.get c4 (by simp)) rfl rfl rfl fun H6 S6 c6 l6 => qStA (c := s.cells) (S6.get c5 (by simp; omega)) rfl rfl rfl fun H7 S7 c7 l7 => ?_
  have c67 := S7.get c6 (by simp; omega)
  have T37 : SameX [] H3 H7 := ((S4.trans S5).thru S6 (by simp; omega)).thru S7 (by simp; omega)
  have a7 := HX.same a3 T37 (by simp)
  obtain ⟨n, hn⟩ := Int.eq_ofNat_of_zero_le (by omega : (0 : Int) ≤ s.days)
  have hl67 : p4 < H7.length ∧ p5 < H7.length := ⟨lt_of_get c67, lt_of_get c7⟩
  refine offI (ldI (v := vint s.days) c7 rfl rfl ?_)
  rw [hn]
  refine good30 hJ a7 (by omega) (by omega) (by omega) fun xs hv o H8 hx hxs S8 a8 O8 ho => ?_
  subst hx
  have hh : headsOk xs := fun x hx => ⟨(hxs x hx).1, by have := (hxs x hx).2; omega⟩
  have c68 := S8.get c67 (by simp; omega)
  have c78 := S8.get c7 (by simp; omega)
  have sv := ownX_sli O8
  have zc : ckdE p xs s = 0 := ckd_ok fp gs hh (by omega)
  refine load_part (c := p.cells) c68 (by simp [Pas.cells]) rfl rfl (load_part (c := s.cells) c78 (by simp [SkyR.cells]) rfl rfl ?_)
  refine good41 hJ sv (by omega) (fun h => absurd zc h) fun _ H9 vl S9 sl => ext0 (ext1 ?_)
  refine load_part (c := s.cells) (S9.get c78 (by simp)) (by simp [SkyR.cells]) rfl rfl ?_
  have z : skyE s = 0 := by unfold skyE; rw [if_pos gs]
  refine good34 hJ (fun h => absurd z h) fun _ H11 va S11 sa => ext0 (ext1 ?_)
  have T := S9.trans S11
  have cp := T.get c68 (by simp)
  have cs := T.get c78 (by simp)
  have sv' := T.sli sv (by simp)
  have sl' := S11.sli sl (by simp)
  have hsl := spans_len (p := p) (hs := xs) (s := s)
  have hdn : s.days.toNat = xs.length := by omega
  have slE : SliE H11 vl 2 rngC (spansR p xs s) := by
    show Sli H11 vl 2 (spansR p xs s).length _
    rw [hsl]
    exact sl'
  have hfew := rainsB_few gs
  have bnd := fun (k : Nat) (hk : k < xs.length) => spans_all (p := p) (hs := xs) (s := s) (k := k) (by omega)
  have behind : ∀ {F : RG} {H' : List AObj} {pl ph : Nat}, SameX [] H11 H' → H11.length ≤ pl → H11.length ≤ ph → pl ≠ ph → H'[pl]? = some (.cells ((List.replicate xs.length false).map Value.bool) true 0) → H'[ph]? = some (.cells ((List.replicate xs.length false).map Value.bool) true 0) → Mbt F p4 p5 hv va vl pl ph xs.length →
      W prog (J2 prog W0 Post) 169 h.length 8 (subC [1, 1, 1, 1, 1, 1, 1, 1] (codeOf f8)) F H' (contX pl8 prog (J2 prog W0 Post) 169 h.length 8 ct8 [1, 1, 1, 1, 1, 1, 1, 1] (codeOf f8) [] (RetQ prog [.tmp 2] h.length K)) := by
    intro F H' pl ph S hpl hph hne cl ch M
    rw [s8_2]
    rw [← shB_zero (g := lowB p xs s) (l := rainsB s)] at cl
    rw [← shB_zero (g := highB p xs s) (l := rainsB s)] at ch
    refine l8_3 hJ (fun i : Nat => (rainsB s).length - i) (fun i F H' => i ≤ (rainsB s).length ∧ SameX [] H11 H' ∧ H'[pl]? = some (.cells ((shB (lowB p xs s) (rainsB s) xs.length i 0).map Value.bool) true 0) ∧ H'[ph]? = some (.cells ((shB (highB p xs s) (rainsB s) xs.length i 0).map Value.bool) true 0) ∧ Mbt F p4 p5 hv va vl pl ph xs.length ∧ F.r 13 = vint (i : Nat)) ?_ (s := 0)
      (.inl ⟨Nat.zero_le _, S, cl, ch, ⟨M.ds, M.r4, M.r5, M.r6, M.r7, M.r9, M.r11, M.r12⟩, rfl⟩)
    clear S cl ch M F
    rintro i F H' ⟨hi, S, cl, ch, M, r13⟩ okc hnc
    rw [s8_3, M.r4, M.r6, M.r9, r13]
    refine lenI (S.sli sa (by simp)) (lssI (cndI (fun hl => ?_) fun hge => ?_))
    · have hl : i < (rainsB s).length := by omega
      have hu : (rainsB s)[i]? = some (rainsB s)[i] := List.getElem?_eq_getElem hl
      have hum := List.getElem_mem hl
      generalize (rainsB s)[i] = u at hu hum
      have hul : u.length = xs.length := by rw [rainsB_len hum]; omega
      have huc : ∀ c ∈ u, c = 100 ∨ c = 119 := by
        have hum' := hum
        rw [rainsB_strs] at hum'
        exact (strsB_len u (List.mem_filter.1 hum').1).2
      refine load_part (c := p.cells) (S.get cp (by simp)) (by simp [Pas.cells]) rfl rfl ?_
      refine strGet rfl (S.sli sa (by simp)) hu fun pa => ?_
      have zu : askE p xs u = 0 := ask_ok fp (by omega) (by omega) hh huc
      refine good32 hJ (S.sli sv' (by simp)) (by omega) (by omega) (fun h => absurd zu h) fun _ H14 ve S14 se => ext0 (ext1 (neqI (cndI (fun h => absurd rfl h) fun _ => ?_)))
      have se' : Sli H14 ve 1 (endsZ p xs u xs.length).length ((endsZ p xs u xs.length).map vint) := by
        rw [hul] at se
        rw [endsZ_len]
        exact se
      refine lenI se' ?_
      show aOff (F.r 5) 0 _
      rw [M.r5]
      refine offI (ldI (v := vint s.days) ((S.trans S14).get cs (by simp)) rfl rfl (neqI (hold.2 ?_)))
      rw [s8_4]
      refine cndI (fun h => absurd (by rw [endsZ_len, hn]) h) fun _ => ?_
      refine l8_6 hJ (fun k : Nat => xs.length - k) (fun k F H2 => k ≤ xs.length ∧ SameX [] H11 H2 ∧ H2[pl]? = some (.cells ((shB (lowB p xs s) (rainsB s) xs.length i k).map Value.bool) true 0) ∧ H2[ph]? = some (.cells ((shB (highB p xs s) (rainsB s) xs.length i k).map Value.bool) true 0) ∧ Sli H2 ve 1 (endsZ p xs u xs.length).length ((endsZ p xs u xs.length).map vint) ∧ Mbt F p4 p5 hv va vl pl ph xs.length ∧ F.r 13 = vint (i : Nat) ∧ F.r 14 = ve ∧ F.r 16 = vint (k : Nat)) ?_ (s := 0)
        (.inl ⟨Nat.zero_le _, S.trans S14, S14.get cl (by simp), S14.get ch (by simp), se', ⟨M.ds, M.r4, M.r5, M.r6, M.r7, M.r9, M.r11, M.r12⟩, r13, rfl, rfl⟩)
      clear M r13
      rintro k F H2 ⟨hk, S2, cl2, ch2, se2, M, r13, r14, r16⟩ okc2 hnc2
      rw [s8_6, M.r5, M.r7, r13, r14, r16]
      refine offI (ldI (v := vint s.days) (S2.get cs (by simp)) rfl rfl (lssI (cndI (fun hlt => ?_) fun hge => ?_)))
      · have hkn : k < xs.length := by omega
        have gl := shB_get (g := lowB p xs s) (l := rainsB s) (n := xs.length) (i := i) (k := k) hkn
        have gh := shB_get (g := highB p xs s) (l := rainsB s) (n := xs.length) (i := i) (k := k) hkn
        rw [if_neg (Nat.lt_irrefl _)] at gl gh
        have he := endsZ_get (p := p) (hs := xs) (w := u) (k := xs.length) (i := k) hkn
        have stl := shB_step (g := lowB p xs s) hu hkn (n := xs.length)
        have sth := shB_step (g := highB p xs s) hu hkn (n := xs.length)
        have bl := (bnd k hkn).1 u hum
        have slE2 : SliE H2 vl 2 rngC (spansR p xs s) := S2.sli slE (by simp)
        have hks : k < (spansR p xs s).length := by omega
        have nx : ∀ {H3 : List AObj}, SameX [pl, ph] H2 H3 → SameX [] H11 H3 ∧ Sli H3 ve 1 (endsZ p xs u xs.length).length ((endsZ p xs u xs.length).map vint) := fun {H3} S3 => by
          refine ⟨S2.thru S3 (by simp; omega), ?_⟩
          obtain ⟨H9, e1, e2⟩ : ∃ H9, SameX [pl] H2 H9 ∧ SameX [ph] H9 H3 := ⟨H2.set pl (H3.getD pl .dead), SameX.refl.set (.inl (by simp)), by rw [List.length_set]; exact S3.1, fun q hq hqx => by
            by_cases c : q = pl
            · subst c
              have : q < H3.length := by rw [List.length_set] at hq; have := S3.1; omega
              rw [List.getElem?_set_self (by rw [List.length_set] at hq; exact hq), List.getD_eq_getElem?_getD, List.getElem?_eq_getElem this]
              rfl
            · rw [List.getElem?_set_ne (by omega)]
              exact S3.2 q (by rw [List.length_set] at hq; exact hq) (by simp at hqx ⊢; exact ⟨c, hqx⟩)⟩
          have k1 := sli_apart se2 cl2 e1
          exact sli_apart k1 (e1.get ch2 (by simpa using hne.symm)) e2
        have last : ∀ {F3 : RG} {H3 : List AObj}, SameX [pl, ph] H2 H3 → H3[pl]? = some (.cells ((shB (lowB p xs s) (rainsB s) xs.length i (k + 1)).map Value.bool) true 0) → H3[ph]? = some (.cells ((shB (highB p xs s) (rainsB s) xs.length i (k + 1)).map Value.bool) true 0) → Mbt F3 p4 p5 hv va vl pl ph xs.length → F3.r 13 = vint (i : Nat) → F3.r 14 = ve → F3.r 16 = vint ((k + 1 : Nat) : Int) →
            Nx h.length (fun k : Nat => xs.length - k) (fun k F H2 => k ≤ xs.length ∧ SameX [] H11 H2 ∧ H2[pl]? = some (.cells ((shB (lowB p xs s) (rainsB s) xs.length i k).map Value.bool) true 0) ∧ H2[ph]? = some (.cells ((shB (highB p xs s) (rainsB s) xs.length i k).map Value.bool) true 0) ∧ Sli H2 ve 1 (endsZ p xs u xs.length).length ((endsZ p xs u xs.length).map vint) ∧ Mbt F p4 p5 hv va vl pl ph xs.length ∧ F.r 13 = vint (i : Nat) ∧ F.r 14 = ve ∧ F.r 16 = vint (k : Nat)) k F3 H3 := fun S3 e1 e2 M3 q13 q14 q16 => ⟨k + 1, by dsimp only; omega, .inl ⟨by omega, (nx S3).1, e1, e2, (nx S3).2, M3, q13, q14, q16⟩⟩
        have mk : ∀ {F3 : RG}, F3.ds = [] → F3.r 4 = ptr p4 0 → F3.r 5 = ptr p5 0 → F3.r 6 = hv → F3.r 7 = vl → F3.r 9 = va → F3.r 11 = .slice (some ⟨pl, 0, none⟩) xs.length xs.length → F3.r 12 = .slice (some ⟨ph, 0, none⟩) xs.length xs.length → Mbt F3 p4 p5 hv va vl pl ph xs.length := fun a b c d e f g i => ⟨a, b, c, d, e, f, g, i⟩
        have e16 : ((k : Nat) : Int) + 1 = ((k + 1 : Nat) : Int) := by omega
        have j8 : ∀ {F2 : RG}, Mbt F2 p4 p5 hv va vl pl ph xs.length → F2.r 13 = vint (i : Nat) → F2.r 14 = ve → F2.r 16 = vint (k : Nat) → F2.r 111 = .bool false →
            W prog (J2 prog W0 Post) 169 h.length 8 (subC [1, 1, 1, 1, 1, 1, 1, 1, 0, 1, 0, 0, 1, 0, 0, 1, 1, 1, 0, 0, 1, 0, 0, 0, 1] (codeOf f8)) F2 H2 (contX pl8 prog (J2 prog W0 Post) 169 h.length 8 ct8 [1, 1, 1, 1, 1, 1, 1, 1, 0, 1, 0, 0, 1, 0, 0, 1, 1, 1, 0, 0, 1, 0, 0, 0, 1] (codeOf f8) [Nx h.length (fun i : Nat => (rainsB s).length - i) (fun i F H' => i ≤ (rainsB s).length ∧ SameX [] H11 H' ∧ H'[pl]? = some (.cells ((shB (lowB p xs s) (rainsB s) xs.length i 0).map Value.bool) true 0) ∧ H'[ph]? = some (.cells ((shB (highB p xs s) (rainsB s) xs.length i 0).map Value.bool) true 0) ∧ Mbt F p4 p5 hv va vl pl ph xs.length ∧ F.r 13 = vint (i : Nat)) i, Nx h.length (fun k : Nat => xs.length - k) (fun k F H2 => k ≤ xs.length ∧ SameX [] H11 H2 ∧ H2[pl]? = some (.cells ((shB (lowB p xs s) (rainsB s) xs.length i k).map Value.bool) true 0) ∧ H2[ph]? = some (.cells ((shB (highB p xs s) (rainsB s) xs.length i k).map Value.bool) true 0) ∧ Sli H2 ve 1 (endsZ p xs u xs.length).length ((endsZ p xs u xs.length).map vint) ∧ Mbt F p4 p5 hv va vl pl ph xs.length ∧ F.r 13 = vint (i : Nat) ∧ F.r 14 = ve ∧ F.r 16 = vint (k : Nat)) k] (RetQ prog [.tmp 2] h.length K)) := by
          intro F2 M2 q13 q14 q16 q111
          rw [s8_8, M2.r7, M2.r11, M2.r12, q14, q16, q111]
          refine cnd_false.2 ?_
          refine bIdx cl2 shB_len gl fun q5 => cndB (fun hb1 => ?_) fun hb1 => ?_
          · rw [hb1, Bool.true_or] at stl
            refine bIdx ch2 shB_len gh fun q6 => cndB (fun hb2 => ?_) fun hb2 => ?_
            · rw [hb2, Bool.true_or] at sth
              refine put2 cl2 ch2 shB_len shB_len hkn hne fun H3 S3 e1 e2 => ?_
              rw [stl] at e1
              rw [sth] at e2
              exact addI (by omega) (last S3 e1 e2 ⟨M2.ds, M2.r4, M2.r5, M2.r6, M2.r7, M2.r9, M2.r11, M2.r12⟩ q13 q14 (congrArg vint e16))
            · rw [hb2, Bool.false_or] at sth
              refine sliN se2 he fun q7 => ?_
              refine (rngAt slE2 hks).2 fun q8 _ => eqlI ?_
              refine put2 cl2 ch2 shB_len shB_len hkn hne fun H3 S3 e1 e2 => ?_
              rw [stl] at e1
              have e2 : H3[ph]? = some (.cells (((shB (highB p xs s) (rainsB s) xs.length i k).set k (highB p xs s u k)).map Value.bool) true 0) := e2
              rw [sth] at e2
              exact addI (by omega) (last S3 e1 e2 ⟨M2.ds, M2.r4, M2.r5, M2.r6, M2.r7, M2.r9, M2.r11, M2.r12⟩ q13 q14 (congrArg vint e16))
          · rw [hb1, Bool.false_or] at stl
            refine sliN se2 he fun q7 => ?_
            refine (rngAt slE2 hks).1 fun q8 _ => eqlI ?_
            refine bIdx ch2 shB_len gh fun q6 => cndB (fun hb2 => ?_) fun hb2 => ?_
            · rw [hb2, Bool.true_or] at sth
              refine put2 cl2 ch2 shB_len shB_len hkn hne fun H3 S3 e1 e2 => ?_
              have e1 : H3[pl]? = some (.cells (((shB (lowB p xs s) (rainsB s) xs.length i k).set k (lowB p xs s u k)).map Value.bool) true 0) := e1
              rw [stl] at e1
              rw [sth] at e2
              exact addI (by omega) (last S3 e1 e2 ⟨M2.ds, M2.r4, M2.r5, M2.r6, M2.r7, M2.r9, M2.r11, M2.r12⟩ q13 q14 (congrArg vint e16))
            · rw [hb2, Bool.false_or] at sth
              refine sliN se2 he fun q9 => ?_
              refine (rngAt slE2 hks).2 fun q10 _ => eqlI ?_
              refine put2 cl2 ch2 shB_len shB_len hkn hne fun H3 S3 e1 e2 => ?_
              have e1 : H3[pl]? = some (.cells (((shB (lowB p xs s) (rainsB s) xs.length i k).set k (lowB p xs s u k)).map Value.bool) true 0) := e1
              have e2 : H3[ph]? = some (.cells (((shB (highB p xs s) (rainsB s) xs.length i k).set k (highB p xs s u k)).map Value.bool) true 0) := e2
              rw [stl] at e1
              rw [sth] at e2
              exact addI (by omega) (last S3 e1 e2 ⟨M2.ds, M2.r4, M2.r5, M2.r6, M2.r7, M2.r9, M2.r11, M2.r12⟩ q13 q14 (congrArg vint e16))
        refine sliN se2 he fun q1 => (rngAt slE2 hks).1 fun q2 _ => lssI (cndI (fun h => absurd h (by omega)) fun _ => sliN se2 he fun q3 => (rngAt slE2 hks).2 fun q4 _ => gtrI (hold.2 ?_))
        exact j8 ⟨M.ds, M.r4, M.r5, M.r6, M.r7, M.r9, M.r11, M.r12⟩ r13 r14 r16 (congrArg Value.bool (decide_eq_false (by omega)))
      · have : k = xs.length := by omega
        subst this
        rw [shB_next] at cl2 ch2
        exact addI (by omega) ⟨i + 1, by dsimp only; omega, .inl ⟨by omega, S2, cl2, ch2, ⟨M.ds, M.r4, M.r5, M.r6, M.r7, M.r9, M.r11, M.r12⟩, by show vint _ = vint _; congr 1⟩⟩
    · have : i = (rainsB s).length := by omega
      subst this
      have cs' := S.get cs (by simp)
      have full : ∀ {g : List UInt8 → Nat → Bool} {j : Nat}, j < xs.length → (∃ w ∈ rainsB s, g w j = true) → (shB g (rainsB s) xs.length (rainsB s).length 0)[j]? = some true := fun {g j} hj hw => by
        rw [shB_get hj, if_neg (Nat.not_lt_zero _), List.take_length]
        congr 1
        exact List.any_eq_true.2 hw
      refine l8_5 hJ (fun k : Nat => xs.length - k) (fun k F H2 => k ≤ xs.length ∧ H2 = H' ∧ Mbt F p4 p5 hv va vl pl ph xs.length ∧ F.r 17 = vint (k : Nat)) ?_ (s := 0)
        (.inl ⟨Nat.zero_le _, rfl, ⟨M.ds, M.r4, M.r5, M.r6, M.r7, M.r9, M.r11, M.r12⟩, rfl⟩)
      clear M r13
      rintro k F H2 ⟨hk, rfl, M, r17⟩ okc2 hnc2
      rw [s8_5, M.r5, M.r11, M.r12, r17, M.ds]
      refine offI (ldI (v := vint s.days) cs' rfl rfl (lssI (cndI (fun hlt => ?_) fun hge => good21 fun H15 _ => retL_same (by simp [unk]) (hK H15))))
      have hkn : k < xs.length := by omega
      obtain ⟨_, ⟨w1, m1, q1⟩, ⟨w2, m2, q2⟩⟩ := bnd k hkn
      refine bIdx cl shB_len (full hkn ⟨w1, m1, decide_eq_true q1⟩) fun q3 => notI (cnd_false.2 (bIdx ch shB_len (full hkn ⟨w2, m2, decide_eq_true q2⟩) fun q4 => notI (hold.2 ?_)))
      rw [s8_7]
      refine cnd_false.2 ?_
      show aBin prog .add 3 (F.r 17) (vint 1) _
      rw [r17]
      exact addI (by omega) ⟨k + 1, by dsimp only; omega, .inl ⟨by omega, rfl, ⟨M.ds, M.r4, M.r5, M.r6, M.r7, M.r9, M.r11, M.r12⟩, by show vint _ = vint _; congr 1⟩⟩
  have b5 := lt_of_get cs
  refine neqI (cndI (fun h => absurd rfl h) fun _ => neqI (cndI (fun h => absurd rfl h) fun _ => lenI sl' (offI (ldI (v := vint s.days) cs rfl rfl (neqI (hold.2 ?_))))))
  rw [s8_1]
  refine cndI (fun h => absurd (by rw [hdn, hn]) h) fun _ => ⟨[p5], offI (ldI (v := vint s.days) cs rfl rfl ⟨by simp [RdOk, ptrBlk], offI (ldI (v := vint s.days) cs rfl rfl ⟨by simp [RdOk, ptrBlk], ?_⟩)⟩)⟩
  rw [hn]
  constructor
  · refine mkB (by omega) fun H13 q1 S13 k1 e1 l1 => ⟨sbOne S13 b5 (by simp), mkB (by omega) fun H14 q2 S14 k2 e2 l2 => ⟨sbOne (S13.trans S14) b5 (by simp), hold.2 ?_⟩⟩
    exact behind (S13.trans S14) (by omega) (by omega) (by omega) (S14.get k1 (by simp)) k2 ⟨rfl, rfl, rfl, rfl, rfl, rfl, rfl, rfl⟩
  · refine mkB (by omega) fun H13 q1 S13 k1 e1 l1 => ⟨sbOne S13 b5 (by simp), mkB (by omega) fun H14 q2 S14 k2 e2 l2 => ⟨sbOne (S13.trans S14) b5 (by simp), hold.2 ?_⟩⟩
    exact behind (S13.trans S14) (by omega) (by omega) (by omega) k2 (S14.get k1 (by simp)) ⟨rfl, rfl, rfl, rfl, rfl, rfl, rfl, rfl⟩
end
end Go.Proofs.Ythnccaajpdnndaa
namespace Go.Proofs.Ythnccaajpdnndaa
open Go.Conc Go.ChangeShapes Go.WideShapes Go.ChangeAt Go.RowKit Go.Proofs.Try
set_option maxRecDepth 100000
theorem lifted8 (os : Os) (started : os.Started) (H : Type) (enc : TypeId × Value → H) :
    ReturnsInLeavingWide {} checked os 8 .any (Rows.grassBetweenSpec.pre6 enc prog f8 Rows.grassBetweenRow.domain false) (Rows.grassBetweenSpec.post enc prog f8 false true false false) := by
  refine returnsInLeavingWide_of_change_sized (C := checked) own started at8
    (ChangeSpec.witness6 (enc := enc) (C := checked) false ⟨#[], #[.slice none 0 0], []⟩ 8 (by kernel_rfl) (by kernel_rfl) (by kernel_rfl) (by kernel_rfl)) ?_
  intro W base args ds gs before hval0 hW _ hsz0 _
  have hsz : (DataW.weightsEach prog (f8.params.toList ++ Rows.grassBetweenSpec.plain.varTypes prog) (ds ++ gs)).all (· ≤ reachBytes) = true := hsz0
  clear hsz0
  have hval : ∀ (j : Nat) t v, f8.params[j]? = some t → args[j]? = some v → Value.okWide prog W .any base t v := hval0
  have hW' := hW
  obtain ⟨p, q, hA0, hV, rfl, _, _⟩ := hW
  have hA : DataW.TrodAll enc prog W 0 (fun _ => true) true f8.params.toList args.toList ds p := hA0
  have hps : f8.params = #[25] := by kernel_rfl
  rw [hps] at hA hval hsz
  obtain ⟨v0, d0, rfl, rfl, h0⟩ := trodAll_one hA
  obtain ⟨rfl, rfl⟩ := trodVars_none hV
  have u3 : prog.underlying 3 = some (.int .i64) := by kernel_rfl
  have u27 : prog.underlying 25 = some (.slice 3) := by kernel_rfl
  have u4 : prog.underlying 4 = some .bool := by kernel_rfl
  have c3 : prog.cellsOf 3 = 1 := by kernel_rfl
  have b3 : prog.bytesOf 3 = 8 := by kernel_rfl
  have hlt : ∀ x ∈ p, x.block < W.heap.size := fun x hx => by simpa using hW'.lt x (by simpa using hx)
  have hargs : ∀ (W' : World), Below W.heap.size W W' → DataW.TrodAll enc prog W' 0 (fun b => decide (b < W.heap.size)) true [25] [v0] [d0] p := fun W' hn =>
    trodAll_mk1 (Below.trod laidOut (by kernel_rfl) (of_decide_eq_true (by kernel_rfl)) h0 hn hlt)
  obtain ⟨ns, sn, ok2, hbig⟩ := arg_ints u27 u3 c3 (hval 0 25 v0 rfl rfl) h0
  have hln : ns.length < 4611686018427387904 := by
    rcases hbig with rfl | ⟨es, sp, rfl, hle⟩
    · simp
    · have := sized_slice hsz (j := 0) (t := 25) (e := 3) rfl rfl u27
      rw [b3] at this
      simp only [reachBytes] at this
      omega
  obtain ⟨M, last, o, w', t', r1, r2, r3, r4⟩ := law_run2 (g := 8) (fn := f8) at8 body8 (by kernel_rfl) W [v0] (Nat.le_of_ble_eq_true (by kernel_rfl : Nat.ble 1 f8.ntmps = true))
    (by
      intro v hv
      simp only [List.mem_cons, List.not_mem_nil, or_false] at hv
      subst hv
      exact ok2)
    (fun Post => walk8 (K := fun v _ => v = .bool true) sn hln fun _ => rfl)
  refine ⟨M, last, o, w', t', r1, r2, r3, r4.mono fun v hF => ?_⟩
  obtain ⟨rfl, hbelow⟩ := hF
  refine ⟨_, _, _, [], _, [], hW', ?_, hargs _ hbelow, by rfl, hbelow.frame _, fun h => by cases h⟩
  exact trodAll_mk1 (shut_bool u4 true)
theorem grassBetween_holds : Rows.GrassBetweenSaid :=
  OpenClaim.holds_of_wide_leaving 8 f8 rfl rfl rfl rfl rfl rfl rfl ⟨rfl, rfl, rfl, rfl, rfl⟩ rfl rfl rfl rfl rfl (by kernel_rfl) at8 (by kernel_rfl)
    (of_decide_eq_true (by kernel_rfl)) (by unfold Func.isWrapper; first | (rw [if_pos (by decide +kernel)]; kernel_rfl) | (rw [if_neg (by decide +kernel)]; exact ⟨rfl, rfl⟩))
    (fun os started H enc _ => lifted8 os started H enc)
#print axioms grassBetween_holds
end Go.Proofs.Ythnccaajpdnndaa
