/- GrassBetter answers true at every input, and its argument reads behind the call as it read before. No conditions. -/
import Derived.Test.YthnccaajpdnndaaK3
import Derived.Test.YthnccaajpdnndaaK2
import Derived.Test.YthnccaajpdnndaaK6
import Derived.Test.YthnccaajpdnndaaK5
namespace Go.Proofs.Ythnccaajpdnndaa
open Go.Conc Go.Proofs.Try
set_option maxRecDepth 100000
set_option maxHeartbeats 4000000
set_option linter.unusedVariables false
section
variable {main : Bool} {J : JT} {n0 : Nat} {h : List AObj} {K : Value → List AObj → Prop}
theorem at4 : prog.funcs[4]? = some f4 := by kernel_rfl
theorem body4 : f4.body = some (codeOf f4) := by kernel_rfl
def pl4 : Plans := [(4, false, .take 0 (.take 1 (.take 2 (.take 3 (.take 4 (.take 6 (.take 7 (.take 8 (.last 5 true (.take 10 (.last 9 false (.last 11 false (.take 12 (.last 13 false (.fin))))))))))))))),
  (5, false, .take 0 (.take 1 (.take 2 (.take 3 (.take 4 (.take 6 (.take 7 (.take 8 (.take 10 (.take 11 (.take 12 (.last 5 true (.take 14 (.last 9 true (.last 13 false (.last 15 false (.take 16 (.last 17 false (.take 18 (.last 19 false (.fin))))))))))))))))))))),
  (6, false, .take 0 (.take 1 (.take 2 (.take 4 (.take 5 (.take 6 (.last 3 true (.last 7 true (.take 8 (.take 9 (.fin))))))))))),
  (14, true, .take 0 (.take 1 (.take 2 (.take 3 (.take 4 (.take 5 (.take 6 (.take 7 (.take 8 (.fin))))))))))]
def ct4 : Cuts := .bin (.go) (.bin (.go) (.bin (.go) (.bin (.go) (.bin (.go) (.cut (.bin (.go) (.cut (.bin (.go) (.cut (.bin (.go) (.bin (.go) (.bin (.bin (.go) (.cut (.go))) (.go)))))))))))))
theorem pok4 : plansOk prog pl4 (codeOf f4) = true := by kernel_rfl
theorem e4 {a0 : Value} : W prog J 139 h.length 4 (codeOf f4) (RG.mk (regs [a0]) []) h (RetQ prog [.tmp 2] h.length K) =
(Good prog J 22 [a0] h fun v1 h2 =>
 Good prog J 24 [v1] h2 fun v3 h4 =>
 Good prog J 25 [v1, (vint 6)] h4 fun v5 h6 =>
 aAlloc [(vint 0), (vint 0), (vint 0), (vint 0), (vint 0), (vint 0)] h6 fun v7 h8 =>
 aAlloc [(vint 0), (vint 0), (vint 0)] h8 fun v9 h10 =>
 aStore 6 v7 v3 h10 fun h11 =>
 aStore 3 v9 v5 h11 fun h12 =>
 aLoad true 6 v7 h12 fun v13 =>
 aAlloc [(vint 0), (vint 0), (vint 0), (vint 0), (vint 0), (vint 0)] h12 fun v14 h15 =>
 aStore 6 v14 v13 h15 fun h16 =>
(∃ B, aOff v7 0 fun v17 =>
 aLoad false 1 v17 h16 fun v18 =>
 RdOk (some B) (ptrBlk v17) ∧ (aOff v7 1 fun v19 =>
 aLoad false 1 v19 h16 fun v20 =>
 RdOk (some B) (ptrBlk v19) ∧ (aOff v7 3 fun v21 =>
 aLoad false 1 v21 h16 fun v22 =>
 RdOk (some B) (ptrBlk v21) ∧ (Good prog J 23 [v1, v18, v20] h16 fun v23 h24 =>
 SameB (some B) h16 h24 ∧ (aOff v14 0 fun v25 =>
 Good prog J 23 [v1, v22, (vint 9)] h24 fun v26 h27 =>
 aStore 1 v25 v23 h27 fun h28 =>
 aOff v14 3 fun v29 =>
 aStore 1 v29 v26 h28 fun h30 =>
 Hold (W prog J 139 h.length 4 (subC [1, 1, 1, 1, 1] (codeOf f4)) (RG.p (RG.p (RG.p (RG.p (RG.p (RG.p (RG.p (RG.p (RG.p (RG.p (RG.p (RG.p (RG.p (RG.p (RG.p (RG.p (RG.p (RG.p (RG.p (RG.p (RG.p (RG.p (RG.p (RG.p (RG.mk (regs [a0]) []) 2 (Value.bool false)) 16 a0) 17 v1) 3 v1) 18 v1) 19 v3) 20 v1) 21 v5) 4 v7) 5 v9) 22 v13) 6 v14) 23 v1) 24 v17) 25 v18) 26 v19) 27 v20) 29 v1) 30 v21) 31 v22) 28 v23) 33 v25) 32 v26) 34 v29) h30 (contX pl4 prog J 139 h.length 4 ct4 [1, 1, 1, 1, 1] (codeOf f4) [] (RetQ prog [.tmp 2] h.length K))))))))) := top_eq pok4 ct4 (by kernel_rfl)
theorem g4 (hJ : Closed prog main J) {a0 : Value} (hs : heapOk h → W prog J 139 h.length 4 (codeOf f4) (RG.mk (regs [a0]) []) h (RetQ prog [.tmp 2] h.length K)) : Good prog J 4 [a0] h K :=
  good_of_W hJ mixed at4 body4 (by kernel_rfl) (Nat.le_of_ble_eq_true rfl) hs
theorem s4_1 {f : RG} : W prog J 139 n0 4 (subC [1, 1, 1, 1, 1] (codeOf f4)) f h (contX pl4 prog J 139 n0 4 ct4 [1, 1, 1, 1, 1] (codeOf f4) [] (RetQ prog [.tmp 2] n0 K)) =
((∃ B, aOff (f.r 4) 2 fun v1 =>
 aLoad false 1 v1 h fun v2 =>
 RdOk (some B) (ptrBlk v1) ∧ (aOff (f.r 6) 3 fun v3 =>
 aLoad false 1 v3 h fun v4 =>
 RdOk (some B) (ptrBlk v3) ∧ (aOff (f.r 4) 5 fun v5 =>
 aLoad false 1 v5 h fun v6 =>
 RdOk (some B) (ptrBlk v5) ∧ (aOff (f.r 4) 4 fun v7 =>
 aLoad false 1 v7 h fun v8 =>
 RdOk (some B) (ptrBlk v7) ∧ (Good prog J 23 [(f.r 3), v2, v4] h fun v9 h10 =>
 SameB (some B) h h10 ∧ (aOff (f.r 6) 2 fun v11 =>
 Good prog J 26 [(f.r 3), v6] h10 fun v12 h13 =>
 SameB (some B) h h13 ∧ (Good prog J 26 [(f.r 3), v8] h13 fun v14 h15 =>
 aStore 1 v11 v9 h15 fun h16 =>
 aOff (f.r 6) 5 fun v17 =>
 aStore 1 v17 v12 h16 fun h18 =>
 aOff (f.r 6) 4 fun v19 =>
 aStore 1 v19 v14 h18 fun h20 =>
 Hold (W prog J 139 n0 4 (subC [1, 1, 1, 1, 1, 1] (codeOf f4)) (RG.p (RG.p (RG.p (RG.p (RG.p (RG.p (RG.p (RG.p (RG.p (RG.p (RG.p (RG.p (RG.p (RG.p (RG.p (RG.p (RG.p f 35 (f.r 3)) 36 v1) 37 v2) 38 v3) 39 v4) 41 (f.r 3)) 42 v5) 43 v6) 45 (f.r 3)) 46 v7) 47 v8) 40 v9) 49 v11) 44 v12) 48 v14) 50 v17) 51 v19) h20 (contX pl4 prog J 139 n0 4 ct4 [1, 1, 1, 1, 1, 1] (codeOf f4) [] (RetQ prog [.tmp 2] n0 K))))))))))) := sub_eq pok4 ct4 (by kernel_rfl)
theorem s4_2 {f : RG} : W prog J 139 n0 4 (subC [1, 1, 1, 1, 1, 1] (codeOf f4)) f h (contX pl4 prog J 139 n0 4 ct4 [1, 1, 1, 1, 1, 1] (codeOf f4) [] (RetQ prog [.tmp 2] n0 K)) =
((∃ B, aOff (f.r 5) 0 fun v1 =>
 aLoad false 1 v1 h fun v2 =>
 RdOk (some B) (ptrBlk v1) ∧ (aOff (f.r 5) 0 fun v3 =>
 aLoad false 1 v3 h fun v4 =>
 RdOk (some B) (ptrBlk v3) ∧ (Good prog J 30 [(f.r 3), v2, (vint 12)] h fun v5 h6 =>
 SameB (some B) h h6 ∧ (Good prog J 31 [(f.r 3), v4] h6 fun v7 h8 =>
 SameB (some B) h h8 ∧ (Hold (W prog J 139 n0 4 (subC [1, 1, 1, 1, 1, 1, 1] (codeOf f4)) (RG.p (RG.p (RG.p (RG.p (RG.p (RG.p (RG.p (RG.p (RG.p (RG.p f 52 (f.r 3)) 53 v1) 54 v2) 56 (f.r 3)) 57 v3) 58 v4) 55 v5) 59 v7) 7 v5) 8 v7) h8 (contX pl4 prog J 139 n0 4 ct4 [1, 1, 1, 1, 1, 1, 1] (codeOf f4) [] (RetQ prog [.tmp 2] n0 K))))))))) := sub_eq pok4 ct4 (by kernel_rfl)
theorem s4_3 {f : RG} : W prog J 139 n0 4 (subC [1, 1, 1, 1, 1, 1, 1] (codeOf f4)) f h (contX pl4 prog J 139 n0 4 ct4 [1, 1, 1, 1, 1, 1, 1] (codeOf f4) [] (RetQ prog [.tmp 2] n0 K)) =
(aLoad true 6 (f.r 4) h fun v1 =>
 Good prog J 32 [v1, (f.r 7), (f.r 8)] h fun v2 h3 =>
 aExt v2 0 fun v4 =>
 aExt v2 1 fun v5 =>
 aLoad true 6 (f.r 6) h3 fun v6 =>
 Good prog J 32 [v6, (f.r 7), (f.r 8)] h3 fun v7 h8 =>
 aExt v7 0 fun v9 =>
 aExt v7 1 fun v10 =>
 aBin prog .neq 37 v5 (vint 0) fun v11 =>
 cnd v11
(Hold (W prog J 139 n0 4 (subC [1, 1, 1, 1, 1, 1, 1, 1, 1, 0, 1] (codeOf f4)) (RG.p (RG.p (RG.p (RG.p (RG.p (RG.p (RG.p (RG.p (RG.p (RG.p (RG.p (RG.p (RG.p (RG.p (RG.p (RG.p (RG.p (RG.p (RG.p (RG.p (RG.p (RG.p (RG.p (RG.p (RG.p (RG.p (RG.p (RG.p (RG.p (RG.p (RG.p (RG.p (RG.p (RG.p (RG.p (RG.p (RG.p (RG.p (RG.p (RG.p (RG.p f 61 v1) 62 (f.r 7)) 63 (f.r 8)) 64 v2) 60 v2) 65 v4) 66 v5) 9 v4) 10 v5) 68 v6) 69 (f.r 7)) 70 (f.r 8)) 71 v7) 67 v7) 72 v9) 73 v10) 11 v9) 12 v10) 74 v5) 75 v11) 76 v11) 76 (Value.bool true)) 77 undef) 78 undef) 79 (Value.bool true)) 80 (Value.bool true)) 80 (Value.bool true)) 81 undef) 82 undef) 83 undef) 84 undef) 85 undef) 86 (Value.bool true)) 87 (Value.bool true)) 87 (Value.bool true)) 88 undef) 89 undef) 90 undef) 91 undef) 92 undef) 93 (Value.bool true)) h8 (contX pl4 prog J 139 n0 4 ct4 [1, 1, 1, 1, 1, 1, 1, 1, 1, 0, 1] (codeOf f4) [] (RetQ prog [.tmp 2] n0 K))))
(aBin prog .neq 37 v10 (vint 0) fun v12 =>
 cnd v12
(Hold (W prog J 139 n0 4 (subC [1, 1, 1, 1, 1, 1, 1, 1, 1, 0, 1] (codeOf f4)) (RG.p (RG.p (RG.p (RG.p (RG.p (RG.p (RG.p (RG.p (RG.p (RG.p (RG.p (RG.p (RG.p (RG.p (RG.p (RG.p (RG.p (RG.p (RG.p (RG.p (RG.p (RG.p (RG.p (RG.p (RG.p (RG.p (RG.p (RG.p (RG.p (RG.p (RG.p (RG.p (RG.p (RG.p (RG.p (RG.p (RG.p (RG.p (RG.p (RG.p (RG.p f 61 v1) 62 (f.r 7)) 63 (f.r 8)) 64 v2) 60 v2) 65 v4) 66 v5) 9 v4) 10 v5) 68 v6) 69 (f.r 7)) 70 (f.r 8)) 71 v7) 67 v7) 72 v9) 73 v10) 11 v9) 12 v10) 74 v5) 75 v11) 76 v11) 76 (Value.bool false)) 77 v10) 78 v12) 79 v12) 80 v12) 80 (Value.bool true)) 81 undef) 82 undef) 83 undef) 84 undef) 85 undef) 86 (Value.bool true)) 87 (Value.bool true)) 87 (Value.bool true)) 88 undef) 89 undef) 90 undef) 91 undef) 92 undef) 93 (Value.bool true)) h8 (contX pl4 prog J 139 n0 4 ct4 [1, 1, 1, 1, 1, 1, 1, 1, 1, 0, 1] (codeOf f4) [] (RetQ prog [.tmp 2] n0 K))))
(aLenS v4 fun v13 =>
 aOff (f.r 5) 0 fun v14 =>
 aLoad false 1 v14 h8 fun v15 =>
 aBin prog .neq 3 v13 v15 fun v16 =>
 cnd v16
(Hold (W prog J 139 n0 4 (subC [1, 1, 1, 1, 1, 1, 1, 1, 1, 0, 1] (codeOf f4)) (RG.p (RG.p (RG.p (RG.p (RG.p (RG.p (RG.p (RG.p (RG.p (RG.p (RG.p (RG.p (RG.p (RG.p (RG.p (RG.p (RG.p (RG.p (RG.p (RG.p (RG.p (RG.p (RG.p (RG.p (RG.p (RG.p (RG.p (RG.p (RG.p (RG.p (RG.p (RG.p (RG.p (RG.p (RG.p (RG.p (RG.p (RG.p (RG.p (RG.p (RG.p f 61 v1) 62 (f.r 7)) 63 (f.r 8)) 64 v2) 60 v2) 65 v4) 66 v5) 9 v4) 10 v5) 68 v6) 69 (f.r 7)) 70 (f.r 8)) 71 v7) 67 v7) 72 v9) 73 v10) 11 v9) 12 v10) 74 v5) 75 v11) 76 v11) 76 (Value.bool false)) 77 v10) 78 v12) 79 v12) 80 v12) 80 (Value.bool false)) 81 v4) 82 v13) 83 v14) 84 v15) 85 v16) 86 v16) 87 v16) 87 (Value.bool true)) 88 undef) 89 undef) 90 undef) 91 undef) 92 undef) 93 (Value.bool true)) h8 (contX pl4 prog J 139 n0 4 ct4 [1, 1, 1, 1, 1, 1, 1, 1, 1, 0, 1] (codeOf f4) [] (RetQ prog [.tmp 2] n0 K))))
(aLenS v9 fun v17 =>
 aOff (f.r 5) 0 fun v18 =>
 aLoad false 1 v18 h8 fun v19 =>
 aBin prog .neq 3 v17 v19 fun v20 =>
 Hold (W prog J 139 n0 4 (subC [1, 1, 1, 1, 1, 1, 1, 1, 1, 0, 1] (codeOf f4)) (RG.p (RG.p (RG.p (RG.p (RG.p (RG.p (RG.p (RG.p (RG.p (RG.p (RG.p (RG.p (RG.p (RG.p (RG.p (RG.p (RG.p (RG.p (RG.p (RG.p (RG.p (RG.p (RG.p (RG.p (RG.p (RG.p (RG.p (RG.p (RG.p (RG.p (RG.p (RG.p (RG.p (RG.p (RG.p (RG.p (RG.p (RG.p (RG.p (RG.p (RG.p f 61 v1) 62 (f.r 7)) 63 (f.r 8)) 64 v2) 60 v2) 65 v4) 66 v5) 9 v4) 10 v5) 68 v6) 69 (f.r 7)) 70 (f.r 8)) 71 v7) 67 v7) 72 v9) 73 v10) 11 v9) 12 v10) 74 v5) 75 v11) 76 v11) 76 (Value.bool false)) 77 v10) 78 v12) 79 v12) 80 v12) 80 (Value.bool false)) 81 v4) 82 v13) 83 v14) 84 v15) 85 v16) 86 v16) 87 v16) 87 (Value.bool false)) 88 v9) 89 v17) 90 v18) 91 v19) 92 v20) 93 v20) h8 (contX pl4 prog J 139 n0 4 ct4 [1, 1, 1, 1, 1, 1, 1, 1, 1, 0, 1] (codeOf f4) [] (RetQ prog [.tmp 2] n0 K))))))) := sub_eq pok4 ct4 (by kernel_rfl)
theorem s4_4 {f : RG} : W prog J 139 n0 4 (subC [1, 1, 1, 1, 1, 1, 1, 1, 1, 0, 1] (codeOf f4)) f h (contX pl4 prog J 139 n0 4 ct4 [1, 1, 1, 1, 1, 1, 1, 1, 1, 0, 1] (codeOf f4) [] (RetQ prog [.tmp 2] n0 K)) =
(cnd (f.r 93)
(retL n0 K f.ds [(Value.bool false)] h)
(Sem J 139 n0 4 (subC [1, 1, 1, 1, 1, 1, 1, 1, 1, 1, 0, 1, 0] (codeOf f4)) (RG.p f 13 (vint 0)) h (contX pl4 prog J 139 n0 4 ct4 [1, 1, 1, 1, 1, 1, 1, 1, 1, 1, 0, 1, 0] (codeOf f4) [] (RetQ prog [.tmp 2] n0 K)))) := sub_eq pok4 ct4 (by kernel_rfl)
theorem s4_5 {f : RG} {nx0 : RG → List AObj → Prop} : W prog J 139 n0 4 (subC [1, 1, 1, 1, 1, 1, 1, 1, 1, 1, 0, 1, 0, 0] (codeOf f4)) f h (thenK nx0 (contX pl4 prog J 139 n0 4 ct4 [1, 1, 1, 1, 1, 1, 1, 1, 1, 1, 0, 1, 0] (codeOf f4) [] (RetQ prog [.tmp 2] n0 K))) =
(aOff (f.r 5) 0 fun v1 =>
 aLoad false 1 v1 h fun v2 =>
 aBin prog .lss 3 (f.r 13) v2 fun v3 =>
 cnd v3
(aIdx 1 (f.r 11) (f.r 13) fun v4 =>
 aLoad false 1 v4 h fun v5 =>
 aIdx 1 (f.r 9) (f.r 13) fun v6 =>
 aLoad false 1 v6 h fun v7 =>
 aBin prog .lss 3 v5 v7 fun v8 =>
 cnd v8
(retL n0 K f.ds [(Value.bool false)] h)
(aBin prog .add 3 (f.r 13) (vint 1) fun v9 =>
 nx0 (RG.p (RG.p (RG.p (RG.p (RG.p (RG.p (RG.p (RG.p (RG.p (RG.p (RG.p (RG.p (RG.p (RG.p (RG.p (RG.p f 94 (f.r 13)) 95 v1) 96 v2) 97 v3) 100 (f.r 11)) 101 (f.r 13)) 102 v4) 103 v5) 104 (f.r 9)) 105 (f.r 13)) 106 v6) 107 v7) 108 v8) 98 (f.r 13)) 99 v9) 13 v9) h))
(aLoad true 6 (f.r 4) h fun v10 =>
 aLoad true 3 (f.r 5) h fun v11 =>
 aOff (f.r 5) 0 fun v12 =>
 aLoad false 1 v12 h fun v13 =>
 Good prog J 33 [v10, v11, (vint 0), v13] h fun v14 h15 =>
 aExt v14 0 fun v16 =>
 aExt v14 1 fun v17 =>
 aLoad true 6 (f.r 6) h15 fun v18 =>
 aLoad true 3 (f.r 5) h15 fun v19 =>
 aOff (f.r 5) 0 fun v20 =>
 aLoad false 1 v20 h15 fun v21 =>
 Good prog J 33 [v18, v19, (vint 0), v21] h15 fun v22 h23 =>
 aExt v22 0 fun v24 =>
 aExt v22 1 fun v25 =>
 aBin prog .eql 37 v17 (vint 0) fun v26 =>
 cnd v26
(aBin prog .eql 37 v25 (vint 0) fun v27 =>
 cnd v27
(aBin prog .geq 3 v24 v16 fun v28 =>
 cnd v28
(Good prog J 21 [] h23 fun v29 h30 =>
 retL n0 K f.ds [v29] h30)
(retL n0 K f.ds [(Value.bool false)] h23))
(retL n0 K f.ds [(Value.bool false)] h23))
(retL n0 K f.ds [(Value.bool false)] h23))) := sub_eq pok4 ct4 (by kernel_rfl)
theorem l4_5 (hJ : Closed prog main J) {S : Type} (μ : S → Nat) (I : S → RG → List AObj → Prop) (hI : ∀ s f h, I s f h → heapOk h → n0 ≤ h.length → W prog J 139 n0 4 (subC [1, 1, 1, 1, 1, 1, 1, 1, 1, 1, 0, 1, 0, 0] (codeOf f4)) f h (thenK (Nx n0 μ I s) (contX pl4 prog J 139 n0 4 ct4 [1, 1, 1, 1, 1, 1, 1, 1, 1, 1, 0, 1, 0] (codeOf f4) [] (RetQ prog [.tmp 2] n0 K))))
  {s : S} {f : RG} (hi : Gets n0 I s f h) : Sem J 139 n0 4 (subC [1, 1, 1, 1, 1, 1, 1, 1, 1, 1, 0, 1, 0] (codeOf f4)) f h (contX pl4 prog J 139 n0 4 ct4 [1, 1, 1, 1, 1, 1, 1, 1, 1, 1, 0, 1, 0] (codeOf f4) [] (RetQ prog [.tmp 2] n0 K)) :=
  loop_rule hJ mixed (b := subC [1, 1, 1, 1, 1, 1, 1, 1, 1, 1, 0, 1, 0, 0] (codeOf f4)) (by kernel_rfl) μ I hI hi
end
section
variable {main : Bool} {J : JT} {n0 : Nat} {h : List AObj} {K : Value → List AObj → Prop}
def pl12 : Plans := []
def ct12 : Cuts := .bin (.go) (.bin (.go) (.bin (.go) (.bin (.go) (.bin (.go) (.bin (.go) (.bin (.bin (.go) (.cut (.go))) (.bin (.go) (.bin (.bin (.go) (.cut (.go))) (.bin (.bin (.go) (.bin (.bin (.go) (.bin (.go) (.cut (.go)))) (.go))) (.bin (.bin (.go) (.bin (.bin (.go) (.bin (.go) (.cut (.go)))) (.go))) (.bin (.bin (.go) (.bin (.bin (.go) (.bin (.go) (.cut (.go)))) (.go))) (.go))))))))))))
theorem pok12 : plansOk prog pl12 (codeOf f12) = true := by kernel_rfl
theorem e12 {a0 : Value} : W prog J 126 h.length 12 (codeOf f12) (RG.mk (regs [a0]) []) h (RetQ prog [.tmp 2] h.length K) =
(Good prog J 22 [a0] h fun v1 h2 =>
 Good prog J 24 [v1] h2 fun v3 h4 =>
 Good prog J 25 [v1, (vint 7)] h4 fun v5 h6 =>
 aAlloc [(vint 0), (vint 0), (vint 0), (vint 0), (vint 0), (vint 0)] h6 fun v7 h8 =>
 aAlloc [(vint 0), (vint 0), (vint 0)] h8 fun v9 h10 =>
 aStore 6 v7 v3 h10 fun h11 =>
 aStore 3 v9 v5 h11 fun h12 =>
 aOff v9 0 fun v13 =>
 aLoad false 1 v13 h12 fun v14 =>
 aBin prog .sub 3 v14 (vint 1) fun v15 =>
 Good prog J 26 [v1, v15] h12 fun v16 h17 =>
 aOff v9 0 fun v18 =>
 aLoad false 1 v18 h17 fun v19 =>
 aBin prog .sub 3 v19 v16 fun v20 =>
 Good prog J 23 [v1, (vint 1), v20] h17 fun v21 h22 =>
 aLoad true 6 v7 h22 fun v23 =>
 aLoad true 3 v9 h22 fun v24 =>
 Good prog J 33 [v23, v24, v16, v21] h22 fun v25 h26 =>
 aExt v25 0 fun v27 =>
 aExt v25 1 fun v28 =>
 aBin prog .neq 37 v28 (vint 0) fun v29 =>
 cnd v29
(Hold (W prog J 126 h.length 12 (subC [1, 1, 1, 1, 1, 1, 0, 1] (codeOf f12)) (RG.p (RG.p (RG.p (RG.p (RG.p (RG.p (RG.p (RG.p (RG.p (RG.p (RG.p (RG.p (RG.p (RG.p (RG.p (RG.p (RG.p (RG.p (RG.p (RG.p (RG.p (RG.p (RG.p (RG.p (RG.p (RG.p (RG.p (RG.p (RG.p (RG.p (RG.p (RG.p (RG.p (RG.p (RG.p (RG.p (RG.p (RG.p (RG.p (RG.p (RG.p (RG.p (RG.p (RG.p (RG.p (RG.mk (regs [a0]) []) 2 (Value.bool false)) 18 a0) 19 v1) 3 v1) 20 v1) 21 v3) 22 v1) 23 v5) 4 v7) 5 v9) 24 v1) 25 v13) 26 v14) 27 v15) 28 v16) 6 v16) 29 v1) 30 v18) 31 v19) 32 v16) 33 v20) 34 v21) 7 v21) 36 v23) 37 v24) 38 v16) 39 v21) 40 v25) 35 v25) 41 v27) 42 v28) 8 v27) 9 v28) 43 v28) 44 v29) 45 v29) 45 (Value.bool true)) 46 undef) 47 undef) 48 (Value.bool true)) 49 (Value.bool true)) 49 (Value.bool true)) 50 undef) 51 undef) 52 (Value.bool true)) h26 (contX pl12 prog J 126 h.length 12 ct12 [1, 1, 1, 1, 1, 1, 0, 1] (codeOf f12) [] (RetQ prog [.tmp 2] h.length K))))
(aBin prog .lss 3 v27 (vint 0) fun v30 =>
 cnd v30
(Hold (W prog J 126 h.length 12 (subC [1, 1, 1, 1, 1, 1, 0, 1] (codeOf f12)) (RG.p (RG.p (RG.p (RG.p (RG.p (RG.p (RG.p (RG.p (RG.p (RG.p (RG.p (RG.p (RG.p (RG.p (RG.p (RG.p (RG.p (RG.p (RG.p (RG.p (RG.p (RG.p (RG.p (RG.p (RG.p (RG.p (RG.p (RG.p (RG.p (RG.p (RG.p (RG.p (RG.p (RG.p (RG.p (RG.p (RG.p (RG.p (RG.p (RG.p (RG.p (RG.p (RG.p (RG.p (RG.p (RG.mk (regs [a0]) []) 2 (Value.bool false)) 18 a0) 19 v1) 3 v1) 20 v1) 21 v3) 22 v1) 23 v5) 4 v7) 5 v9) 24 v1) 25 v13) 26 v14) 27 v15) 28 v16) 6 v16) 29 v1) 30 v18) 31 v19) 32 v16) 33 v20) 34 v21) 7 v21) 36 v23) 37 v24) 38 v16) 39 v21) 40 v25) 35 v25) 41 v27) 42 v28) 8 v27) 9 v28) 43 v28) 44 v29) 45 v29) 45 (Value.bool false)) 46 v27) 47 v30) 48 v30) 49 v30) 49 (Value.bool true)) 50 undef) 51 undef) 52 (Value.bool true)) h26 (contX pl12 prog J 126 h.length 12 ct12 [1, 1, 1, 1, 1, 1, 0, 1] (codeOf f12) [] (RetQ prog [.tmp 2] h.length K))))
(aBin prog .gtr 3 v27 (vint 40) fun v31 =>
 Hold (W prog J 126 h.length 12 (subC [1, 1, 1, 1, 1, 1, 0, 1] (codeOf f12)) (RG.p (RG.p (RG.p (RG.p (RG.p (RG.p (RG.p (RG.p (RG.p (RG.p (RG.p (RG.p (RG.p (RG.p (RG.p (RG.p (RG.p (RG.p (RG.p (RG.p (RG.p (RG.p (RG.p (RG.p (RG.p (RG.p (RG.p (RG.p (RG.p (RG.p (RG.p (RG.p (RG.p (RG.p (RG.p (RG.p (RG.p (RG.p (RG.p (RG.p (RG.p (RG.p (RG.p (RG.p (RG.p (RG.mk (regs [a0]) []) 2 (Value.bool false)) 18 a0) 19 v1) 3 v1) 20 v1) 21 v3) 22 v1) 23 v5) 4 v7) 5 v9) 24 v1) 25 v13) 26 v14) 27 v15) 28 v16) 6 v16) 29 v1) 30 v18) 31 v19) 32 v16) 33 v20) 34 v21) 7 v21) 36 v23) 37 v24) 38 v16) 39 v21) 40 v25) 35 v25) 41 v27) 42 v28) 8 v27) 9 v28) 43 v28) 44 v29) 45 v29) 45 (Value.bool false)) 46 v27) 47 v30) 48 v30) 49 v30) 49 (Value.bool false)) 50 v27) 51 v31) 52 v31) h26 (contX pl12 prog J 126 h.length 12 ct12 [1, 1, 1, 1, 1, 1, 0, 1] (codeOf f12) [] (RetQ prog [.tmp 2] h.length K)))))) := top_eq pok12 ct12 (by kernel_rfl)
end
end Go.Proofs.Ythnccaajpdnndaa
namespace Go.Proofs.Ythnccaajpdnndaa
open Go.Conc Go.Proofs.Try
set_option maxRecDepth 100000
theorem head_ok {p : Pas} {s : SkyR} {fr dy : Int} (f : pasOk p) (g : skyOk s) (h1 : 0 ≤ fr ∧ fr ≤ s.days - 1) (h2 : 1 ≤ dy ∧ dy ≤ s.days - fr) : headE p s fr dy = 0 := by
  have z : fst2 (pasE p) (skyE s) = 0 := by
    unfold pasE skyE
    rw [if_pos f, if_pos g]
    rfl
  unfold headE
  rw [if_neg (not_not_intro z), if_neg (not_not_intro h1), if_neg (not_not_intro h2)]
theorem head_is {p : Pas} {s : SkyR} {fr dy : Int} (f : pasOk p) (g : skyOk s) (h1 : 0 ≤ fr ∧ fr ≤ s.days - 1) (h2 : 1 ≤ dy ∧ dy ≤ s.days - fr) : headN p s fr dy = topH (fun n => stayB p s n fr dy) 40 := by
  unfold headN
  rw [if_pos (head_ok f g h1 h2)]
end Go.Proofs.Ythnccaajpdnndaa
namespace Go.Proofs.Ythnccaajpdnndaa
open Go.Conc Go.Proofs.Try
set_option maxRecDepth 100000
set_option maxHeartbeats 4000000
set_option linter.unusedVariables false
section
variable {main : Bool} {J : JT} {n0 : Nat} {h : List AObj} {K : Value → List AObj → Prop}
theorem at5 : prog.funcs[5]? = some f5 := by kernel_rfl
theorem body5 : f5.body = some (codeOf f5) := by kernel_rfl
def pl5 : Plans := [(3, false, .take 0 (.take 1 (.take 3 (.take 4 (.alt 2 true (.last 5 true (.last 6 false (.take 7 (.take 8 (.take 9 (.take 10 (.take 11 (.fin)))))))) (.last 5 true (.last 2 true (.last 6 false (.take 7 (.take 8 (.take 9 (.take 10 (.take 11 (.fin)))))))))))))),
  (10, true, .take 0 (.take 1 (.take 2 (.take 3 (.take 4 (.take 5 (.take 6 (.take 7 (.take 8 (.take 9 (.take 10 (.take 11 (.take 12 (.take 13 (.take 14 (.fin))))))))))))))))]
def ct5 : Cuts := .bin (.go) (.bin (.go) (.bin (.go) (.bin (.go) (.cut (.bin (.bin (.go) (.cut (.go))) (.bin (.go) (.bin (.bin (.go) (.un (.un (.bin (.go) (.bin (.un (.bin (.bin (.go) (.cut (.go))) (.go))) (.go)))))) (.go))))))))
theorem pok5 : plansOk prog pl5 (codeOf f5) = true := by kernel_rfl
theorem e5 {a0 : Value} : W prog J 61 h.length 5 (codeOf f5) (RG.mk (regs [a0]) []) h (RetQ prog [.tmp 2] h.length K) =
(Good prog J 22 [a0] h fun v1 h2 =>
 Good prog J 24 [v1] h2 fun v3 h4 =>
 Good prog J 23 [v1, (vint 1), (vint 8)] h4 fun v5 h6 =>
 aAlloc [(vint 0), (vint 0), (vint 0), (vint 0), (vint 0), (vint 0)] h6 fun v7 h8 =>
 aStore 6 v7 v3 h8 fun h9 =>
(∃ B, aLoad true 6 v7 h9 fun v10 =>
 RdOk (some B) (ptrBlk v7) ∧ ((((List.length [(vint 0)] = 1 ∧ (8 : Nat) ≤ 1024) ∧ aMkS [(vint 0)] v5 v5 h9 fun v11 h12 =>
 SameB (some B) h9 h12 ∧ (Good prog J 31 [v1, v5] h12 fun v13 h14 =>
 SameB (some B) h9 h14 ∧ (Good prog J 32 [v10, v11, v13] h14 fun v15 h16 =>
 aExt v15 0 fun v17 =>
 aExt v15 1 fun v18 =>
 Hold (W prog J 61 h.length 5 (subC [1, 1, 1, 1] (codeOf f5)) (RG.p (RG.p (RG.p (RG.p (RG.p (RG.p (RG.p (RG.p (RG.p (RG.p (RG.p (RG.p (RG.p (RG.p (RG.p (RG.p (RG.p (RG.p (RG.p (RG.p (RG.p (RG.p (RG.mk (regs [a0]) []) 2 (Value.bool false)) 10 a0) 11 v1) 3 v1) 12 v1) 13 v3) 14 v1) 15 v5) 4 v7) 5 v5) 17 v10) 18 v5) 20 v1) 21 v5) 19 v11) 22 v13) 23 v15) 16 v15) 24 v17) 25 v18) 6 v17) 7 v18) h16 (contX pl5 prog J 61 h.length 5 ct5 [1, 1, 1, 1] (codeOf f5) [] (RetQ prog [.tmp 2] h.length K))))))) ∧ (Good prog J 31 [v1, v5] h9 fun v19 h20 =>
 SameB (some B) h9 h20 ∧ (((List.length [(vint 0)] = 1 ∧ (8 : Nat) ≤ 1024) ∧ aMkS [(vint 0)] v5 v5 h20 fun v21 h22 =>
 SameB (some B) h9 h22 ∧ (Good prog J 32 [v10, v21, v19] h22 fun v23 h24 =>
 aExt v23 0 fun v25 =>
 aExt v23 1 fun v26 =>
 Hold (W prog J 61 h.length 5 (subC [1, 1, 1, 1] (codeOf f5)) (RG.p (RG.p (RG.p (RG.p (RG.p (RG.p (RG.p (RG.p (RG.p (RG.p (RG.p (RG.p (RG.p (RG.p (RG.p (RG.p (RG.p (RG.p (RG.p (RG.p (RG.p (RG.p (RG.mk (regs [a0]) []) 2 (Value.bool false)) 10 a0) 11 v1) 3 v1) 12 v1) 13 v3) 14 v1) 15 v5) 4 v7) 5 v5) 17 v10) 18 v5) 20 v1) 21 v5) 22 v19) 19 v21) 23 v23) 16 v23) 24 v25) 25 v26) 6 v25) 7 v26) h24 (contX pl5 prog J 61 h.length 5 ct5 [1, 1, 1, 1] (codeOf f5) [] (RetQ prog [.tmp 2] h.length K)))))))))) := top_eq pok5 ct5 (by kernel_rfl)
theorem g5 (hJ : Closed prog main J) {a0 : Value} (hs : heapOk h → W prog J 61 h.length 5 (codeOf f5) (RG.mk (regs [a0]) []) h (RetQ prog [.tmp 2] h.length K)) : Good prog J 5 [a0] h K :=
  good_of_W hJ mixed at5 body5 (by kernel_rfl) (Nat.le_of_ble_eq_true rfl) hs
end
end Go.Proofs.Ythnccaajpdnndaa
namespace Go.Proofs.Ythnccaajpdnndaa
open Go.Conc Go.Proofs.Try
set_option maxRecDepth 100000
structure FineG (q p : Pas) : Prop where
  grass : p.grass ≤ q.grass
  bears : q.bears = p.bears
  dry : p.dry ≤ q.dry
  wet : p.wet ≤ q.wet
  stubble : q.stubble ≤ p.stubble
  sleep : q.sleep ≤ p.sleep
theorem FineG.refl {p : Pas} : FineG p p := ⟨Int.le_refl _, rfl, Int.le_refl _, Int.le_refl _, Int.le_refl _, Int.le_refl _⟩
theorem dayR_finer {q p : Pas} (G : FineG q p) (fp : pasOk p) {a b : Std} {m n : Int} {v w : Bool} (hv : w = true → v = true) (h : better a b) (o : StdOk p b) (hs : a.2 ≤ p.sleep) (hm : 0 ≤ m) (hmn : m ≤ n) : better (dayR q a m v) (dayR p b n w) := by
  obtain ⟨h1, h2⟩ := h
  obtain ⟨g1, g2, g3, g4, g5, g6⟩ := G
  obtain ⟨f1, f2, f3, f4, f5, f6⟩ := fp
  have hl : leftR b n ≤ leftR a m := by unfold leftR; omega
  have hb := leftR_bd o (by omega : 0 ≤ n)
  have ho := o.g
  have hsh : shortR q a m = true → shortR p b n = true := by
    unfold shortR
    rw [Bool.and_eq_true, Bool.and_eq_true, decide_eq_true_eq, decide_eq_true_eq, decide_eq_true_eq, decide_eq_true_eq]
    rintro ⟨x, y⟩
    exact ⟨by omega, by omega⟩
  have hg : 0 ≤ (if w = true then p.wet else p.dry) := by split <;> omega
  have hgq : (if w = true then p.wet else p.dry) ≤ (if v = true then q.wet else q.dry) := by
    cases w with
    | true => rw [if_pos rfl, if_pos (hv rfl)]; exact g4
    | false =>
      rw [if_neg (by decide)]
      split <;> omega
  unfold better dayR
  rw [g2]
  generalize (if w = true then p.wet else p.dry) = gr at *
  generalize (if v = true then q.wet else q.dry) = gq at *
  by_cases s1 : shortR q a m = true
  · rw [if_pos s1, if_pos (hsh s1)]
    dsimp only
    omega
  · rw [if_neg s1]
    by_cases s2 : shortR p b n = true
    · rw [if_pos s2]
      split
      · dsimp only; exact ⟨hl, by omega⟩
      · dsimp only
        exact ⟨by omega, hs⟩
    · rw [if_neg s2]
      by_cases ha : a.2 > 0
      · rw [if_pos ha, if_pos (by omega)]
        exact ⟨hl, by dsimp only; omega⟩
      · rw [if_neg ha]
        split
        · exact ⟨by dsimp only; omega, by dsimp only; omega⟩
        · exact ⟨by dsimp only; omega, h2⟩
def wetter (v w : List UInt8) : Prop := ∀ i, wetB (w.getD i 0) = true → wetB (v.getD i 0) = true
theorem wetter.refl {w : List UInt8} : wetter w w := fun _ h => h
theorem stdR_finer {q p : Pas} (G : FineG q p) (fp : pasOk p) (fq : pasOk q) {hs : List Int} {v w : List UInt8} (hv : wetter v w) (hh : headsOk hs) : ∀ k, better (stdR q hs v k) (stdR p hs w k)
  | 0 => ⟨G.grass, Int.le_refl _⟩
  | k + 1 => dayR_finer G fp (hv k) (stdR_finer G fp fq hv hh k) (stdR_ok fp hh k) (by have := stdR_sleep (heads := hs) (w := v) fq k; have := G.sleep; omega) (headsOk_getD hh k).1 (Int.le_refl _)
theorem hung_finer {q p : Pas} (G : FineG q p) (fp : pasOk p) (fq : pasOk q) {hs : List Int} {v w : List UInt8} (hv : wetter v w) (hh : headsOk hs) (k : Nat) (hx : hungAt q hs v k = true) : hungAt p hs w k = true := by
  have b := (stdR_finer G fp fq hv hh k).1
  unfold hungAt hungR at *
  rw [decide_eq_true_eq] at *
  omega
theorem starv_finer {q p : Pas} (G : FineG q p) (fp : pasOk p) (fq : pasOk q) {hs : List Int} {w : List UInt8} (hh : headsOk hs) (hx : starvR p hs w < 0) : starvR q hs w < 0 := by
  by_cases e : starvR q hs w < 0
  · exact e
  · unfold starvR at *
    obtain ⟨h1, h2, _⟩ := fstH_iff (show 0 ≤ fstH (hungAt q hs w) w.length by omega)
    have := fstH_pos (hung_finer G fp fq wetter.refl hh _ h2) h1
    omega
theorem stay_finer {q p : Pas} (G : FineG q p) (fp : pasOk p) (fq : pasOk q) {s : SkyR} {n fr dy : Int} (hn : 0 ≤ n ∧ n ≤ 40) (hx : stayB p s n fr dy = true) : stayB q s n fr dy = true := by
  unfold stayB fedB at *
  rw [List.all_eq_true] at *
  intro w hw
  have := hx w hw
  rw [decide_eq_true_eq] at *
  exact starv_finer G fp fq (stayH_ok hn) this
end Go.Proofs.Ythnccaajpdnndaa
namespace Go.Proofs.Ythnccaajpdnndaa
open Go.Conc Go.Proofs.Try
set_option maxRecDepth 100000
set_option maxHeartbeats 4000000
set_option linter.unusedVariables false
section
variable {main : Bool} {J : JT} {n0 : Nat} {h : List AObj} {K : Value → List AObj → Prop}
theorem at30 : prog.funcs[30]? = some f30 := by kernel_rfl
theorem body30 : f30.body = some (codeOf f30) := by kernel_rfl
def pl30 : Plans := []
def ct30 : Cuts := .go
theorem pok30 : plansOk prog pl30 (codeOf f30) = true := by kernel_rfl
theorem e30 {a0 a1 a2 : Value} : W prog J 30 h.length 30 (codeOf f30) (RG.mk (regs [a0, a1, a2]) []) h (RetQ prog [.tmp 6] h.length K) =
(Good prog J 26 [a0, a2] h fun v1 h2 =>
 Sem J 30 h.length 30 (subC [1, 1, 1, 0, 1, 0] (codeOf f30)) (RG.p (RG.p (RG.p (RG.p (RG.p (RG.p (RG.p (RG.mk (regs [a0, a1, a2]) []) 6 (Value.slice none 0 0)) 7 (Value.slice none 0 0)) 10 a0) 11 a2) 12 v1) 8 v1) 9 (vint 0)) h2 (contX pl30 prog J 30 h.length 30 ct30 [1, 1, 1, 0, 1, 0] (codeOf f30) [] (RetQ prog [.tmp 6] h.length K))) := top_eq pok30 ct30 (by kernel_rfl)
theorem g30 (hJ : Closed prog main J) {a0 a1 a2 : Value} (hs : heapOk h → W prog J 30 h.length 30 (codeOf f30) (RG.mk (regs [a0, a1, a2]) []) h (RetQ prog [.tmp 6] h.length K)) : Good prog J 30 [a0, a1, a2] h K :=
  good_of_W hJ mixed at30 body30 (by kernel_rfl) (Nat.le_of_ble_eq_true rfl) hs
theorem s30_1 {f : RG} {nx0 : RG → List AObj → Prop} : W prog J 30 n0 30 (subC [1, 1, 1, 0, 1, 0, 0] (codeOf f30)) f h (thenK nx0 (contX pl30 prog J 30 n0 30 ct30 [1, 1, 1, 0, 1, 0] (codeOf f30) [] (RetQ prog [.tmp 6] n0 K))) =
(aBin prog .lss 3 (f.r 9) (f.r 1) fun v1 =>
 cnd v1
(Good prog J 26 [(f.r 0), (f.r 2)] h fun v2 h3 =>
(((3 * 1 : Nat) ≤ 16777216 ∧ (3 : Nat) ≤ 16777216 ∧ List.length [(vint 0)] = 1) ∧ aFill (zrep [(vint 0)] 3) [(0, 1, (f.r 8)), (1, 1, (vint 0)), (2, 1, v2)] fun c4 =>
 aNewS 3 c4 h3 fun v5 h6 =>
 Good prog J 69 [(f.r 0), (f.r 8), v5] h6 fun v7 h8 =>
(((1 * 1 : Nat) ≤ 16777216 ∧ (1 : Nat) ≤ 16777216 ∧ List.length [(vint 0)] = 1) ∧ aFill (zrep [(vint 0)] 1) [(0, 1, v7)] fun c9 =>
 aNewS 1 c9 h8 fun v10 h11 =>
((List.length [(vint 0)] = 1 ∧ 0 < (1 : Nat) ∧ 0 < (8 : Nat) ∧ (8 : Nat) ≤ 1024) ∧ aApp 1 (f.r 7) v10 h11 fun v12 h13 =>
 aBin prog .add 3 (f.r 9) (vint 1) fun v14 =>
 nx0 (RG.p (RG.p (RG.p (RG.p (RG.p (RG.p (RG.p (RG.p (RG.p (RG.p (RG.p (RG.p (RG.p (RG.p (RG.p (RG.p (RG.p (RG.p f 13 (f.r 9)) 14 (f.r 1)) 15 v1) 18 (f.r 7)) 19 (f.r 0)) 20 (f.r 8)) 21 (f.r 8)) 22 (f.r 0)) 23 (f.r 2)) 24 v2) 25 v5) 26 v7) 27 v10) 28 v12) 7 v12) 16 (f.r 9)) 17 v14) 9 v14) h13))))
(retL n0 K f.ds [(f.r 7)] h)) := sub_eq pok30 ct30 (by kernel_rfl)
theorem l30_1 (hJ : Closed prog main J) {S : Type} (μ : S → Nat) (I : S → RG → List AObj → Prop) (hI : ∀ s f h, I s f h → heapOk h → n0 ≤ h.length → W prog J 30 n0 30 (subC [1, 1, 1, 0, 1, 0, 0] (codeOf f30)) f h (thenK (Nx n0 μ I s) (contX pl30 prog J 30 n0 30 ct30 [1, 1, 1, 0, 1, 0] (codeOf f30) [] (RetQ prog [.tmp 6] n0 K))))
  {s : S} {f : RG} (hi : Gets n0 I s f h) : Sem J 30 n0 30 (subC [1, 1, 1, 0, 1, 0] (codeOf f30)) f h (contX pl30 prog J 30 n0 30 ct30 [1, 1, 1, 0, 1, 0] (codeOf f30) [] (RetQ prog [.tmp 6] n0 K)) :=
  loop_rule hJ mixed (b := subC [1, 1, 1, 0, 1, 0, 0] (codeOf f30)) (by kernel_rfl) μ I hI hi
theorem at31 : prog.funcs[31]? = some f31 := by kernel_rfl
theorem body31 : f31.body = some (codeOf f31) := by kernel_rfl
def pl31 : Plans := []
def ct31 : Cuts := .go
theorem pok31 : plansOk prog pl31 (codeOf f31) = true := by kernel_rfl
theorem e31 {a0 a1 : Value} : W prog J 19 h.length 31 (codeOf f31) (RG.mk (regs [a0, a1]) []) h (RetQ prog [.tmp 4] h.length K) =
(Sem J 19 h.length 31 (subC [1, 1, 0, 1, 0] (codeOf f31)) (RG.p (RG.p (RG.p (RG.mk (regs [a0, a1]) []) 4 (Value.string { data := #[] })) 5 (Value.string { data := #[] })) 6 (vint 0)) h (contX pl31 prog J 19 h.length 31 ct31 [1, 1, 0, 1, 0] (codeOf f31) [] (RetQ prog [.tmp 4] h.length K))) := top_eq pok31 ct31 (by kernel_rfl)
theorem g31 (hJ : Closed prog main J) {a0 a1 : Value} (hs : heapOk h → W prog J 19 h.length 31 (codeOf f31) (RG.mk (regs [a0, a1]) []) h (RetQ prog [.tmp 4] h.length K)) : Good prog J 31 [a0, a1] h K :=
  good_of_W hJ mixed at31 body31 (by kernel_rfl) (Nat.le_of_ble_eq_true rfl) hs
theorem s31_1 {f : RG} {nx0 : RG → List AObj → Prop} : W prog J 19 n0 31 (subC [1, 1, 0, 1, 0, 0] (codeOf f31)) f h (thenK nx0 (contX pl31 prog J 19 n0 31 ct31 [1, 1, 0, 1, 0] (codeOf f31) [] (RetQ prog [.tmp 4] n0 K))) =
(aBin prog .lss 3 (f.r 6) (f.r 1) fun v1 =>
 cnd v1
(Good prog J 42 [(f.r 0), (vint 1), (vint 2)] h fun v2 h3 =>
 cnd v2
(aBin prog .add 9 (f.r 5) (Value.string { data := #[100] }) fun v4 =>
 aBin prog .add 3 (f.r 6) (vint 1) fun v5 =>
 nx0 (RG.p (RG.p (RG.p (RG.p (RG.p (RG.p (RG.p (RG.p (RG.p (RG.p (RG.p f 7 (f.r 6)) 8 (f.r 1)) 9 v1) 12 (f.r 0)) 13 v2) 14 (f.r 5)) 15 v4) 5 v4) 10 (f.r 6)) 11 v5) 6 v5) h3)
(aBin prog .add 9 (f.r 5) (Value.string { data := #[119] }) fun v6 =>
 aBin prog .add 3 (f.r 6) (vint 1) fun v7 =>
 nx0 (RG.p (RG.p (RG.p (RG.p (RG.p (RG.p (RG.p (RG.p (RG.p (RG.p (RG.p f 7 (f.r 6)) 8 (f.r 1)) 9 v1) 12 (f.r 0)) 13 v2) 16 (f.r 5)) 17 v6) 5 v6) 10 (f.r 6)) 11 v7) 6 v7) h3))
(retL n0 K f.ds [(f.r 5)] h)) := sub_eq pok31 ct31 (by kernel_rfl)
theorem l31_1 (hJ : Closed prog main J) {S : Type} (μ : S → Nat) (I : S → RG → List AObj → Prop) (hI : ∀ s f h, I s f h → heapOk h → n0 ≤ h.length → W prog J 19 n0 31 (subC [1, 1, 0, 1, 0, 0] (codeOf f31)) f h (thenK (Nx n0 μ I s) (contX pl31 prog J 19 n0 31 ct31 [1, 1, 0, 1, 0] (codeOf f31) [] (RetQ prog [.tmp 4] n0 K))))
  {s : S} {f : RG} (hi : Gets n0 I s f h) : Sem J 19 n0 31 (subC [1, 1, 0, 1, 0] (codeOf f31)) f h (contX pl31 prog J 19 n0 31 ct31 [1, 1, 0, 1, 0] (codeOf f31) [] (RetQ prog [.tmp 4] n0 K)) :=
  loop_rule hJ mixed (b := subC [1, 1, 0, 1, 0, 0] (codeOf f31)) (by kernel_rfl) μ I hI hi
theorem at42 : prog.funcs[42]? = some f42 := by kernel_rfl
theorem body42 : f42.body = some (codeOf f42) := by kernel_rfl
def pl42 : Plans := []
def ct42 : Cuts := .go
theorem pok42 : plansOk prog pl42 (codeOf f42) = true := by kernel_rfl
theorem e42 {a0 a1 a2 : Value} : W prog J 13 h.length 42 (codeOf f42) (RG.mk (regs [a0, a1, a2]) []) h (RetQ prog [.tmp 6] h.length K) =
(aBin prog .sub 3 a2 (vint 1) fun v1 =>
 Good prog J 26 [a0, v1] h fun v2 h3 =>
 aBin prog .lss 3 v2 a1 fun v4 =>
 retL h.length K [] [v4] h3) := top_eq pok42 ct42 (by kernel_rfl)
theorem g42 (hJ : Closed prog main J) {a0 a1 a2 : Value} (hs : heapOk h → W prog J 13 h.length 42 (codeOf f42) (RG.mk (regs [a0, a1, a2]) []) h (RetQ prog [.tmp 6] h.length K)) : Good prog J 42 [a0, a1, a2] h K :=
  good_of_W hJ mixed at42 body42 (by kernel_rfl) (Nat.le_of_ble_eq_true rfl) hs
end
end Go.Proofs.Ythnccaajpdnndaa
namespace Go.Proofs.Ythnccaajpdnndaa
open Go.Conc Go.Proofs.Try
set_option maxRecDepth 100000
section
variable {main : Bool} {J : JT} {h H : List AObj} {K : Value → List AObj → Prop} {KV : Value → Prop} {HL : List AObj → Prop} {n0 : Nat} {ns : List Int} {k : Nat}
theorem strAddR {c : UInt8} {u : List UInt8} {t : TypeId} (hu : u.length ≤ 1000000) (hk : KV (strV (u ++ [c]))) : aBin prog .add t (strV u) (Value.string { data := #[c] }) KV := by
  have hrm : (2000000 : Nat) < room := by decide
  show (ByteArray.mk ⟨u⟩).size + (ByteArray.mk #[c]).size ≤ room ∧ KV (.string (ByteArray.mk ⟨u⟩ ++ ByteArray.mk #[c]))
  have e1 : (ByteArray.mk #[c]).size = 1 := rfl
  have e2 : (ByteArray.mk ⟨u⟩).size = u.length := rfl
  have e3 : ByteArray.mk ⟨u⟩ ++ ByteArray.mk #[c] = ByteArray.mk ⟨u ++ [c]⟩ := by
    apply ByteArray.ext
    rw [ByteArray.data_append]
    apply Array.ext'
    rw [Array.toList_append]
  rw [e1, e2, e3]
  exact ⟨by omega, hk⟩
theorem good42 (hJ : Closed prog main J) (a : HX h H ns k) (hk : k < 900000) {x y : Int} (hy : -1000000 ≤ y ∧ y ≤ 1000000)
    (hK : ∀ b H', SameX [h.length] H H' → H'.length = H.length → HX h H' ns (k + 1) → K (.bool b) H') : Good prog J 42 [ptr h.length 0, vint x, vint y] H K := by
  refine g42 hJ fun ok => ?_
  rw [e42]
  refine subI (by omega) (upX hJ a (by omega) (by omega) fun u H1 u1 u2 S1 l1 a1 => lssI (retL_same (by simp [unk]) (hK _ H1 S1 l1 a1)))
theorem good30 (hJ : Closed prog main J) (a : HX h H ns k) (hk : k < 400000) {D : Nat} {m : Int} (hD : D ≤ 8) (hm : 0 ≤ m ∧ m ≤ 40)
    (hK : ∀ (xs : List Int) v o H', xs.length = D → (∀ x ∈ xs, 0 ≤ x ∧ x ≤ m) → SameX [h.length] H H' → HX h H' ns (k + 20) → OwnX H' 1 (xs.map vint) D v o → (∀ i, o = some i → H.length ≤ i) → K v H') : Good prog J 30 [ptr h.length 0, vint (D : Nat), vint m] H K := by
  refine g30 hJ fun ok => ?_
  rw [e30]
  have hlt := hxLt a
  refine upX hJ a (by omega) (by omega) fun u H1 u1 u2 S1 l1 a1 => ?_
  refine l30_1 hJ (fun i : Nat => D - i) (fun i F H' => i ≤ D ∧ (∃ xs v o, xs.length = i ∧ (∀ x ∈ xs, 0 ≤ x ∧ x ≤ m) ∧ OwnX H' 1 (xs.map vint) i v o ∧ (∀ j, o = some j → H.length ≤ j) ∧ F.r 7 = v) ∧ SameX [h.length] H H' ∧ HX h H' ns (k + 1 + 2 * i) ∧ F.ds = [] ∧ F.r 0 = ptr h.length 0 ∧ F.r 1 = vint (D : Nat) ∧ F.r 2 = vint m ∧ F.r 8 = vint u ∧ F.r 9 = vint (i : Nat)) ?_ (s := 0)
    (.inl ⟨Nat.zero_le _, ⟨[], _, none, rfl, by simp, ⟨rfl, rfl, .inl ⟨rfl, rfl, rfl⟩⟩, by simp, rfl⟩, S1, a1, rfl, rfl, rfl, rfl, rfl, rfl⟩)
  rintro i F H' ⟨hi, ⟨xs, v, o, hx, hxs, O, ho, r7⟩, S, b, ds, r0, r1, r2, r8, r9⟩ okc hnc
  rw [s30_1, r0, r1, r2, r7, r8, r9, ds]
  have hS := S.1
  refine lssI (cndI (fun hl => ?_) fun hge => ?_)
  · refine upX hJ b (by omega) (by omega) fun y H2 y1 y2 S2 l2 b2 => ⟨by decide, fillO (l := [vint u]) rfl rfl rfl (by decide) (fillO (l := [vint 0]) rfl rfl rfl (by rw [wrAt_length]; decide) (fillO (l := [vint y]) rfl rfl rfl (by rw [wrAt_length, wrAt_length]; decide) (fillI (qNew fun H3 p3 e3 S3 c3 l3 => ?_))))⟩
    have c3 : H3[p3]? = some (.cells (([u, 0, y] : List Int).map vint) true 0) := c3
    refine ofZ hJ (b2.same S3 (by simp)) (by omega) c3 (by omega) rfl (by simp) fun z H4 m4 S4 l4 b4 => ?_
    have hz : 0 ≤ z ∧ z ≤ m := by
      rcases m4 with e | e
      · omega
      · simp only [List.mem_cons, List.not_mem_nil, or_false] at e
        omega
    refine ⟨by decide, fillO (l := [vint z]) rfl rfl rfl (by decide) (fillI (qNew fun H5 p5 e5 S5 c5 l5 => ?_))⟩
    have S25 : SameX [h.length] H' H5 := ((S2.trans S3.weak0).trans S4).trans S5.weak0
    have T5 := S.trans S25
    have hno : ∀ j, o = some j → j ∉ [h.length] := fun j hj => by
      have := ho j hj
      simp
      omega
    refine ⟨by decide, ownX_more (ownX_keep O S25 hno) (by decide) (by omega) (e := [vint z]) ⟨_, _, rfl, ⟨rfl, rfl⟩, .inr ⟨p5, 0, rfl, .inr ⟨_, _, _, c5, rfl⟩⟩⟩ fun v' H6 p6 e6 O6 S6 => ?_⟩
    have h5 := T5.1
    refine addI (by omega) ⟨i + 1, by dsimp only; omega, .inl ⟨by omega, ⟨xs ++ [z], v', some p6, by simp [hx], ?_, by rw [List.map_append]; exact O6, fun j hj => by cases hj; omega, rfl⟩, T5.thru S6 fun y hy => .inr (ho y (by simpa using hy)), ?_, ds, r0, r1, r2, r8, by show vint _ = vint _; congr 1⟩⟩
    · intro x hxm
      rcases List.mem_append.1 hxm with e | e
      · exact hxs x e
      · rw [List.mem_singleton.1 e]
        exact hz
    · refine HX.mono (HX.same (HX.same b4 S5 (by simp)) S6 fun x hx => ?_) (by omega)
      have := ho x (by simpa using hx)
      omega
  · have : i = D := by omega
    subst this
    refine retL_same ?_ (hK xs v o H' hx hxs S (b.mono (by omega)) O ho)
    intro x hx
    rw [List.mem_singleton.1 hx]
    exact ownU O
theorem good31 (hJ : Closed prog main J) (a : HX h H ns k) (hk : k < 400000) {D : Nat} (hD : D ≤ 8)
    (hK : ∀ (w : List UInt8) H', w.length = D → (∀ c ∈ w, c = 100 ∨ c = 119) → SameX [h.length] H H' → HX h H' ns (k + 8) → K (strV w) H') : Good prog J 31 [ptr h.length 0, vint (D : Nat)] H K := by
  refine g31 hJ fun ok => ?_
  rw [e31]
  have hlt := hxLt a
  refine l31_1 hJ (fun i : Nat => D - i) (fun i F H' => i ≤ D ∧ (∃ w, w.length = i ∧ (∀ c ∈ w, c = 100 ∨ c = 119) ∧ F.r 5 = strV w) ∧ SameX [h.length] H H' ∧ HX h H' ns (k + i) ∧ F.ds = [] ∧ F.r 0 = ptr h.length 0 ∧ F.r 1 = vint (D : Nat) ∧ F.r 6 = vint (i : Nat)) ?_ (s := 0)
    (.inl ⟨Nat.zero_le _, ⟨[], rfl, by simp, rfl⟩, SameX.refl, a, rfl, rfl, rfl, rfl⟩)
  rintro i F H' ⟨hi, ⟨w, hw, hc, r5⟩, S, b, ds, r0, r1, r6⟩ okc hnc
  rw [s31_1, r0, r1, r5, r6, ds]
  refine lssI (cndI (fun hl => ?_) fun hge => ?_)
  · have more : ∀ {c : UInt8}, (c = 100 ∨ c = 119) → ∀ d ∈ w ++ [c], d = 100 ∨ d = 119 := fun {c} h d hd => by
      rcases List.mem_append.1 hd with e | e
      · exact hc d e
      · rw [List.mem_singleton.1 e]
        exact h
    refine good42 hJ b (by omega) (by omega) fun z H2 S2 l2 b2 => cndB (fun _ => ?_) fun _ => ?_
    · exact strAddR (by omega) (addI (by omega) ⟨i + 1, by dsimp only; omega, .inl ⟨by omega, ⟨w ++ [100], by simp [hw], more (.inl rfl), rfl⟩, S.trans S2, b2, ds, r0, r1, by show vint _ = vint _; congr 1⟩⟩)
    · exact strAddR (by omega) (addI (by omega) ⟨i + 1, by dsimp only; omega, .inl ⟨by omega, ⟨w ++ [119], by simp [hw], more (.inr rfl), rfl⟩, S.trans S2, b2, ds, r0, r1, by show vint _ = vint _; congr 1⟩⟩)
  · have : i = D := by omega
    subst this
    exact retL_same (by simp [unk, strV]) (hK w H' hw hc S (b.mono (by omega)))
end
theorem ask_ok {p : Pas} {heads : List Int} {w : List UInt8} (f : pasOk p) (hw : 1 ≤ w.length ∧ w.length ≤ 8) (hl : heads.length = w.length) (hh : headsOk heads) (ho : wordOk w) : askE p heads w = 0 := by
  have e1 : cntE (w.length : Nat) 1 8 = 0 := by
    unfold cntE
    rw [if_neg (by omega), if_neg (by omega)]
  have e2 : fst2 (pasE p) (cntE (w.length : Nat) 1 8) = 0 := by
    unfold pasE
    rw [if_pos f, e1]
    rfl
  have e3 : hunE heads (w.length : Nat) = 0 := by
    unfold hunE
    have e4 : cntE (heads.length : Nat) (w.length : Nat) (w.length : Nat) = 0 := by
      unfold cntE
      rw [if_neg (by omega), if_neg (by omega)]
    have hq : ∀ n ∈ heads, 0 ≤ n ∧ n ≤ 40 := hh
    rw [if_neg (not_not_intro e4), if_pos hq]
  unfold askE
  rw [if_neg (not_not_intro e2), if_neg (not_not_intro e3), if_pos ho]
theorem endsZ_get {p : Pas} {hs : List Int} {w : List UInt8} {k i : Nat} (h : i < k) : (endsZ p hs w k)[i]? = some (stdR p hs w (i + 1)).1 := by
  unfold endsZ
  rw [List.getElem?_map, List.getElem?_range h]
  rfl
section
variable {W0 : World} {Post : Value → World → Prop} {h : List AObj} {K : Value → List AObj → Prop}
set_option maxHeartbeats 1000000 in
theorem walk4 {nv : Value} {ns : List Int} (sn : Sli h nv 1 ns.length (ns.map vint)) (hln : ns.length < 4611686018427387904) (hK : ∀ H', K (.bool true) H') :
    W prog (J2 prog W0 Post) 139 h.length 4 (codeOf f4) (RG.mk (regs [nv]) []) h (RetQ prog [.tmp 2] h.length K) := by
  have hJ := J2.closed prog W0 Post
  rw [e4]
  refine newX hJ sn hln fun H1 a1 => good24 hJ a1 (by omega) fun p H2 fp pb S2 a2 => good25 hJ a2 (by omega) (by decide) fun s H3 gs hs7 S3 a3 => ?_
  obtain ⟨g1, g2, g3⟩ := id gs
  obtain ⟨y1, y2, y3, y4, y5, y6⟩ := id fp
  refine qAl fun H4 p4 e4 S4 c4 l4 => qAl fun H5 p5 e5 S5 c5 l5 => ?_
  have l3 := hxLt a3
  refine qStA (c := p.cells) (S5.get c4 (by simp)) rfl rfl rfl fun H6 S6 c6 l6 => qStA (c := s.cells) (S6.get c5 (by simp; omega)) rfl rfl rfl fun H7 S7 c7 l7 => ?_
  have c67 := S7.get c6 (by simp; omega)
  refine load_part (c := p.cells) c67 (by simp [Pas.cells]) rfl rfl ?_
  refine qAl fun H8 p6 e6 S8 c8 l8 => qStA (c := p.cells) c8 rfl rfl rfl fun H9 S9 c9 l9 => ?_
  have T37 : SameX [] H3 H7 := ((S4.trans S5).thru S6 (by simp; omega)).thru S7 (by simp; omega)
  have T39 : SameX [] H3 H9 := (T37.trans S8).thru S9 (by simp; omega)
  have a9 := HX.same a3 T39 (by simp)
  have k4 := S9.get (S8.get c67 (by simp)) (by simp; omega)
  have k5 := S9.get (S8.get c7 (by simp)) (by simp; omega)
  have b4 := lt_of_get k4
  have b5 := lt_of_get k5
  obtain ⟨n, hn⟩ := Int.eq_ofNat_of_zero_le (by omega : (0 : Int) ≤ s.days)
  -- behind the two lists of ends
  have st4 : ∀ {F : RG} {H' : List AObj} {q : Pas} {xs : List Int} {w : List UInt8} {va vb : Value}, FineG q p → pasOk q → headsOk xs → H'[p4]? = some (.cells p.cells true 0) → H'[p5]? = some (.cells s.cells true 0) → H'[p6]? = some (.cells q.cells true 0) → F.ds = [] → F.r 4 = ptr p4 0 → F.r 5 = ptr p5 0 → F.r 6 = ptr p6 0 → F.r 9 = va → F.r 11 = vb → F.r 93 = .bool false →
      Sli H' va 1 (endsZ p xs w n).length ((endsZ p xs w n).map vint) → Sli H' vb 1 (endsZ q xs w n).length ((endsZ q xs w n).map vint) →
      W prog (J2 prog W0 Post) 139 h.length 4 (subC [1, 1, 1, 1, 1, 1, 1, 1, 1, 0, 1] (codeOf f4)) F H' (contX pl4 prog (J2 prog W0 Post) 139 h.length 4 ct4 [1, 1, 1, 1, 1, 1, 1, 1, 1, 0, 1] (codeOf f4) [] (RetQ prog [.tmp 2] h.length K)) := by
    intro F H' q xs w va vb G fq hh d4 d5 d6 ds r4 r5 r6 r9 r11 r93 sa sb
    rw [s4_4, r93]
    refine cnd_false.2 ?_
    refine l4_5 hJ (fun i : Nat => n - i) (fun i F H2 => i ≤ n ∧ H2 = H' ∧ F.ds = [] ∧ F.r 4 = ptr p4 0 ∧ F.r 5 = ptr p5 0 ∧ F.r 6 = ptr p6 0 ∧ F.r 9 = va ∧ F.r 11 = vb ∧ F.r 13 = vint (i : Nat)) ?_ (s := 0)
      (.inl ⟨Nat.zero_le _, rfl, ds, r4, r5, r6, r9, r11, rfl⟩)
    clear ds r4 r5 r6 r9 r11 r93
    rintro i F H2 ⟨hi, rfl, ds, r4, r5, r6, r9, r11, r13⟩ okc hnc
    rw [s4_5, r4, r5, r6, r9, r11, r13, ds]
    refine offI (ldI (v := vint s.days) d5 rfl rfl (lssI (cndI (fun hl => ?_) fun _ => ?_)))
    · have ga := endsZ_get (p := p) (hs := xs) (w := w) (k := n) (i := i) (by omega)
      have gb := endsZ_get (p := q) (hs := xs) (w := w) (k := n) (i := i) (by omega)
      have le := (stdR_finer G fp fq wetter.refl hh (i + 1) (w := w)).1
      exact sliN sb gb fun q1 => sliN sa ga fun q2 => lssI (cndI (fun h => absurd h (by omega)) fun _ => addI (by omega) ⟨i + 1, by dsimp only; omega, .inl ⟨by omega, rfl, ds, r4, r5, r6, r9, r11, by show vint _ = vint _; congr 1⟩⟩)
    · refine load_part (c := p.cells) d4 (by simp [Pas.cells]) rfl rfl (load_part (c := s.cells) d5 (by simp [SkyR.cells]) rfl rfl (offI (ldI (v := vint s.days) d5 rfl rfl ?_)))
      refine good33 hJ fun H10 S10 => ext0 (ext1 ?_)
      refine load_part (c := q.cells) (S10.get d6 (by simp)) (by simp [Pas.cells]) rfl rfl (load_part (c := s.cells) (S10.get d5 (by simp)) (by simp [SkyR.cells]) rfl rfl (offI (ldI (v := vint s.days) (S10.get d5 (by simp)) rfl rfl ?_)))
      refine good33 hJ fun H11 S11 => ext0 (ext1 ?_)
      rw [head_ok fp gs (by omega) (by omega), head_ok fq gs (by omega) (by omega), head_is fp gs (by omega) (by omega), head_is fq gs (by omega) (by omega)]
      have mono : topH (fun n => stayB p s n 0 s.days) 40 ≤ topH (fun n => stayB q s n 0 s.days) 40 := topH_mono fun k hk hx => stay_finer G fp fq (by omega) hx
      exact eqlI (cndI (fun _ => eqlI (cndI (fun _ => geqI (cndI (fun _ => good21 fun H13 _ => retL_same (by simp [unk]) (hK H13)) fun h => absurd (by omega) h)) fun h => absurd rfl h)) fun h => absurd rfl h)
  -- the ends
  have st3 : ∀ {F : RG} {H' : List AObj} {q : Pas} {xs : List Int} {w : List UInt8} {hv : Value}, FineG q p → pasOk q → headsOk xs → xs.length = n → w.length = n → (∀ c ∈ w, c = 100 ∨ c = 119) → Sli H' hv 1 xs.length (xs.map vint) → H'[p4]? = some (.cells p.cells true 0) → H'[p5]? = some (.cells s.cells true 0) → H'[p6]? = some (.cells q.cells true 0) → F.ds = [] → F.r 4 = ptr p4 0 → F.r 5 = ptr p5 0 → F.r 6 = ptr p6 0 → F.r 7 = hv → F.r 8 = strV w →
      W prog (J2 prog W0 Post) 139 h.length 4 (subC [1, 1, 1, 1, 1, 1, 1] (codeOf f4)) F H' (contX pl4 prog (J2 prog W0 Post) 139 h.length 4 ct4 [1, 1, 1, 1, 1, 1, 1] (codeOf f4) [] (RetQ prog [.tmp 2] h.length K)) := by
    intro F H' q xs w hv G fq hh hx hw hc sv d4 d5 d6 ds r4 r5 r6 r7 r8
    rw [s4_3, r4, r5, r6, r7, r8]
    have zp : askE p xs w = 0 := ask_ok fp (by omega) (by omega) hh hc
    have zq : askE q xs w = 0 := ask_ok fq (by omega) (by omega) hh hc
    refine load_part (c := p.cells) d4 (by simp [Pas.cells]) rfl rfl ?_
    refine good32 hJ sv (by omega) (by omega) (fun h => absurd zp h) fun _ H8 va S8 sa => ext0 (ext1 ?_)
    refine load_part (c := q.cells) (S8.get d6 (by simp)) (by simp [Pas.cells]) rfl rfl ?_
    refine good32 hJ (S8.sli sv (by simp)) (by omega) (by omega) (fun h => absurd zq h) fun _ H9 vb S9 sb => ext0 (ext1 ?_)
    have S89 := S8.trans S9
    have ez : ∀ {H' : List AObj} {q : Pas} {v : Value}, Sli H' v 1 w.length ((endsZ q xs w w.length).map vint) → Sli H' v 1 (endsZ q xs w n).length ((endsZ q xs w n).map vint) := fun {H' q v} sv => by
      rw [hw] at sv
      rw [endsZ_len]
      exact sv
    have sa' := S9.sli (ez sa) (by simp)
    have sb' := ez sb
    have d59 := S89.get d5 (by simp)
    refine neqI (cndI (fun h => absurd rfl h) fun _ => neqI (cndI (fun h => absurd rfl h) fun _ => lenI sa' (offI (ldI (v := vint s.days) d59 rfl rfl (neqI (cndI (fun h => absurd (by rw [endsZ_len, hn]) h) fun _ => lenI sb' (offI (ldI (v := vint s.days) d59 rfl rfl (neqI (hold.2 ?_)))))))))) 
    exact st4 G fq hh (S89.get d4 (by simp)) d59 (S89.get d6 (by simp)) ds r4 r5 r6 rfl rfl (congrArg Value.bool (decide_eq_false (by rw [endsZ_len, hn]; simp))) sa' sb'
  -- heads and a rain
  have st2 : ∀ {F : RG} {H' : List AObj} {q : Pas}, FineG q p → pasOk q → HX h H' ns 900 → H'[p4]? = some (.cells p.cells true 0) → H'[p5]? = some (.cells s.cells true 0) → H'[p6]? = some (.cells q.cells true 0) → F.ds = [] → F.r 3 = ptr h.length 0 → F.r 4 = ptr p4 0 → F.r 5 = ptr p5 0 → F.r 6 = ptr p6 0 →
      W prog (J2 prog W0 Post) 139 h.length 4 (subC [1, 1, 1, 1, 1, 1] (codeOf f4)) F H' (contX pl4 prog (J2 prog W0 Post) 139 h.length 4 ct4 [1, 1, 1, 1, 1, 1] (codeOf f4) [] (RetQ prog [.tmp 2] h.length K)) := by
    intro F H' q G fq a d4 d5 d6 ds r3 r4 r5 r6
    rw [s4_2, r3, r5]
    have q4 := lt_of_get d4
    have q5 := lt_of_get d5
    have q6 := lt_of_get d6
    refine ⟨[p5], offI (ldI (v := vint s.days) d5 rfl rfl ⟨by simp [RdOk, ptr, ptrBlk], offI (ldI (v := vint s.days) d5 rfl rfl ⟨by simp [RdOk, ptr, ptrBlk], ?_⟩)⟩)⟩
    rw [hn]
    refine good30 hJ a (by omega) (by omega) (by omega) fun xs hv o H8 hx hxs S8 a8 O8 ho => ⟨sbOne S8 q5 (by simp; omega), ?_⟩
    refine good31 hJ a8 (by omega) (by omega) fun w H10 hw hc S10 a10 => ⟨sbOne (S8.trans S10) q5 (by simp; omega), hold.2 ?_⟩
    have S := S8.trans S10
    have no : ∀ i, o = some i → i ∉ [h.length] := fun i hi => by
      have := ho i hi
      have := hxLt a
      simp
      omega
    have hh : headsOk xs := fun x hx => ⟨(hxs x hx).1, by have := (hxs x hx).2; omega⟩
    have sv := ownX_sli (ownX_keep O8 S10 no)
    rw [← hx] at sv
    exact st3 G fq hh hx hw hc sv (S.get d4 (by simp; omega)) (S.get d5 (by simp; omega)) (S.get d6 (by simp; omega)) ds r4 r5 r6 rfl rfl
  -- growth, sleep, stubble
  have st1 : ∀ {F : RG} {H' : List AObj} {g w : Int}, p.grass ≤ g ∧ g ≤ p.bears → p.wet ≤ w ∧ w ≤ 9 → HX h H' ns 800 → H'[p4]? = some (.cells p.cells true 0) → H'[p5]? = some (.cells s.cells true 0) → H'[p6]? = some (.cells (⟨g, p.bears, p.dry, w, p.stubble, p.sleep⟩ : Pas).cells true 0) → F.ds = [] → F.r 3 = ptr h.length 0 → F.r 4 = ptr p4 0 → F.r 5 = ptr p5 0 → F.r 6 = ptr p6 0 →
      W prog (J2 prog W0 Post) 139 h.length 4 (subC [1, 1, 1, 1, 1] (codeOf f4)) F H' (contX pl4 prog (J2 prog W0 Post) 139 h.length 4 ct4 [1, 1, 1, 1, 1] (codeOf f4) [] (RetQ prog [.tmp 2] h.length K)) := by
    intro F H' g w hg hw a d4 d5 d6 ds r3 r4 r5 r6
    rw [s4_1, r3, r4, r6]
    have q4 := lt_of_get d4
    have q5 := lt_of_get d5
    have q6 := lt_of_get d6
    refine ⟨[p4, p6], offI (ldI (v := vint p.dry) d4 rfl rfl ⟨by simp [RdOk, ptr, ptrBlk], offI (ldI (v := vint w) d6 rfl rfl ⟨by simp [RdOk, ptr, ptrBlk], offI (ldI (v := vint p.sleep) d4 rfl rfl ⟨by simp [RdOk, ptr, ptrBlk], offI (ldI (v := vint p.stubble) d4 rfl rfl ⟨by simp [RdOk, ptr, ptrBlk], ?_⟩)⟩)⟩)⟩)⟩
    refine amX hJ a (by omega) (by omega) (by omega) fun dr H10 d0 d1 S10 l10 a10 => ⟨sbTwo S10 q4 q6 (by simp; omega) (by simp; omega), offI ?_⟩
    refine upX hJ a10 (by omega) (by omega) fun sl H11 s0 s1 S11 l11 a11 => ⟨sbTwo (S10.trans S11) q4 q6 (by simp; omega) (by simp; omega), ?_⟩
    refine upX hJ a11 (by omega) (by omega) fun sb H12 t0 t1 S12 l12 a12 => ?_
    have S := (S10.trans S11).trans S12
    refine qSt (S.get d6 (by simp; omega)) (by simp [Pas.cells]) rfl rfl fun H13 S13 c13 l13 => offI (qSt c13 (by simp [Pas.cells]) rfl rfl fun H14 S14 c14 l14 => offI (qSt c14 (by simp [Pas.cells]) rfl rfl fun H15 S15 c15 l15 => hold.2 ?_))
    have c15 : H15[p6]? = some (.cells (⟨g, p.bears, dr, w, sb, sl⟩ : Pas).cells true 0) := c15
    have T : SameX [p6] H12 H15 := (S13.trans S14).trans S15
    have G : FineG ⟨g, p.bears, dr, w, sb, sl⟩ p := ⟨hg.1, rfl, d0, hw.1, by dsimp only; omega, by dsimp only; omega⟩
    have fq : pasOk ⟨g, p.bears, dr, w, sb, sl⟩ := by
      unfold pasOk
      dsimp only
      omega
    exact st2 G fq ((HX.same a12 T (by simp; omega)).mono (by omega)) (T.get (S.get d4 (by simp; omega)) (by simp; omega)) (T.get (S.get d5 (by simp; omega)) (by simp; omega)) c15 ds r3 r4 r5 r6
  refine ⟨[p4], offI (ldI (v := vint p.grass) k4 rfl rfl ⟨by simp [RdOk, ptr, ptrBlk], offI (ldI (v := vint p.bears) k4 rfl rfl ⟨by simp [RdOk, ptr, ptrBlk], offI (ldI (v := vint p.wet) k4 rfl rfl ⟨by simp [RdOk, ptr, ptrBlk], ?_⟩)⟩)⟩)⟩
  refine amX hJ a9 (by omega) (by omega) (by omega) fun g H10 d0 d1 S10 l10 a10 => ⟨sbOne S10 b4 (by simp; omega), offI ?_⟩
  refine amX hJ a10 (by omega) (by omega) (by omega) fun w H11 w0 w1 S11 l11 a11 => ?_
  have S := S10.trans S11
  refine qSt (S.get c9 (by simp; omega)) (by simp [Pas.cells]) rfl rfl fun H12 S12 c12 l12 => offI (qSt c12 (by simp [Pas.cells]) rfl rfl fun H13 S13 c13 l13 => hold.2 ?_)
  have c13 : H13[p6]? = some (.cells (⟨g, p.bears, p.dry, w, p.stubble, p.sleep⟩ : Pas).cells true 0) := c13
  have T : SameX [p6] H11 H13 := S12.trans S13
  exact st1 ⟨d0, by omega⟩ ⟨w0, by omega⟩ ((HX.same a11 T (by simp; omega)).mono (by omega)) (T.get (S.get k4 (by simp; omega)) (by simp; omega)) (T.get (S.get k5 (by simp; omega)) (by simp; omega)) c13 rfl rfl rfl rfl rfl
end
end Go.Proofs.Ythnccaajpdnndaa
namespace Go.Proofs.Ythnccaajpdnndaa
open Go.Conc Go.ChangeShapes Go.WideShapes Go.ChangeAt Go.RowKit Go.Proofs.Try
set_option maxRecDepth 100000
theorem lifted4 (os : Os) (started : os.Started) (H : Type) (enc : TypeId × Value → H) :
    ReturnsInLeavingWide {} checked os 4 .any (Rows.grassBetterSpec.pre6 enc prog f4 Rows.grassBetterRow.domain false) (Rows.grassBetterSpec.post enc prog f4 false true false false) := by
  refine returnsInLeavingWide_of_change_sized (C := checked) own started at4
    (ChangeSpec.witness6 (enc := enc) (C := checked) false ⟨#[], #[.slice none 0 0], []⟩ 8 (by kernel_rfl) (by kernel_rfl) (by kernel_rfl) (by kernel_rfl)) ?_
  intro W base args ds gs before hval0 hW _ hsz0 _
  have hsz : (DataW.weightsEach prog (f4.params.toList ++ Rows.grassBetterSpec.plain.varTypes prog) (ds ++ gs)).all (· ≤ reachBytes) = true := hsz0
  clear hsz0
  have hval : ∀ (j : Nat) t v, f4.params[j]? = some t → args[j]? = some v → Value.okWide prog W .any base t v := hval0
  have hW' := hW
  obtain ⟨p, q, hA0, hV, rfl, _, _⟩ := hW
  have hA : DataW.TrodAll enc prog W 0 (fun _ => true) true f4.params.toList args.toList ds p := hA0
  have hps : f4.params = #[25] := by kernel_rfl
  rw [hps] at hA hval hsz
  obtain ⟨v0, d0, rfl, rfl, h0⟩ := trodAll_one hA
  obtain ⟨rfl, rfl⟩ := trodVars_none hV
  have u3 : prog.underlying 3 = some (.int .i64) := by kernel_rfl
  have u27 : prog.underlying 25 = some (.slice 3) := by kernel_rfl
  have u4 : prog.underlying 4 = some .bool := by kernel_rfl
  have c3 : prog.cellsOf 3 = 1 := by kernel_rfl
  have b3 : prog.bytesOf 3 = 8 := by kernel_rfl
  have hlt : ∀ x ∈ p, x.block < W.heap.size := fun x hx => by simpa using hW'.lt x (by simpa using hx)
  have hargs : ∀ (W' : World), Below W.heap.size W W' → DataW.TrodAll enc prog W' 0 (fun b => decide (b < W.heap.size)) true [25] [v0] [d0] p := fun W' hn =>
    trodAll_mk1 (Below.trod laidOut (by kernel_rfl) (of_decide_eq_true (by kernel_rfl)) h0 hn hlt)
  obtain ⟨ns, sn, ok2, hbig⟩ := arg_ints u27 u3 c3 (hval 0 25 v0 rfl rfl) h0
  have hln : ns.length < 4611686018427387904 := by
    rcases hbig with rfl | ⟨es, sp, rfl, hle⟩
    · simp
    · have := sized_slice hsz (j := 0) (t := 25) (e := 3) rfl rfl u27
      rw [b3] at this
      simp only [reachBytes] at this
      omega
  obtain ⟨M, last, o, w', t', r1, r2, r3, r4⟩ := law_run2 (g := 4) (fn := f4) at4 body4 (by kernel_rfl) W [v0] (Nat.le_of_ble_eq_true (by kernel_rfl : Nat.ble 1 f4.ntmps = true))
    (by
      intro v hv
      simp only [List.mem_cons, List.not_mem_nil, or_false] at hv
      subst hv
      exact ok2)
    (fun Post => walk4 (K := fun v _ => v = .bool true) sn hln fun _ => rfl)
  refine ⟨M, last, o, w', t', r1, r2, r3, r4.mono fun v hF => ?_⟩
  obtain ⟨rfl, hbelow⟩ := hF
  refine ⟨_, _, _, [], _, [], hW', ?_, hargs _ hbelow, by rfl, hbelow.frame _, fun h => by cases h⟩
  exact trodAll_mk1 (shut_bool u4 true)
theorem grassBetter_holds : Rows.GrassBetterSaid :=
  OpenClaim.holds_of_wide_leaving 4 f4 rfl rfl rfl rfl rfl rfl rfl ⟨rfl, rfl, rfl, rfl, rfl⟩ rfl rfl rfl rfl rfl (by kernel_rfl) at4 (by kernel_rfl)
    (of_decide_eq_true (by kernel_rfl)) (by unfold Func.isWrapper; first | (rw [if_pos (by decide +kernel)]; kernel_rfl) | (rw [if_neg (by decide +kernel)]; exact ⟨rfl, rfl⟩))
    (fun os started H enc _ => lifted4 os started H enc)
#print axioms grassBetter_holds
end Go.Proofs.Ythnccaajpdnndaa
