/- GrassHungry answers true at every input, and its argument reads behind the call as it read before. No conditions. -/
import Derived.Test.YthnccaajpdnndaaK3
import Derived.Test.YthnccaajpdnndaaK2
import Derived.Test.YthnccaajpdnndaaK5
import Derived.Test.YthnccaajpdnndaaK6
namespace Go.Proofs.Ythnccaajpdnndaa
open Go.Conc Go.Proofs.Try
set_option maxRecDepth 100000
set_option maxHeartbeats 4000000
set_option linter.unusedVariables false
section
variable {main : Bool} {J : JT} {n0 : Nat} {h : List AObj} {K : Value → List AObj → Prop}
theorem at20 : prog.funcs[20]? = some f20 := by kernel_rfl
theorem body20 : f20.body = some (codeOf f20) := by kernel_rfl
def pl20 : Plans := [(9, true, .take 0 (.take 1 (.take 2 (.take 3 (.take 4 (.fin)))))),
  (13, true, .take 0 (.take 1 (.take 2 (.take 3 (.take 4 (.take 5 (.last 6 false (.take 7 (.take 8 (.take 9 (.take 10 (.take 11 (.fin))))))))))))),
  (19, true, .take 0 (.take 1 (.take 2 (.take 3 (.take 4 (.take 5 (.take 6 (.take 7 (.take 8 (.fin))))))))))]
def ct20 : Cuts := .bin (.go) (.bin (.go) (.bin (.go) (.bin (.go) (.bin (.go) (.bin (.go) (.bin (.go) (.bin (.bin (.go) (.cut (.go))) (.go))))))))
theorem pok20 : plansOk prog pl20 (codeOf f20) = true := by kernel_rfl
theorem e20 {a0 : Value} : W prog J 145 h.length 20 (codeOf f20) (RG.mk (regs [a0]) []) h (RetQ prog [.tmp 2] h.length K) =
(Good prog J 22 [a0] h fun v1 h2 =>
 Good prog J 24 [v1] h2 fun v3 h4 =>
 Good prog J 25 [v1, (vint 7)] h4 fun v5 h6 =>
 aAlloc [(vint 0), (vint 0), (vint 0), (vint 0), (vint 0), (vint 0)] h6 fun v7 h8 =>
 aAlloc [(vint 0), (vint 0), (vint 0)] h8 fun v9 h10 =>
 aStore 6 v7 v3 h10 fun h11 =>
 aStore 3 v9 v5 h11 fun h12 =>
 aOff v9 0 fun v13 =>
 aLoad false 1 v13 h12 fun v14 =>
 Good prog J 30 [v1, v14, (vint 12)] h12 fun v15 h16 =>
 aLoad true 6 v7 h16 fun v17 =>
 aLoad true 3 v9 h16 fun v18 =>
 Good prog J 49 [v17, v15, v18] h16 fun v19 h20 =>
 aExt v19 0 fun v21 =>
 aExt v19 1 fun v22 =>
 aLoad true 6 v7 h20 fun v23 =>
 aLoad true 3 v9 h20 fun v24 =>
 Good prog J 51 [v23, v15, v24] h20 fun v25 h26 =>
 aExt v25 0 fun v27 =>
 aExt v25 1 fun v28 =>
 aExt v25 2 fun v29 =>
 aLoad true 3 v9 h26 fun v30 =>
 Good prog J 34 [v30] h26 fun v31 h32 =>
 aExt v31 0 fun v33 =>
 aExt v31 1 fun v34 =>
 aBin prog .neq 37 v22 (vint 0) fun v35 =>
 cnd v35
(Hold (W prog J 145 h.length 20 (subC [1, 1, 1, 1, 1, 1, 1, 0, 1] (codeOf f20)) (RG.p (RG.p (RG.p (RG.p (RG.p (RG.p (RG.p (RG.p (RG.p (RG.p (RG.p (RG.p (RG.p (RG.p (RG.p (RG.p (RG.p (RG.p (RG.p (RG.p (RG.p (RG.p (RG.p (RG.p (RG.p (RG.p (RG.p (RG.p (RG.p (RG.p (RG.p (RG.p (RG.p (RG.p (RG.p (RG.p (RG.p (RG.p (RG.p (RG.p (RG.p (RG.p (RG.p (RG.p (RG.p (RG.p (RG.p (RG.p (RG.p (RG.p (RG.p (RG.p (RG.p (RG.p (RG.p (RG.p (RG.p (RG.p (RG.mk (regs [a0]) []) 2 (Value.bool false)) 20 a0) 21 v1) 3 v1) 22 v1) 23 v3) 24 v1) 25 v5) 4 v7) 5 v9) 26 v1) 27 v13) 28 v14) 29 v15) 6 v15) 31 v17) 32 v15) 33 v18) 34 v19) 30 v19) 35 v21) 36 v22) 7 v21) 8 v22) 38 v23) 39 v15) 40 v24) 41 v25) 37 v25) 42 v27) 43 v28) 44 v29) 9 v27) 10 v28) 11 v29) 46 v30) 47 v31) 45 v31) 48 v33) 49 v34) 12 v33) 13 v34) 50 v22) 51 v35) 52 v35) 52 (Value.bool true)) 53 undef) 54 undef) 55 (Value.bool true)) 56 (Value.bool true)) 56 (Value.bool true)) 57 undef) 58 undef) 59 undef) 60 undef) 61 undef) 62 undef) 63 (Value.bool true)) h32 (contX pl20 prog J 145 h.length 20 ct20 [1, 1, 1, 1, 1, 1, 1, 0, 1] (codeOf f20) [] (RetQ prog [.tmp 2] h.length K))))
(aBin prog .neq 37 v34 (vint 0) fun v36 =>
 cnd v36
(Hold (W prog J 145 h.length 20 (subC [1, 1, 1, 1, 1, 1, 1, 0, 1] (codeOf f20)) (RG.p (RG.p (RG.p (RG.p (RG.p (RG.p (RG.p (RG.p (RG.p (RG.p (RG.p (RG.p (RG.p (RG.p (RG.p (RG.p (RG.p (RG.p (RG.p (RG.p (RG.p (RG.p (RG.p (RG.p (RG.p (RG.p (RG.p (RG.p (RG.p (RG.p (RG.p (RG.p (RG.p (RG.p (RG.p (RG.p (RG.p (RG.p (RG.p (RG.p (RG.p (RG.p (RG.p (RG.p (RG.p (RG.p (RG.p (RG.p (RG.p (RG.p (RG.p (RG.p (RG.p (RG.p (RG.p (RG.p (RG.p (RG.p (RG.mk (regs [a0]) []) 2 (Value.bool false)) 20 a0) 21 v1) 3 v1) 22 v1) 23 v3) 24 v1) 25 v5) 4 v7) 5 v9) 26 v1) 27 v13) 28 v14) 29 v15) 6 v15) 31 v17) 32 v15) 33 v18) 34 v19) 30 v19) 35 v21) 36 v22) 7 v21) 8 v22) 38 v23) 39 v15) 40 v24) 41 v25) 37 v25) 42 v27) 43 v28) 44 v29) 9 v27) 10 v28) 11 v29) 46 v30) 47 v31) 45 v31) 48 v33) 49 v34) 12 v33) 13 v34) 50 v22) 51 v35) 52 v35) 52 (Value.bool false)) 53 v34) 54 v36) 55 v36) 56 v36) 56 (Value.bool true)) 57 undef) 58 undef) 59 undef) 60 undef) 61 undef) 62 undef) 63 (Value.bool true)) h32 (contX pl20 prog J 145 h.length 20 ct20 [1, 1, 1, 1, 1, 1, 1, 0, 1] (codeOf f20) [] (RetQ prog [.tmp 2] h.length K))))
(aBin prog .neq 37 v29 (vint 0) fun v37 =>
 cnd v37
(aBin prog .neq 37 v29 (vint 11) fun v38 =>
 Hold (W prog J 145 h.length 20 (subC [1, 1, 1, 1, 1, 1, 1, 0, 1] (codeOf f20)) (RG.p (RG.p (RG.p (RG.p (RG.p (RG.p (RG.p (RG.p (RG.p (RG.p (RG.p (RG.p (RG.p (RG.p (RG.p (RG.p (RG.p (RG.p (RG.p (RG.p (RG.p (RG.p (RG.p (RG.p (RG.p (RG.p (RG.p (RG.p (RG.p (RG.p (RG.p (RG.p (RG.p (RG.p (RG.p (RG.p (RG.p (RG.p (RG.p (RG.p (RG.p (RG.p (RG.p (RG.p (RG.p (RG.p (RG.p (RG.p (RG.p (RG.p (RG.p (RG.p (RG.p (RG.p (RG.p (RG.p (RG.p (RG.p (RG.p (RG.mk (regs [a0]) []) 2 (Value.bool false)) 20 a0) 21 v1) 3 v1) 22 v1) 23 v3) 24 v1) 25 v5) 4 v7) 5 v9) 26 v1) 27 v13) 28 v14) 29 v15) 6 v15) 31 v17) 32 v15) 33 v18) 34 v19) 30 v19) 35 v21) 36 v22) 7 v21) 8 v22) 38 v23) 39 v15) 40 v24) 41 v25) 37 v25) 42 v27) 43 v28) 44 v29) 9 v27) 10 v28) 11 v29) 46 v30) 47 v31) 45 v31) 48 v33) 49 v34) 12 v33) 13 v34) 50 v22) 51 v35) 52 v35) 52 (Value.bool false)) 53 v34) 54 v36) 55 v36) 56 v36) 56 (Value.bool false)) 57 v29) 58 v37) 59 v37) 59 (Value.bool true)) 60 v29) 61 v38) 62 v38) 63 v38) h32 (contX pl20 prog J 145 h.length 20 ct20 [1, 1, 1, 1, 1, 1, 1, 0, 1] (codeOf f20) [] (RetQ prog [.tmp 2] h.length K))))
(Hold (W prog J 145 h.length 20 (subC [1, 1, 1, 1, 1, 1, 1, 0, 1] (codeOf f20)) (RG.p (RG.p (RG.p (RG.p (RG.p (RG.p (RG.p (RG.p (RG.p (RG.p (RG.p (RG.p (RG.p (RG.p (RG.p (RG.p (RG.p (RG.p (RG.p (RG.p (RG.p (RG.p (RG.p (RG.p (RG.p (RG.p (RG.p (RG.p (RG.p (RG.p (RG.p (RG.p (RG.p (RG.p (RG.p (RG.p (RG.p (RG.p (RG.p (RG.p (RG.p (RG.p (RG.p (RG.p (RG.p (RG.p (RG.p (RG.p (RG.p (RG.p (RG.p (RG.p (RG.p (RG.p (RG.p (RG.p (RG.p (RG.p (RG.p (RG.mk (regs [a0]) []) 2 (Value.bool false)) 20 a0) 21 v1) 3 v1) 22 v1) 23 v3) 24 v1) 25 v5) 4 v7) 5 v9) 26 v1) 27 v13) 28 v14) 29 v15) 6 v15) 31 v17) 32 v15) 33 v18) 34 v19) 30 v19) 35 v21) 36 v22) 7 v21) 8 v22) 38 v23) 39 v15) 40 v24) 41 v25) 37 v25) 42 v27) 43 v28) 44 v29) 9 v27) 10 v28) 11 v29) 46 v30) 47 v31) 45 v31) 48 v33) 49 v34) 12 v33) 13 v34) 50 v22) 51 v35) 52 v35) 52 (Value.bool false)) 53 v34) 54 v36) 55 v36) 56 v36) 56 (Value.bool false)) 57 v29) 58 v37) 59 v37) 59 (Value.bool false)) 60 undef) 61 undef) 62 (Value.bool false)) 63 (Value.bool false)) h32 (contX pl20 prog J 145 h.length 20 ct20 [1, 1, 1, 1, 1, 1, 1, 0, 1] (codeOf f20) [] (RetQ prog [.tmp 2] h.length K))))))) := top_eq pok20 ct20 (by kernel_rfl)
theorem s20_1 {f : RG} : W prog J 145 n0 20 (subC [1, 1, 1, 1, 1, 1, 1, 0, 1] (codeOf f20)) f h (contX pl20 prog J 145 n0 20 ct20 [1, 1, 1, 1, 1, 1, 1, 0, 1] (codeOf f20) [] (RetQ prog [.tmp 2] n0 K)) =
(cnd (f.r 63)
(retL n0 K f.ds [(Value.bool false)] h)
(aOff (f.r 5) 0 fun v1 =>
 aLoad false 1 v1 h fun v2 =>
 Sem J 145 n0 20 (subC [1, 1, 1, 1, 1, 1, 1, 1, 1, 0, 1, 0] (codeOf f20)) (RG.p (RG.p (RG.p (RG.p (RG.p (RG.p f 64 v1) 65 v2) 14 (vint 0)) 15 v2) 16 (Value.string { data := #[] })) 17 (vint 0)) h (contX pl20 prog J 145 n0 20 ct20 [1, 1, 1, 1, 1, 1, 1, 1, 1, 0, 1, 0] (codeOf f20) [] (RetQ prog [.tmp 2] n0 K)))) := sub_eq pok20 ct20 (by kernel_rfl)
theorem s20_2 {f : RG} {nx0 : RG → List AObj → Prop} : W prog J 145 n0 20 (subC [1, 1, 1, 1, 1, 1, 1, 1, 1, 0, 1, 0, 0] (codeOf f20)) f h (thenK nx0 (contX pl20 prog J 145 n0 20 ct20 [1, 1, 1, 1, 1, 1, 1, 1, 1, 0, 1, 0] (codeOf f20) [] (RetQ prog [.tmp 2] n0 K))) =
(aLenS (f.r 12) fun v1 =>
 aBin prog .lss 3 (f.r 17) v1 fun v2 =>
 cnd v2
(aLoad true 6 (f.r 4) h fun v3 =>
 aIdx 1 (f.r 12) (f.r 17) fun v4 =>
 aLoad false 1 v4 h fun v5 =>
 Good prog J 43 [v3, (f.r 6), v5] h fun v6 h7 =>
 aExt v6 0 fun v8 =>
 aExt v6 1 fun v9 =>
 aBin prog .neq 37 v9 (vint 0) fun v10 =>
 cnd v10
(retL n0 K f.ds [(Value.bool false)] h7)
(aLenS v8 fun v11 =>
 aBin prog .gtr 3 v11 (vint 0) fun v12 =>
 cnd v12
(aBin prog .add 3 (f.r 14) (vint 1) fun v13 =>
 aIdx 1 v8 (vint 0) fun v14 =>
 aLoad false 1 v14 h7 fun v15 =>
 aBin prog .lss 3 v15 (f.r 15) fun v16 =>
 cnd v16
(aIdx 1 v8 (vint 0) fun v17 =>
 aLoad false 1 v17 h7 fun v18 =>
 aIdx 1 (f.r 12) (f.r 17) fun v19 =>
 aLoad false 1 v19 h7 fun v20 =>
 aBin prog .add 3 (f.r 17) (vint 1) fun v21 =>
 nx0 (RG.p (RG.p (RG.p (RG.p (RG.p (RG.p (RG.p (RG.p (RG.p (RG.p (RG.p (RG.p (RG.p (RG.p (RG.p (RG.p (RG.p (RG.p (RG.p (RG.p (RG.p (RG.p (RG.p (RG.p (RG.p (RG.p (RG.p (RG.p (RG.p (RG.p (RG.p (RG.p (RG.p (RG.p (RG.p (RG.p (RG.p (RG.p (RG.p (RG.p (RG.p f 66 (f.r 17)) 67 (f.r 12)) 68 v1) 69 v2) 73 v3) 74 (f.r 6)) 75 (f.r 12)) 76 (f.r 17)) 77 v4) 78 v5) 79 v6) 72 v6) 80 v8) 81 v9) 18 v8) 19 v9) 82 v9) 83 v10) 84 v8) 85 v11) 86 v12) 87 (f.r 14)) 88 v13) 14 v13) 89 v8) 90 v14) 91 v15) 92 (f.r 15)) 93 v16) 94 v8) 95 v17) 96 v18) 97 (f.r 12)) 98 (f.r 17)) 99 v19) 100 v20) 15 v18) 16 v20) 70 (f.r 17)) 71 v21) 17 v21) h7)
(aBin prog .add 3 (f.r 17) (vint 1) fun v22 =>
 nx0 (RG.p (RG.p (RG.p (RG.p (RG.p (RG.p (RG.p (RG.p (RG.p (RG.p (RG.p (RG.p (RG.p (RG.p (RG.p (RG.p (RG.p (RG.p (RG.p (RG.p (RG.p (RG.p (RG.p (RG.p (RG.p (RG.p (RG.p (RG.p (RG.p (RG.p (RG.p (RG.p f 66 (f.r 17)) 67 (f.r 12)) 68 v1) 69 v2) 73 v3) 74 (f.r 6)) 75 (f.r 12)) 76 (f.r 17)) 77 v4) 78 v5) 79 v6) 72 v6) 80 v8) 81 v9) 18 v8) 19 v9) 82 v9) 83 v10) 84 v8) 85 v11) 86 v12) 87 (f.r 14)) 88 v13) 14 v13) 89 v8) 90 v14) 91 v15) 92 (f.r 15)) 93 v16) 70 (f.r 17)) 71 v22) 17 v22) h7))
(aBin prog .add 3 (f.r 17) (vint 1) fun v23 =>
 nx0 (RG.p (RG.p (RG.p (RG.p (RG.p (RG.p (RG.p (RG.p (RG.p (RG.p (RG.p (RG.p (RG.p (RG.p (RG.p (RG.p (RG.p (RG.p (RG.p (RG.p (RG.p (RG.p (RG.p (RG.p f 66 (f.r 17)) 67 (f.r 12)) 68 v1) 69 v2) 73 v3) 74 (f.r 6)) 75 (f.r 12)) 76 (f.r 17)) 77 v4) 78 v5) 79 v6) 72 v6) 80 v8) 81 v9) 18 v8) 19 v9) 82 v9) 83 v10) 84 v8) 85 v11) 86 v12) 70 (f.r 17)) 71 v23) 17 v23) h7)))
(aBin prog .eql 37 (f.r 11) (vint 11) fun v24 =>
 cnd v24
(aBin prog .eql 3 (f.r 14) (vint 0) fun v25 =>
 cnd v25
(aBin prog .eql 3 (f.r 7) (vint 1) fun v26 =>
 cnd v26
(Good prog J 21 [] h fun v27 h28 =>
 retL n0 K f.ds [v27] h28)
(retL n0 K f.ds [(Value.bool false)] h))
(retL n0 K f.ds [(Value.bool false)] h))
(aBin prog .gtr 3 (f.r 14) (vint 0) fun v29 =>
 cnd v29
(aBin prog .eql 9 (f.r 9) (f.r 16) fun v30 =>
 cnd v30
(aBin prog .eql 3 (f.r 10) (f.r 15) fun v31 =>
 cnd v31
(aBin prog .eql 3 (f.r 7) (vint 2) fun v32 =>
 aLenS (f.r 12) fun v33 =>
 aBin prog .eql 3 (f.r 14) v33 fun v34 =>
 aBin prog .eql 4 v32 v34 fun v35 =>
 cnd v35
(aBin prog .eql 3 (f.r 7) (vint 3) fun v36 =>
 aLenS (f.r 12) fun v37 =>
 aBin prog .lss 3 (f.r 14) v37 fun v38 =>
 aBin prog .eql 4 v36 v38 fun v39 =>
 cnd v39
(Good prog J 21 [] h fun v40 h41 =>
 retL n0 K f.ds [v40] h41)
(retL n0 K f.ds [(Value.bool false)] h))
(retL n0 K f.ds [(Value.bool false)] h))
(retL n0 K f.ds [(Value.bool false)] h))
(retL n0 K f.ds [(Value.bool false)] h))
(retL n0 K f.ds [(Value.bool false)] h)))) := sub_eq pok20 ct20 (by kernel_rfl)
theorem l20_2 (hJ : Closed prog main J) {S : Type} (μ : S → Nat) (I : S → RG → List AObj → Prop) (hI : ∀ s f h, I s f h → heapOk h → n0 ≤ h.length → W prog J 145 n0 20 (subC [1, 1, 1, 1, 1, 1, 1, 1, 1, 0, 1, 0, 0] (codeOf f20)) f h (thenK (Nx n0 μ I s) (contX pl20 prog J 145 n0 20 ct20 [1, 1, 1, 1, 1, 1, 1, 1, 1, 0, 1, 0] (codeOf f20) [] (RetQ prog [.tmp 2] n0 K))))
  {s : S} {f : RG} (hi : Gets n0 I s f h) : Sem J 145 n0 20 (subC [1, 1, 1, 1, 1, 1, 1, 1, 1, 0, 1, 0] (codeOf f20)) f h (contX pl20 prog J 145 n0 20 ct20 [1, 1, 1, 1, 1, 1, 1, 1, 1, 0, 1, 0] (codeOf f20) [] (RetQ prog [.tmp 2] n0 K)) :=
  loop_rule hJ mixed (b := subC [1, 1, 1, 1, 1, 1, 1, 1, 1, 0, 1, 0, 0] (codeOf f20)) (by kernel_rfl) μ I hI hi
end
section
variable {main : Bool} {J : JT} {n0 : Nat} {h : List AObj} {K : Value → List AObj → Prop}
def pl7 : Plans := [(10, false, .take 0 (.take 1 (.take 2 (.take 3 (.take 4 (.take 5 (.take 6 (.last 7 true (.take 8 (.take 9 (.take 10 (.take 11 (.take 12 (.take 13 (.take 14 (.take 15 (.last 16 true (.take 17 (.fin))))))))))))))))))),
  (11, true, .take 0 (.take 1 (.take 2 (.take 3 (.take 4 (.take 5 (.take 6 (.take 7 (.take 8 (.take 9 (.take 10 (.take 11 (.take 12 (.take 13 (.take 14 (.fin))))))))))))))))]
def ct7 : Cuts := .bin (.go) (.bin (.go) (.bin (.go) (.bin (.go) (.bin (.go) (.bin (.go) (.bin (.bin (.go) (.un (.un (.bin (.go) (.bin (.un (.bin (.bin (.go) (.cut (.go))) (.bin (.bin (.go) (.cut (.go))) (.go)))) (.go)))))) (.go)))))))
theorem pok7 : plansOk prog pl7 (codeOf f7) = true := by kernel_rfl
theorem e7 {a0 : Value} : W prog J 74 h.length 7 (codeOf f7) (RG.mk (regs [a0]) []) h (RetQ prog [.tmp 2] h.length K) =
(Good prog J 22 [a0] h fun v1 h2 =>
 Good prog J 25 [v1, (vint 8)] h2 fun v3 h4 =>
 aAlloc [(vint 0), (vint 0), (vint 0)] h4 fun v5 h6 =>
 aStore 3 v5 v3 h6 fun h7 =>
 aLoad true 3 v5 h7 fun v8 =>
 Good prog J 34 [v8] h7 fun v9 h10 =>
 aExt v9 0 fun v11 =>
 aExt v9 1 fun v12 =>
 aBin prog .neq 37 v12 (vint 0) fun v13 =>
 cnd v13
(retL h.length K [] [(Value.bool false)] h10)
(aOff v5 0 fun v14 =>
 aLoad false 1 v14 h10 fun v15 =>
 Good prog J 39 [v15] h10 fun v16 h17 =>
 Sem J 74 h.length 7 (subC [1, 1, 1, 1, 1, 1, 0, 1, 0] (codeOf f7)) (RG.p (RG.p (RG.p (RG.p (RG.p (RG.p (RG.p (RG.p (RG.p (RG.p (RG.p (RG.p (RG.p (RG.p (RG.p (RG.p (RG.p (RG.p (RG.p (RG.p (RG.mk (regs [a0]) []) 2 (Value.bool false)) 9 a0) 10 v1) 11 v3) 3 v5) 13 v8) 14 v9) 12 v9) 15 v11) 16 v12) 4 v11) 5 v12) 17 v12) 18 v13) 19 v14) 20 v15) 21 v16) 6 v16) 7 (vint 0)) 8 (vint 0)) h17 (contX pl7 prog J 74 h.length 7 ct7 [1, 1, 1, 1, 1, 1, 0, 1, 0] (codeOf f7) [] (RetQ prog [.tmp 2] h.length K)))) := top_eq pok7 ct7 (by kernel_rfl)
end
section
variable {main : Bool} {J : JT} {n0 : Nat} {h : List AObj} {K : Value → List AObj → Prop}
theorem at34 : prog.funcs[34]? = some f34 := by kernel_rfl
theorem body34 : f34.body = some (codeOf f34) := by kernel_rfl
def pl34 : Plans := []
def ct34 : Cuts := .go
theorem pok34 : plansOk prog pl34 (codeOf f34) = true := by kernel_rfl
theorem e34 {a0 : Value} : W prog J 20 h.length 34 (codeOf f34) (RG.mk (regs [a0]) []) h (RetQ prog [.tmp 2, .tmp 3] h.length K) =
(aBox a0 h fun v1 h2 =>
 aLoad true 3 v1 h2 fun v3 =>
 Good prog J 72 [v3] h2 fun v4 h5 =>
 aBin prog .neq 37 v4 (vint 0) fun v6 =>
 cnd v6
(retL h.length K [] [(Value.slice none 0 0), v4] h5)
(aAlloc [(Value.slice none 0 0)] h5 fun v7 h8 =>
 aLoad true 3 v1 h8 fun v9 =>
 Good prog J 90 [v9] h8 fun v10 h11 =>
 Sem J 20 h.length 34 (subC [1, 1, 1, 0, 1, 0] (codeOf f34)) (RG.p (RG.p (RG.p (RG.p (RG.p (RG.p (RG.p (RG.p (RG.p (RG.p (RG.p (RG.mk (regs [a0]) []) 1 v1) 2 (Value.slice none 0 0)) 3 (vint 0)) 7 v3) 8 v4) 4 v4) 9 v4) 10 v6) 5 v7) 12 v9) 13 v10) h11 (contX pl34 prog J 20 h.length 34 ct34 [1, 1, 1, 0, 1, 0] (codeOf f34) [] (RetQ prog [.tmp 2, .tmp 3] h.length K)))) := top_eq pok34 ct34 (by kernel_rfl)
theorem g34 (hJ : Closed prog main J) {a0 : Value} (hs : heapOk h → W prog J 20 h.length 34 (codeOf f34) (RG.mk (regs [a0]) []) h (RetQ prog [.tmp 2, .tmp 3] h.length K)) : Good prog J 34 [a0] h K :=
  good_of_W hJ mixed at34 body34 (by kernel_rfl) (Nat.le_of_ble_eq_true rfl) hs
theorem a34_1 {f : RG} {fr : FuncId} {Q : QT} : W prog J 20 n0 fr (subC [1, 1, 1, 0, 1, 0, 0] (codeOf f34)) f h Q =
(Q .normal (RG.p f 6 (f.r 14)) h) := sub_eq pok34 ct34 (by kernel_rfl)
theorem b34_1 {f : RG} {fr : FuncId} {Q : QT} : W prog J 20 n0 fr (subC [1, 1, 1, 0, 1, 0, 1] (codeOf f34)) f h Q =
(aLoad false 1 (f.r 5) h fun v1 =>
(((1 * 1 : Nat) ≤ 16777216 ∧ (1 : Nat) ≤ 16777216 ∧ List.length [(Value.string { data := #[] })] = 1) ∧ aFill (zrep [(Value.string { data := #[] })] 1) [(0, 1, (f.r 6))] fun c2 =>
 aNewS 1 c2 h fun v3 h4 =>
((List.length [(Value.string { data := #[] })] = 1 ∧ 0 < (1 : Nat) ∧ 0 < (16 : Nat) ∧ (16 : Nat) ≤ 1024) ∧ aApp 1 v1 v3 h4 fun v5 h6 =>
 aStore 1 (f.r 5) v5 h6 fun h7 =>
 Q .normal (RG.p (RG.p (RG.p (RG.p f 15 v1) 16 (f.r 6)) 17 v3) 18 v5) h7))) := sub_eq pok34 ct34 (by kernel_rfl)
theorem c34_1 {f : RG} : (contX pl34 prog J 20 n0 34 ct34 [1, 1, 1, 0, 1, 0] (codeOf f34) [] (RetQ prog [.tmp 2, .tmp 3] n0 K)) .normal f h =
(aLoad false 1 (f.r 5) h fun v1 =>
 retL n0 K f.ds [v1, (vint 0)] h) := by kernel_rfl
theorem l34_1 (hJ : Closed prog main J) {f : RG} {g : FuncId} {first cap : List Value} (hx : ev f.r ((Go.Operand.tmp 13)) = .func (.func g) ⟨first⟩ ⟨cap⟩) (hg : g < prog.funcs.size)
  (hs : Good prog J g (first ++ [.func (.yield (h.length + 1)) ⟨[]⟩ ⟨[]⟩] ++ cap) (h ++ [.deferred] ++ [.loop .ready none 34 f.r 20 #[14] (subC [1, 1, 1, 0, 1, 0, 0] (codeOf f34)) (subC [1, 1, 1, 0, 1, 0, 1] (codeOf f34)) h.length]) (endQ h.length f (contX pl34 prog J 20 n0 34 ct34 [1, 1, 1, 0, 1, 0] (codeOf f34) [] (RetQ prog [.tmp 2, .tmp 3] n0 K)))) (hcall : callable prog g = true := by kernel_rfl) : Sem J 20 n0 34 (subC [1, 1, 1, 0, 1, 0] (codeOf f34)) f h (contX pl34 prog J 20 n0 34 ct34 [1, 1, 1, 0, 1, 0] (codeOf f34) [] (RetQ prog [.tmp 2, .tmp 3] n0 K)) :=
  Sem_range hJ (by decide) (fop := (Go.Operand.tmp 13)) (params := #[14]) (assign := subC [1, 1, 1, 0, 1, 0, 0] (codeOf f34)) (body := subC [1, 1, 1, 0, 1, 0, 1] (codeOf f34)) hx hg hs hcall
end
end Go.Proofs.Ythnccaajpdnndaa
namespace Go.Proofs.Ythnccaajpdnndaa
open Go.Conc Go.Proofs.Try
set_option maxRecDepth 100000
section
variable {main : Bool} {J : JT} {h H : List AObj} {K : Value → List AObj → Prop} {KV : Value → Prop} {HL : List AObj → Prop} {n0 : Nat}
theorem ownX_like {H' : List AObj} {s len : Nat} {cs : List Value} {v : Value} {o : Option Nat} (ho : OwnX H s cs len v o) (e : ∀ i, o = some i → H'[i]? = H[i]?) : OwnX H' s cs len v o := by
  obtain ⟨h1, h2, ⟨h0, r⟩ | ⟨b, c, sz, rfl, rfl, hb, hc⟩⟩ := ho
  · exact ⟨h1, h2, .inl ⟨h0, r⟩⟩
  · exact ⟨h1, h2, .inr ⟨b, c, sz, rfl, rfl, by rw [e b rfl]; exact hb, hc⟩⟩
noncomputable abbrev lpR (st : LoopState) (pend : Option Code) (r : Nat → Value) (d : Nat) : AObj := .loop st pend 34 r 20 #[14] (subC [1, 1, 1, 0, 1, 0, 0] (codeOf f34)) (subC [1, 1, 1, 0, 1, 0, 1] (codeOf f34)) d
theorem roundR (hJ : Closed prog main J) {l d p : Nat} {R : Nat → Value} {w : List UInt8} {L : List (List UInt8)} {v : Value} {o : Option Nat} {Q : Value → List AObj → Prop} (hl : H[l]? = some (lpR .ready none R d)) (r5 : R 5 = ptr p 0) (cp : H[p]? = some (.cells [v] true 0)) (O : OwnX H 1 (strL L) L.length v o) (np : p ≠ l) (no : o ≠ some l) (nop : o ≠ some p) (hL : L.length < 90000)
    (k : ∀ H' v' o', SameX (l :: p :: o.toList) H H' → H'[l]? = some (lpR .ready none R d) → H'[p]? = some (.cells [v'] true 0) → OwnX H' 1 (strL (L ++ [w])) (L ++ [w]).length v' (some o') → H.length ≤ o' → Q (.bool true) H') :
    callV prog (Good prog J) (.func (.yield l) ⟨[]⟩ ⟨[]⟩) [strV w] H Q := by
  show Good prog J (yid prog l) [strV w] H Q
  refine good_round hJ hl rfl (by decide) fun ok => W_sound hJ mixed _ ?_
  rw [a34_1]
  refine ⟨rfl, none, _, _, _, _, _, _, _, hl, W_sound hJ mixed _ ?_⟩
  rw [b34_1]
  have hll := lt_of_get hl
  have hpl := lt_of_get cp
  have hl3 : (H.set l (lpR .busy none R d))[l]? = some (lpR .busy none R d) := List.getElem?_set_self hll
  have S3 : SameX [l] H (H.set l (lpR .busy none R d)) := SameX.refl.set (.inl (by simp))
  have len3 : (H.set l (lpR .busy none R d)).length = H.length := List.length_set ..
  generalize H.set l (lpR .busy none R d) = H3 at hl3 S3 len3
  have O3 := ownX_keep O S3 (fun i hi => by simp; exact fun e => no (by rw [hi, e]))
  have kv := ownX_val O
  show aLoad false 1 (R 5) _ _
  rw [r5]
  refine ldI (v := v) (S3.get cp (by simpa using np)) rfl kv.2.2 ?_
  refine strMore O3 hL fun v' H5 o5 S5 O5 h5 => ?_
  have nx : ∀ {q : Nat}, o ≠ some q → q ∉ o.toList := fun {q} hq => by
    cases o with
    | none => simp
    | some i => simp; exact fun e => hq (by rw [e])
  have vv := ownX_val O5
  show aStore 1 (R 5) _ _ _
  rw [r5]
  refine qSt (S5.get (S3.get cp (by simpa using np)) (nx nop)) (by simp) vv.1 vv.2.1 fun H6 S6 c6 l6 => ?_
  have hl6 := S6.get (S5.get hl3 (nx no)) (by simpa using np.symm)
  refine ⟨.busy, none, _, _, _, _, _, _, _, hl6, .inl (k _ v' o5 ?_ (List.getElem?_set_self (lt_of_get hl6)) (get_set c6 np) ?_ (by omega))⟩
  · exact (((S3.weak (by simp)).trans (S5.weak (by simp; intro a ha; exact .inr (.inr ha)))).trans (S6.weak (by simp))).set (.inl (by simp))
  · refine ownX_keep (ownX_keep O5 S6 fun i hi => ?_) (SameX.refl.set (i := l) (.inl (List.mem_singleton.2 rfl))) fun i hi => ?_
    · cases hi
      simp
      omega
    · cases hi
      simp
      omega
set_option maxHeartbeats 800000 in
theorem good34 (hJ : Closed prog main J) {s : SkyR} (hK0 : skyE s ≠ 0 → ∀ H', SameX [] H H' → K (.tuple ⟨[.slice none 0 0, vint (skyE s)]⟩) H')
    (hK1 : skyE s = 0 → ∀ H' v, SameX [] H H' → Sli H' v 1 (rainsB s).length (strL (rainsB s)) → K (.tuple ⟨[v, vint 0]⟩) H') : Good prog J 34 [.agg ⟨s.cells⟩] H K := by
  refine g34 hJ fun ok => ?_
  rw [e34]
  refine qBox (l := s.cells) rfl fun H1 p1 e1 S1 c1 l1 => load_part (c := s.cells) c1 (by simp [SkyR.cells]) rfl rfl (good72 hJ (neqI (cndI (fun h1 => retL_same (nu2 (by simp [unk]) (by simp [unk])) (hK0 h1 H1 S1)) fun h1 => ?_)))
  have h0 : skyE s = 0 := by omega
  have g : skyOk s := by
    unfold skyE at h0
    split at h0
    · assumption
    · cases h0
  refine qAl fun H5 p5 e5 S5 c5 l5 => load_part (c := s.cells) (S5.get c1 (by simp)) (by simp [SkyR.cells]) rfl rfl ?_
  refine good90 hJ fun H10 ps S10 cs10 gs => ?_
  have TH : SameX [] H H10 := (S1.trans S5).trans S10
  refine l34_1 hJ (first := []) (cap := [ptr ps 0]) rfl (by decide) ?_
  obtain ⟨R, hRe⟩ : ∃ R : RG, R = RG.p (RG.p (RG.p (RG.p (RG.p (RG.p (RG.p (RG.p (RG.p (RG.p (RG.p (RG.mk (regs [.agg ⟨s.cells⟩]) []) 1 (ptr p1 0)) 2 (Value.slice none 0 0)) 3 (vint 0)) 7 (.agg ⟨s.cells⟩)) 8 (vint (skyE s))) 4 (vint (skyE s))) 9 (vint (skyE s))) 10 (.bool (decide (skyE s ≠ 0)))) 5 (ptr p5 0)) 12 (.agg ⟨s.cells⟩)) 13 (.func (.func 127) ⟨[]⟩ ⟨[ptr ps 0]⟩) := ⟨_, rfl⟩
  rw [← hRe]
  have R5 : R.r 5 = ptr p5 0 := by subst hRe; rfl
  have Rds : R.ds = [] := by subst hRe; rfl
  clear hRe
  have hl11 : (H10 ++ [AObj.deferred] ++ [lpR .ready none R.r H10.length])[H10.length + 1]? = some (lpR .ready none R.r H10.length) := by
    rw [List.append_assoc]
    simp
  have hd11 : (H10 ++ [AObj.deferred] ++ [lpR .ready none R.r H10.length])[H10.length]? = some .deferred := by
    rw [List.append_assoc]
    simp
  have hln : (H10 ++ [AObj.deferred] ++ [lpR .ready none R.r H10.length]).length = H10.length + 2 := by simp
  have S11 : SameX [] H10 (H10 ++ [AObj.deferred] ++ [lpR .ready none R.r H10.length]) := SameX.refl.app.app
  generalize hH11 : H10 ++ [AObj.deferred] ++ [lpR .ready none R.r H10.length] = H11 at hl11 hd11 hln S11
  have UH : SameX [] H H11 := TH.trans S11
  have w5 : H11[p5]? = some (.cells [.slice none 0 0] true 0) := (S10.trans S11).get c5 (by simp)
  have ws : H11[ps]? = some (.cells s.cells true 0) := S11.get cs10 (by simp)
  have b5 := lt_of_get c5
  have bs := lt_of_get cs10
  have h10 := S10.1
  have h1l := S1.1
  have h5l := S5.1
  have hfew := rainsB_few g
  have RD : Rnd J (rainsB s) (.func (.yield (H10.length + 1)) ⟨[]⟩ ⟨[]⟩) [H10.length + 1, p5] H11
      (fun k O H' => ∃ v o, O = o.toList ∧ H'[H10.length + 1]? = some (lpR .ready none R.r H10.length) ∧ H'[p5]? = some (.cells [v] true 0) ∧ OwnX H' 1 (strL ((rainsB s).take k)) ((rainsB s).take k).length v o ∧ ∀ i, o = some i → H11.length ≤ i) (fun H' => False) := by
    refine ⟨by simp; omega, ?_, ?_, ?_⟩
    · rintro k O H' ⟨v, o, rfl, i1, i2, i3, i4⟩ x hx
      exact ownX_lt i3 x (by simpa using hx)
    · rintro k O H1 H2 T ⟨v, o, rfl, i1, i2, i3, i4⟩
      refine ⟨v, o, rfl, by rw [T.2 _ (.inl (by omega))]; exact i1, by rw [T.2 _ (.inl (by omega))]; exact i2, ownX_like i3 fun i hi => T.2 i (.inr (by simpa using hi)), i4⟩
    · rintro k w O Ha Q hw Sa hOO ⟨v, o, rfl, i1, i2, i3, i4⟩ q1 q2
      have hSa := Sa.1
      have hk := (List.getElem?_eq_some_iff.1 hw).1
      refine roundR hJ i1 R5 i2 i3 (by omega) (fun e => by have := i4 _ e; omega) (fun e => by have := i4 _ e; omega) (by rw [List.length_take]; omega) fun Hb v' o' Sb hlb h5' O' ho' => ?_
      refine q1 [o'] Hb (Sb.weak (by simp)) (fun x hx => by rw [List.mem_singleton.1 hx]; exact .inr ho') ⟨v', some o', rfl, hlb, h5', ?_, fun i hi => by cases hi; omega⟩
      rw [List.take_add_one, hw]
      exact O'
  refine good127 hJ g RD ⟨rfl, rfl, rfl⟩ ws (by simp; omega) ⟨_, none, rfl, hl11, w5, ⟨rfl, rfl, .inl ⟨rfl, rfl, rfl⟩⟩, by simp⟩ (fun Hb O Sb _ hi => ?_) fun Hb Sb st => st.elim
  obtain ⟨v, o, rfl, i1, i2, i3, i4⟩ := hi
  rw [List.take_of_length_le (Nat.le_refl _)] at i3
  refine endQnorm i1 (by simp) ?_
  rw [c34_1]
  show aLoad false 1 (R.r 5) _ _
  rw [R5, Rds]
  have hd' := Sb.get hd11 (by simp; omega)
  have vv := ownX_val i3
  refine ldI (v := v) (get_set i2 (by omega)) rfl vv.2.2 ?_
  refine retLdef (get_set hd' (by omega)) (nu2 (ownU i3) (by simp [unk])) ?_
  refine hK1 h0 _ v (((UH.thru Sb (by simp; omega)).set (.inr (by omega))).set (.inr (by omega))) (ownX_sli (ownX_like i3 fun i hi => ?_))
  have := i4 i hi
  rw [List.getElem?_set_ne (by omega), List.getElem?_set_ne (by omega)]
end
theorem growB_pos {s : SkyR} : ∀ {n : Nat} {w : List UInt8} {x : Spl}, 0 < (growB s n w x).length
  | 0, w, x => Nat.zero_lt_one
  | n + 1, w, x => by
    unfold growB
    rw [List.length_append]
    have h1 := growB_pos (s := s) (n := n) (w := w ++ [100]) (x := nextX x 100)
    have h2 := growB_pos (s := s) (n := n) (w := w ++ [119]) (x := nextX x 119)
    by_cases e : nextOk s x 100 = true
    · rw [if_pos e]
      omega
    · have : nextOk s x 119 = true := by
        unfold nextOk at *
        by_cases h : x.1 ≠ 100
        · rw [if_pos h] at e
          exact absurd rfl e
        · have h := Classical.not_not.1 h
          rw [if_pos (by rw [h]; decide)]
      rw [if_pos this]
      omega
def SpanOf {α : Type} (g : α → Int) (l : List α) (x : Span) : Prop := (l = [] ∧ x.2.2 = false) ∨ (l ≠ [] ∧ x.2.2 = true ∧ (∀ w ∈ l, x.1 ≤ g w ∧ g w ≤ x.2.1) ∧ (∃ w ∈ l, g w = x.1) ∧ ∃ w ∈ l, g w = x.2.1)
theorem SpanOf.more {α : Type} {g : α → Int} {l : List α} {x : Span} (h : SpanOf g l x) (w : α) : SpanOf g (l ++ [w]) (widenR x (g w)) := by
  right
  refine ⟨by simp, ?_⟩
  rcases h with ⟨rfl, h⟩ | ⟨hne, ht, ha, ⟨u, hu, eu⟩, ⟨v, hv, ev⟩⟩
  · unfold widenR
    rw [if_neg (by rw [h]; decide)]
    exact ⟨rfl, fun u hu => by
      have : u = w := by simpa using hu
      rw [this]
      exact ⟨Int.le_refl _, Int.le_refl _⟩, ⟨w, by simp, rfl⟩, ⟨w, by simp, rfl⟩⟩
  · unfold widenR
    rw [if_pos ht]
    refine ⟨rfl, fun z hz => ?_, ?_, ?_⟩
    · rcases List.mem_append.1 hz with hz | hz
      · have := ha z hz
        exact ⟨by dsimp only; omega, by dsimp only; omega⟩
      · rw [List.mem_singleton.1 hz]
        exact ⟨by dsimp only; omega, by dsimp only; omega⟩
    · by_cases c : x.1 ≤ g w
      · exact ⟨u, List.mem_append_left _ hu, by dsimp only; omega⟩
      · exact ⟨w, by simp, by dsimp only; omega⟩
    · by_cases c : g w ≤ x.2.1
      · exact ⟨v, List.mem_append_left _ hv, by dsimp only; omega⟩
      · exact ⟨w, by simp, by dsimp only; omega⟩
end Go.Proofs.Ythnccaajpdnndaa
namespace Go.Proofs.Ythnccaajpdnndaa
open Go.Conc Go.Proofs.Try
set_option maxRecDepth 100000
set_option maxHeartbeats 4000000
set_option linter.unusedVariables false
section
variable {main : Bool} {J : JT} {n0 : Nat} {h : List AObj} {K : Value → List AObj → Prop}
theorem at5 : prog.funcs[5]? = some f5 := by kernel_rfl
theorem body5 : f5.body = some (codeOf f5) := by kernel_rfl
def pl5 : Plans := [(3, false, .take 0 (.take 1 (.take 3 (.take 4 (.alt 2 true (.last 5 true (.last 6 false (.take 7 (.take 8 (.take 9 (.take 10 (.take 11 (.fin)))))))) (.last 5 true (.last 2 true (.last 6 false (.take 7 (.take 8 (.take 9 (.take 10 (.take 11 (.fin)))))))))))))),
  (10, true, .take 0 (.take 1 (.take 2 (.take 3 (.take 4 (.take 5 (.take 6 (.take 7 (.take 8 (.take 9 (.take 10 (.take 11 (.take 12 (.take 13 (.take 14 (.fin))))))))))))))))]
def ct5 : Cuts := .bin (.go) (.bin (.go) (.bin (.go) (.bin (.go) (.cut (.bin (.bin (.go) (.cut (.go))) (.bin (.go) (.bin (.bin (.go) (.un (.un (.bin (.go) (.bin (.un (.bin (.bin (.go) (.cut (.go))) (.go))) (.go)))))) (.go))))))))
theorem pok5 : plansOk prog pl5 (codeOf f5) = true := by kernel_rfl
theorem e5 {a0 : Value} : W prog J 61 h.length 5 (codeOf f5) (RG.mk (regs [a0]) []) h (RetQ prog [.tmp 2] h.length K) =
(Good prog J 22 [a0] h fun v1 h2 =>
 Good prog J 24 [v1] h2 fun v3 h4 =>
 Good prog J 23 [v1, (vint 1), (vint 8)] h4 fun v5 h6 =>
 aAlloc [(vint 0), (vint 0), (vint 0), (vint 0), (vint 0), (vint 0)] h6 fun v7 h8 =>
 aStore 6 v7 v3 h8 fun h9 =>
(∃ B, aLoad true 6 v7 h9 fun v10 =>
 RdOk (some B) (ptrBlk v7) ∧ ((((List.length [(vint 0)] = 1 ∧ (8 : Nat) ≤ 1024) ∧ aMkS [(vint 0)] v5 v5 h9 fun v11 h12 =>
 SameB (some B) h9 h12 ∧ (Good prog J 31 [v1, v5] h12 fun v13 h14 =>
 SameB (some B) h9 h14 ∧ (Good prog J 32 [v10, v11, v13] h14 fun v15 h16 =>
 aExt v15 0 fun v17 =>
 aExt v15 1 fun v18 =>
 Hold (W prog J 61 h.length 5 (subC [1, 1, 1, 1] (codeOf f5)) (RG.p (RG.p (RG.p (RG.p (RG.p (RG.p (RG.p (RG.p (RG.p (RG.p (RG.p (RG.p (RG.p (RG.p (RG.p (RG.p (RG.p (RG.p (RG.p (RG.p (RG.p (RG.p (RG.mk (regs [a0]) []) 2 (Value.bool false)) 10 a0) 11 v1) 3 v1) 12 v1) 13 v3) 14 v1) 15 v5) 4 v7) 5 v5) 17 v10) 18 v5) 20 v1) 21 v5) 19 v11) 22 v13) 23 v15) 16 v15) 24 v17) 25 v18) 6 v17) 7 v18) h16 (contX pl5 prog J 61 h.length 5 ct5 [1, 1, 1, 1] (codeOf f5) [] (RetQ prog [.tmp 2] h.length K))))))) ∧ (Good prog J 31 [v1, v5] h9 fun v19 h20 =>
 SameB (some B) h9 h20 ∧ (((List.length [(vint 0)] = 1 ∧ (8 : Nat) ≤ 1024) ∧ aMkS [(vint 0)] v5 v5 h20 fun v21 h22 =>
 SameB (some B) h9 h22 ∧ (Good prog J 32 [v10, v21, v19] h22 fun v23 h24 =>
 aExt v23 0 fun v25 =>
 aExt v23 1 fun v26 =>
 Hold (W prog J 61 h.length 5 (subC [1, 1, 1, 1] (codeOf f5)) (RG.p (RG.p (RG.p (RG.p (RG.p (RG.p (RG.p (RG.p (RG.p (RG.p (RG.p (RG.p (RG.p (RG.p (RG.p (RG.p (RG.p (RG.p (RG.p (RG.p (RG.p (RG.p (RG.mk (regs [a0]) []) 2 (Value.bool false)) 10 a0) 11 v1) 3 v1) 12 v1) 13 v3) 14 v1) 15 v5) 4 v7) 5 v5) 17 v10) 18 v5) 20 v1) 21 v5) 22 v19) 19 v21) 23 v23) 16 v23) 24 v25) 25 v26) 6 v25) 7 v26) h24 (contX pl5 prog J 61 h.length 5 ct5 [1, 1, 1, 1] (codeOf f5) [] (RetQ prog [.tmp 2] h.length K)))))))))) := top_eq pok5 ct5 (by kernel_rfl)
theorem g5 (hJ : Closed prog main J) {a0 : Value} (hs : heapOk h → W prog J 61 h.length 5 (codeOf f5) (RG.mk (regs [a0]) []) h (RetQ prog [.tmp 2] h.length K)) : Good prog J 5 [a0] h K :=
  good_of_W hJ mixed at5 body5 (by kernel_rfl) (Nat.le_of_ble_eq_true rfl) hs
end
end Go.Proofs.Ythnccaajpdnndaa
namespace Go.Proofs.Ythnccaajpdnndaa
open Go.Conc Go.Proofs.Try
set_option maxRecDepth 100000
structure FineG (q p : Pas) : Prop where
  grass : p.grass ≤ q.grass
  bears : q.bears = p.bears
  dry : p.dry ≤ q.dry
  wet : p.wet ≤ q.wet
  stubble : q.stubble ≤ p.stubble
  sleep : q.sleep ≤ p.sleep
theorem FineG.refl {p : Pas} : FineG p p := ⟨Int.le_refl _, rfl, Int.le_refl _, Int.le_refl _, Int.le_refl _, Int.le_refl _⟩
def wetter (v w : List UInt8) : Prop := ∀ i, wetB (w.getD i 0) = true → wetB (v.getD i 0) = true
theorem wetter.refl {w : List UInt8} : wetter w w := fun _ h => h
end Go.Proofs.Ythnccaajpdnndaa
namespace Go.Proofs.Ythnccaajpdnndaa
open Go.Conc Go.Proofs.Try
set_option maxRecDepth 100000
set_option maxHeartbeats 4000000
set_option linter.unusedVariables false
section
variable {main : Bool} {J : JT} {n0 : Nat} {h : List AObj} {K : Value → List AObj → Prop}
theorem at30 : prog.funcs[30]? = some f30 := by kernel_rfl
theorem body30 : f30.body = some (codeOf f30) := by kernel_rfl
def pl30 : Plans := []
def ct30 : Cuts := .go
theorem pok30 : plansOk prog pl30 (codeOf f30) = true := by kernel_rfl
theorem e30 {a0 a1 a2 : Value} : W prog J 30 h.length 30 (codeOf f30) (RG.mk (regs [a0, a1, a2]) []) h (RetQ prog [.tmp 6] h.length K) =
(Good prog J 26 [a0, a2] h fun v1 h2 =>
 Sem J 30 h.length 30 (subC [1, 1, 1, 0, 1, 0] (codeOf f30)) (RG.p (RG.p (RG.p (RG.p (RG.p (RG.p (RG.p (RG.mk (regs [a0, a1, a2]) []) 6 (Value.slice none 0 0)) 7 (Value.slice none 0 0)) 10 a0) 11 a2) 12 v1) 8 v1) 9 (vint 0)) h2 (contX pl30 prog J 30 h.length 30 ct30 [1, 1, 1, 0, 1, 0] (codeOf f30) [] (RetQ prog [.tmp 6] h.length K))) := top_eq pok30 ct30 (by kernel_rfl)
theorem g30 (hJ : Closed prog main J) {a0 a1 a2 : Value} (hs : heapOk h → W prog J 30 h.length 30 (codeOf f30) (RG.mk (regs [a0, a1, a2]) []) h (RetQ prog [.tmp 6] h.length K)) : Good prog J 30 [a0, a1, a2] h K :=
  good_of_W hJ mixed at30 body30 (by kernel_rfl) (Nat.le_of_ble_eq_true rfl) hs
theorem s30_1 {f : RG} {nx0 : RG → List AObj → Prop} : W prog J 30 n0 30 (subC [1, 1, 1, 0, 1, 0, 0] (codeOf f30)) f h (thenK nx0 (contX pl30 prog J 30 n0 30 ct30 [1, 1, 1, 0, 1, 0] (codeOf f30) [] (RetQ prog [.tmp 6] n0 K))) =
(aBin prog .lss 3 (f.r 9) (f.r 1) fun v1 =>
 cnd v1
(Good prog J 26 [(f.r 0), (f.r 2)] h fun v2 h3 =>
(((3 * 1 : Nat) ≤ 16777216 ∧ (3 : Nat) ≤ 16777216 ∧ List.length [(vint 0)] = 1) ∧ aFill (zrep [(vint 0)] 3) [(0, 1, (f.r 8)), (1, 1, (vint 0)), (2, 1, v2)] fun c4 =>
 aNewS 3 c4 h3 fun v5 h6 =>
 Good prog J 69 [(f.r 0), (f.r 8), v5] h6 fun v7 h8 =>
(((1 * 1 : Nat) ≤ 16777216 ∧ (1 : Nat) ≤ 16777216 ∧ List.length [(vint 0)] = 1) ∧ aFill (zrep [(vint 0)] 1) [(0, 1, v7)] fun c9 =>
 aNewS 1 c9 h8 fun v10 h11 =>
((List.length [(vint 0)] = 1 ∧ 0 < (1 : Nat) ∧ 0 < (8 : Nat) ∧ (8 : Nat) ≤ 1024) ∧ aApp 1 (f.r 7) v10 h11 fun v12 h13 =>
 aBin prog .add 3 (f.r 9) (vint 1) fun v14 =>
 nx0 (RG.p (RG.p (RG.p (RG.p (RG.p (RG.p (RG.p (RG.p (RG.p (RG.p (RG.p (RG.p (RG.p (RG.p (RG.p (RG.p (RG.p (RG.p f 13 (f.r 9)) 14 (f.r 1)) 15 v1) 18 (f.r 7)) 19 (f.r 0)) 20 (f.r 8)) 21 (f.r 8)) 22 (f.r 0)) 23 (f.r 2)) 24 v2) 25 v5) 26 v7) 27 v10) 28 v12) 7 v12) 16 (f.r 9)) 17 v14) 9 v14) h13))))
(retL n0 K f.ds [(f.r 7)] h)) := sub_eq pok30 ct30 (by kernel_rfl)
theorem l30_1 (hJ : Closed prog main J) {S : Type} (μ : S → Nat) (I : S → RG → List AObj → Prop) (hI : ∀ s f h, I s f h → heapOk h → n0 ≤ h.length → W prog J 30 n0 30 (subC [1, 1, 1, 0, 1, 0, 0] (codeOf f30)) f h (thenK (Nx n0 μ I s) (contX pl30 prog J 30 n0 30 ct30 [1, 1, 1, 0, 1, 0] (codeOf f30) [] (RetQ prog [.tmp 6] n0 K))))
  {s : S} {f : RG} (hi : Gets n0 I s f h) : Sem J 30 n0 30 (subC [1, 1, 1, 0, 1, 0] (codeOf f30)) f h (contX pl30 prog J 30 n0 30 ct30 [1, 1, 1, 0, 1, 0] (codeOf f30) [] (RetQ prog [.tmp 6] n0 K)) :=
  loop_rule hJ mixed (b := subC [1, 1, 1, 0, 1, 0, 0] (codeOf f30)) (by kernel_rfl) μ I hI hi
end
end Go.Proofs.Ythnccaajpdnndaa
namespace Go.Proofs.Ythnccaajpdnndaa
open Go.Conc Go.Proofs.Try
set_option maxRecDepth 100000
section
variable {main : Bool} {J : JT} {h H : List AObj} {K : Value → List AObj → Prop} {KV : Value → Prop} {HL : List AObj → Prop} {n0 : Nat} {ns : List Int} {k : Nat}
theorem good30 (hJ : Closed prog main J) (a : HX h H ns k) (hk : k < 400000) {D : Nat} {m : Int} (hD : D ≤ 8) (hm : 0 ≤ m ∧ m ≤ 40)
    (hK : ∀ (xs : List Int) v o H', xs.length = D → (∀ x ∈ xs, 0 ≤ x ∧ x ≤ m) → SameX [h.length] H H' → HX h H' ns (k + 20) → OwnX H' 1 (xs.map vint) D v o → (∀ i, o = some i → H.length ≤ i) → K v H') : Good prog J 30 [ptr h.length 0, vint (D : Nat), vint m] H K := by
  refine g30 hJ fun ok => ?_
  rw [e30]
  have hlt := hxLt a
  refine upX hJ a (by omega) (by omega) fun u H1 u1 u2 S1 l1 a1 => ?_
  refine l30_1 hJ (fun i : Nat => D - i) (fun i F H' => i ≤ D ∧ (∃ xs v o, xs.length = i ∧ (∀ x ∈ xs, 0 ≤ x ∧ x ≤ m) ∧ OwnX H' 1 (xs.map vint) i v o ∧ (∀ j, o = some j → H.length ≤ j) ∧ F.r 7 = v) ∧ SameX [h.length] H H' ∧ HX h H' ns (k + 1 + 2 * i) ∧ F.ds = [] ∧ F.r 0 = ptr h.length 0 ∧ F.r 1 = vint (D : Nat) ∧ F.r 2 = vint m ∧ F.r 8 = vint u ∧ F.r 9 = vint (i : Nat)) ?_ (s := 0)
    (.inl ⟨Nat.zero_le _, ⟨[], _, none, rfl, by simp, ⟨rfl, rfl, .inl ⟨rfl, rfl, rfl⟩⟩, by simp, rfl⟩, S1, a1, rfl, rfl, rfl, rfl, rfl, rfl⟩)
  rintro i F H' ⟨hi, ⟨xs, v, o, hx, hxs, O, ho, r7⟩, S, b, ds, r0, r1, r2, r8, r9⟩ okc hnc
  rw [s30_1, r0, r1, r2, r7, r8, r9, ds]
  have hS := S.1
  refine lssI (cndI (fun hl => ?_) fun hge => ?_)
  · refine upX hJ b (by omega) (by omega) fun y H2 y1 y2 S2 l2 b2 => ⟨by decide, fillO (l := [vint u]) rfl rfl rfl (by decide) (fillO (l := [vint 0]) rfl rfl rfl (by rw [wrAt_length]; decide) (fillO (l := [vint y]) rfl rfl rfl (by rw [wrAt_length, wrAt_length]; decide) (fillI (qNew fun H3 p3 e3 S3 c3 l3 => ?_))))⟩
    have c3 : H3[p3]? = some (.cells (([u, 0, y] : List Int).map vint) true 0) := c3
    refine ofZ hJ (b2.same S3 (by simp)) (by omega) c3 (by omega) rfl (by simp) fun z H4 m4 S4 l4 b4 => ?_
    have hz : 0 ≤ z ∧ z ≤ m := by
      rcases m4 with e | e
      · omega
      · simp only [List.mem_cons, List.not_mem_nil, or_false] at e
        omega
    refine ⟨by decide, fillO (l := [vint z]) rfl rfl rfl (by decide) (fillI (qNew fun H5 p5 e5 S5 c5 l5 => ?_))⟩
    have S25 : SameX [h.length] H' H5 := ((S2.trans S3.weak0).trans S4).trans S5.weak0
    have T5 := S.trans S25
    have hno : ∀ j, o = some j → j ∉ [h.length] := fun j hj => by
      have := ho j hj
      simp
      omega
    refine ⟨by decide, ownX_more (ownX_keep O S25 hno) (by decide) (by omega) (e := [vint z]) ⟨_, _, rfl, ⟨rfl, rfl⟩, .inr ⟨p5, 0, rfl, .inr ⟨_, _, _, c5, rfl⟩⟩⟩ fun v' H6 p6 e6 O6 S6 => ?_⟩
    have h5 := T5.1
    refine addI (by omega) ⟨i + 1, by dsimp only; omega, .inl ⟨by omega, ⟨xs ++ [z], v', some p6, by simp [hx], ?_, by rw [List.map_append]; exact O6, fun j hj => by cases hj; omega, rfl⟩, T5.thru S6 fun y hy => .inr (ho y (by simpa using hy)), ?_, ds, r0, r1, r2, r8, by show vint _ = vint _; congr 1⟩⟩
    · intro x hxm
      rcases List.mem_append.1 hxm with e | e
      · exact hxs x e
      · rw [List.mem_singleton.1 e]
        exact hz
    · refine HX.mono (HX.same (HX.same b4 S5 (by simp)) S6 fun x hx => ?_) (by omega)
      have := ho x (by simpa using hx)
      omega
  · have : i = D := by omega
    subst this
    refine retL_same ?_ (hK xs v o H' hx hxs S (b.mono (by omega)) O ho)
    intro x hx
    rw [List.mem_singleton.1 hx]
    exact ownU O
end
theorem ask_ok {p : Pas} {heads : List Int} {w : List UInt8} (f : pasOk p) (hw : 1 ≤ w.length ∧ w.length ≤ 8) (hl : heads.length = w.length) (hh : headsOk heads) (ho : wordOk w) : askE p heads w = 0 := by
  have e1 : cntE (w.length : Nat) 1 8 = 0 := by
    unfold cntE
    rw [if_neg (by omega), if_neg (by omega)]
  have e2 : fst2 (pasE p) (cntE (w.length : Nat) 1 8) = 0 := by
    unfold pasE
    rw [if_pos f, e1]
    rfl
  have e3 : hunE heads (w.length : Nat) = 0 := by
    unfold hunE
    have e4 : cntE (heads.length : Nat) (w.length : Nat) (w.length : Nat) = 0 := by
      unfold cntE
      rw [if_neg (by omega), if_neg (by omega)]
    have hq : ∀ n ∈ heads, 0 ≤ n ∧ n ≤ 40 := hh
    rw [if_neg (not_not_intro e4), if_pos hq]
  unfold askE
  rw [if_neg (not_not_intro e2), if_neg (not_not_intro e3), if_pos ho]
theorem ckd_ok {p : Pas} {s : SkyR} {xs : List Int} (f : pasOk p) (g : skyOk s) (hh : headsOk xs) (hl : (xs.length : Int) = s.days) : ckdE p xs s = 0 := by
  unfold ckdE fst2 pasE skyE
  rw [if_pos f, if_pos g, if_neg (by decide)]
  unfold hunE
  have h1 : cntE (xs.length : Nat) s.days s.days = 0 := by
    unfold cntE
    rw [if_neg (by omega), if_neg (by omega)]
  have hq : ∀ k ∈ xs, 0 ≤ k ∧ k ≤ 40 := hh
  rw [if_neg (by rw [h1]; decide), if_pos hq]
end Go.Proofs.Ythnccaajpdnndaa
namespace Go.Proofs.Ythnccaajpdnndaa
open Go.Conc Go.Proofs.Try
set_option maxRecDepth 100000
set_option maxHeartbeats 4000000
set_option linter.unusedVariables false
section
variable {main : Bool} {J : JT} {n0 : Nat} {h : List AObj} {K : Value → List AObj → Prop}
def pl9 : Plans := [(20, true, .take 0 (.take 1 (.take 2 (.take 3 (.take 4 (.take 5 (.take 6 (.take 7 (.take 8 (.fin)))))))))),
  (22, false, .take 0 (.take 1 (.take 2 (.take 3 (.take 4 (.take 5 (.take 6 (.take 7 (.take 8 (.take 9 (.take 10 (.take 11 (.take 12 (.take 13 (.take 14 (.take 15 (.take 16 (.take 17 (.last 18 true (.take 19 (.take 20 (.fin))))))))))))))))))))))]
def ct9 : Cuts := .bin (.go) (.bin (.go) (.bin (.go) (.bin (.go) (.bin (.go) (.bin (.bin (.go) (.un (.un (.bin (.go) (.bin (.un (.bin (.go) (.cut (.go)))) (.go)))))) (.bin (.go) (.bin (.go) (.bin (.go) (.bin (.go) (.bin (.bin (.go) (.cut (.go))) (.go)))))))))))
theorem pok9 : plansOk prog pl9 (codeOf f9) = true := by kernel_rfl
theorem e9 {a0 : Value} : W prog J 136 h.length 9 (codeOf f9) (RG.mk (regs [a0]) []) h (RetQ prog [.tmp 2] h.length K) =
(Good prog J 22 [a0] h fun v1 h2 =>
 Good prog J 24 [v1] h2 fun v3 h4 =>
 Good prog J 23 [v1, (vint 1), (vint 8)] h4 fun v5 h6 =>
 aAlloc [(vint 0), (vint 0), (vint 0), (vint 0), (vint 0), (vint 0)] h6 fun v7 h8 =>
 aStore 6 v7 v3 h8 fun h9 =>
 Good prog J 30 [v1, v5, (vint 10)] h9 fun v10 h11 =>
 Good prog J 31 [v1, v5] h11 fun v12 h13 =>
 Sem J 136 h.length 9 (subC [1, 1, 1, 1, 1, 0, 1, 0] (codeOf f9)) (RG.p (RG.p (RG.p (RG.p (RG.p (RG.p (RG.p (RG.p (RG.p (RG.p (RG.p (RG.p (RG.p (RG.p (RG.p (RG.p (RG.p (RG.p (RG.p (RG.p (RG.mk (regs [a0]) []) 2 (Value.bool false)) 19 a0) 20 v1) 3 v1) 21 v1) 22 v3) 23 v1) 24 v5) 4 v7) 5 v5) 25 v1) 26 v5) 27 v10) 28 v1) 29 v5) 30 v12) 6 v10) 7 v12) 8 (Value.string { data := #[] })) 9 (vint 0)) h13 (contX pl9 prog J 136 h.length 9 ct9 [1, 1, 1, 1, 1, 0, 1, 0] (codeOf f9) [] (RetQ prog [.tmp 2] h.length K))) := top_eq pok9 ct9 (by kernel_rfl)
end
section
variable {main : Bool} {J : JT} {n0 : Nat} {h : List AObj} {K : Value → List AObj → Prop}
theorem at43 : prog.funcs[43]? = some f43 := by kernel_rfl
theorem body43 : f43.body = some (codeOf f43) := by kernel_rfl
def pl43 : Plans := []
def ct43 : Cuts := .go
theorem pok43 : plansOk prog pl43 (codeOf f43) = true := by kernel_rfl
theorem e43 {a0 a1 a2 : Value} : W prog J 23 h.length 43 (codeOf f43) (RG.mk (regs [a0, a1, a2]) []) h (RetQ prog [.tmp 6, .tmp 7] h.length K) =
(aBox a0 h fun v1 h2 =>
 aLoad true 6 v1 h2 fun v3 =>
 Good prog J 85 [v3, a1, a2] h2 fun v4 h5 =>
 aBin prog .neq 37 v4 (vint 0) fun v6 =>
 cnd v6
(retL h.length K [] [(Value.slice none 0 0), v4] h5)
(aAlloc [(Value.slice none 0 0)] h5 fun v7 h8 =>
 aLoad true 6 v1 h8 fun v9 =>
 aMkF 94 [] [v7] fun v10 =>
 Good prog J 86 [v9, a1, a2, v10] h8 fun v11 h12 =>
 aLoad false 1 v7 h12 fun v13 =>
 retL h.length K [] [v13, (vint 0)] h12)) := top_eq pok43 ct43 (by kernel_rfl)
theorem g43 (hJ : Closed prog main J) {a0 a1 a2 : Value} (hs : heapOk h → W prog J 23 h.length 43 (codeOf f43) (RG.mk (regs [a0, a1, a2]) []) h (RetQ prog [.tmp 6, .tmp 7] h.length K)) : Good prog J 43 [a0, a1, a2] h K :=
  good_of_W hJ mixed at43 body43 (by kernel_rfl) (Nat.le_of_ble_eq_true rfl) hs
theorem at94 : prog.funcs[94]? = some f94 := by kernel_rfl
theorem body94 : f94.body = some (codeOf f94) := by kernel_rfl
def pl94 : Plans := []
def ct94 : Cuts := .go
theorem pok94 : plansOk prog pl94 (codeOf f94) = true := by kernel_rfl
theorem e94 {a0 a1 a2 a3 a4 : Value} : W prog J 14 h.length 94 (codeOf f94) (RG.mk (regs [a0, a1, a2, a3, a4]) []) h (RetQ prog [] h.length K) =
(cnd a2
(aLoad false 1 a4 h fun v1 =>
(((1 * 1 : Nat) ≤ 16777216 ∧ (1 : Nat) ≤ 16777216 ∧ List.length [(vint 0)] = 1) ∧ aFill (zrep [(vint 0)] 1) [(0, 1, a0)] fun c2 =>
 aNewS 1 c2 h fun v3 h4 =>
((List.length [(vint 0)] = 1 ∧ 0 < (1 : Nat) ∧ 0 < (8 : Nat) ∧ (8 : Nat) ≤ 1024) ∧ aApp 1 v1 v3 h4 fun v5 h6 =>
 aStore 1 a4 v5 h6 fun h7 =>
 retL h.length K [] [] h7)))
(retL h.length K [] [] h)) := top_eq pok94 ct94 (by kernel_rfl)
theorem g94 (hJ : Closed prog main J) {a0 a1 a2 a3 a4 : Value} (hs : heapOk h → W prog J 14 h.length 94 (codeOf f94) (RG.mk (regs [a0, a1, a2, a3, a4]) []) h (RetQ prog [] h.length K)) : Good prog J 94 [a0, a1, a2, a3, a4] h K :=
  good_of_W hJ mixed at94 body94 (by kernel_rfl) (Nat.le_of_ble_eq_true rfl) hs
end
end Go.Proofs.Ythnccaajpdnndaa
namespace Go.Proofs.Ythnccaajpdnndaa
open Go.Conc Go.Proofs.Try
set_option maxRecDepth 100000
section
variable {main : Bool} {J : JT} {h H : List AObj} {K : Value → List AObj → Prop} {KV : Value → Prop} {HL : List AObj → Prop} {n0 : Nat}
theorem good94 (hJ : Closed prog main J) {q j : Nat} {b : Bool} {a1 a2 v : Value} {xs : List Int} {o : Option Nat} (hq : H[q]? = some (.cells [v] true 0)) (O : OwnX H 1 (xs.map vint) xs.length v o) (hne : o ≠ some q) (hk : xs.length < 100000)
    (hK : ∀ H' v' o', SameX (q :: o.toList) H H' → H'[q]? = some (.cells [v'] true 0) → OwnX H' 1 ((xs ++ if b = true then [(j : Int)] else []).map vint) (xs ++ if b = true then [(j : Int)] else []).length v' o' → o' ≠ some q → (∀ i, o' = some i → o = some i ∨ H.length ≤ i) → K (pack []) H') : Good prog J 94 [vint (j : Nat), a1, .bool b, a2, ptr q 0] H K := by
  refine g94 hJ fun ok => ?_
  rw [e94]
  have kv := (ownX_val O).2.2
  refine cndB (fun hb => ?_) fun hb => ?_
  · rw [hb, if_pos rfl] at hK
    refine ldI (v := v) hq rfl kv ⟨⟨by decide, by decide, rfl⟩, fillO (l := [vint (j : Nat)]) rfl rfl rfl (by decide) (fillI (qNew fun H1 p1 e1 S1 c1 l1 => ?_))⟩
    have hq1 := S1.get hq (by simp)
    have lq := lt_of_get hq
    refine ⟨⟨rfl, by decide, by decide, by decide⟩, ownX_more (ownX_keep O S1 (by simp)) (by decide) hk (e := [vint (j : Nat)]) ⟨_, _, rfl, ⟨rfl, rfl⟩, .inr ⟨p1, 0, rfl, .inr ⟨_, _, _, c1, rfl⟩⟩⟩ fun v' H2 p2 e2 O2 S2 => ?_⟩
    have hq2 : H2[q]? = some (.cells [v] true 0) := S2.get hq1 (by
      cases o with
      | none => simp
      | some i => simp; exact fun e => hne (by rw [e]))
    have vv := ownX_val O2
    refine qSt hq2 (by simp) vv.1 vv.2.1 fun H3 S3 c3 l3 => retL_same (by simp) (hK H3 v' (some p2) ?_ c3 ?_ (by simp; omega) fun i hi => by cases hi; right; omega)
    · refine ((S1.weak0.thru S2 fun y hy => .inl (by simp [hy])).thru S3 fun y hy => .inl (by simp at hy; simp [hy]) : SameX (q :: o.toList) H H3)
    · rw [List.map_append, List.length_append]
      exact ownX_keep O2 S3 (fun i hi => by cases hi; simp; omega)
  · rw [hb, if_neg (by decide), List.append_nil] at hK
    exact retL_same (by simp) (hK H v o SameX.refl hq O hne fun i hi => .inl hi)
theorem good43 (hJ : Closed prog main J) {p : Pas} {heads : List Int} {w : List UInt8} {hv : Value} (sh : Sli H hv 1 heads.length (heads.map vint)) (hl : heads.length < 1000000) (hw : w.length ≤ 1000000)
    (hK0 : askE p heads w ≠ 0 → ∀ H', SameX [] H H' → K (.tuple ⟨[.slice none 0 0, vint (askE p heads w)]⟩) H')
    (hK1 : askE p heads w = 0 → ∀ H' v, SameX [] H H' → Sli H' v 1 (daysR (hungAt p heads w) w.length).length ((daysR (hungAt p heads w) w.length).map vint) → K (.tuple ⟨[v, vint 0]⟩) H') : Good prog J 43 [.agg ⟨p.cells⟩, hv, strV w] H K := by
  refine g43 hJ fun ok => ?_
  rw [e43]
  refine qBox (l := p.cells) rfl fun H1 p1 e1 S1 c1 l1 => load_part (c := p.cells) c1 (by simp [Pas.cells]) rfl rfl ?_
  refine good85 hJ (S1.sli sh (by simp)) hl hw fun H2 S2 => neqI (cndI (fun h1 => retL_same (by simp [unk]) (hK0 h1 H2 (S1.trans S2))) fun h1 => ?_)
  have h1 := Classical.not_not.1 h1
  obtain ⟨fp, fw, fl, fh, fo⟩ := askE_ok h1
  have T2 := S1.trans S2
  refine qAl fun H3 q e3 S3 c3 l3 => load_part (c := p.cells) (S3.get (S2.get c1 (by simp)) (by simp)) (by simp [Pas.cells]) rfl rfl ⟨rfl, ?_⟩
  have T3 := T2.trans S3
  have hqH : H.length ≤ q := by
    have := T2.1
    omega
  refine good86 hJ fp fh T3 sh (by omega) (by omega) (O0 := [q]) (fun x hx => by rw [List.mem_singleton.1 hx]; exact hqH)
    (I := fun k O H1 => ∃ v o, H1[q]? = some (.cells [v] true 0) ∧ OwnX H1 1 ((daysR (hungAt p heads w) k).map vint) (daysR (hungAt p heads w) k).length v o ∧ o ≠ some q ∧ O = q :: o.toList)
    ⟨_, none, c3, ⟨rfl, rfl, .inl ⟨rfl, rfl, rfl⟩⟩, by simp, rfl⟩ (fun k O H1 ⟨v, o, hq, ho, hne, e⟩ x hx => ?_) (fun k O H1 H2 X ⟨v, o, hq, ho, hne, e⟩ S hX => ?_) (fun k O H1 K1 ⟨v, o, hq, ho, hne, e⟩ hk hk1 => ?_) fun O H' ⟨v, o, hq, ho, hne, e⟩ S => ?_
  · rw [e] at hx
    rcases List.mem_cons.1 hx with rfl | hx
    · exact lt_of_get hq
    · exact ownX_lt ho x (by simpa using hx)
  · refine ⟨v, o, S.get hq (hX q (by rw [e]; simp)), ownX_keep ho S (fun i hi => hX i (by rw [e, hi]; simp)), hne, e⟩
  · have hf := daysR_few (q := hungAt p heads w) (k := k)
    refine callCz (by kernel_rfl) (good94 hJ hq ho hne (by omega) fun H2 v' o' S' hq' ho' hne' hnew => hk1 (q :: o'.toList) H2 _ ⟨v', o', hq', by rw [daysR_succ]; exact ho', hne', rfl⟩ (by rw [e]; exact S') fun x hx => ?_)
    rcases List.mem_cons.1 hx with rfl | hx
    · exact .inl (by rw [e]; simp)
    · rcases hnew x (by simpa using hx) with h | h
      · exact .inl (by rw [e, h]; simp)
      · exact .inr h
  · have kv := (ownX_val ho).2.2
    refine ldI (v := v) hq rfl kv (retL_same ?_ (hK1 h1 H' v ?_ (ownX_sli ho)))
    · intro x hx
      simp only [List.mem_cons, List.not_mem_nil, or_false] at hx
      rcases hx with rfl | rfl
      · exact ownU ho
      · simp [unk]
    · exact T3.thru S fun x hx => .inr (by rw [List.mem_singleton.1 hx]; exact hqH)
end
theorem daysR_mem {q : Nat → Bool} {n i : Nat} : (i : Int) ∈ daysR q n ↔ i < n ∧ q i = true := by
  unfold daysR
  rw [List.mem_map]
  constructor
  · rintro ⟨j, hj, e⟩
    obtain ⟨h1, h2⟩ := List.mem_filter.1 hj
    have : j = i := Int.ofNat_inj.1 e
    subst this
    exact ⟨List.mem_range.1 h1, h2⟩
  · rintro ⟨h1, h2⟩
    exact ⟨i, List.mem_filter.2 ⟨List.mem_range.2 h1, h2⟩, rfl⟩
theorem daysR_all {q : Nat → Bool} : ∀ {n : Nat} {x : Int}, x ∈ daysR q n → 0 ≤ x ∧ x < n := by
  intro n x hx
  unfold daysR at hx
  obtain ⟨j, hj, rfl⟩ := List.mem_map.1 hx
  have := List.mem_range.1 (List.mem_filter.1 hj).1
  exact ⟨Int.natCast_nonneg j, by show ((j : Nat) : Int) < n; omega⟩
theorem daysR_up {q : Nat → Bool} {n : Nat} : (daysR q n).Pairwise (· < ·) := by
  unfold daysR
  rw [List.pairwise_map]
  exact (List.pairwise_lt_range.filter _).imp fun h => Int.ofNat_lt.2 h
theorem daysR_head {q : Nat → Bool} {n : Nat} (h : 0 ≤ fstH q n) : (daysR q n)[0]? = some (fstH q n) := by
  obtain ⟨h1, h2, h3⟩ := fstH_iff h
  have hm := daysR_mem (q := q) (n := n) (i := (fstH q n).toNat)
  have hmem := hm.2 ⟨h1, h2⟩
  cases e : daysR q n with
  | nil => rw [e] at hmem; cases hmem
  | cons x l =>
    have hx : x ∈ daysR q n := by rw [e]; exact List.mem_cons_self ..
    obtain ⟨x0, xn⟩ := daysR_all hx
    obtain ⟨i, rfl⟩ := Int.eq_ofNat_of_zero_le x0
    have hi := (daysR_mem.1 hx).2
    have hge : (fstH q n).toNat ≤ i := by
      by_cases c : i < (fstH q n).toNat
      · rw [h3 i c] at hi
        cases hi
      · omega
    have hup := daysR_up (q := q) (n := n)
    rw [e] at hmem hup
    show some (i : Int) = _
    congr 1
    rcases List.mem_cons.1 hmem with c | c
    · omega
    · have := List.rel_of_pairwise_cons hup c
      omega
def hunB (p : Pas) (xs : List Int) (w : List UInt8) : Bool := decide (0 ≤ starvR p xs w)
theorem stepV_no {p : Pas} {xs : List Int} {a : List UInt8 × Int} {w : List UInt8} (h : hunB p xs w = false) : stepV p xs a w = a := by
  unfold hunB at h
  rw [decide_eq_false_iff_not] at h
  unfold stepV
  rw [if_neg (fun c => h c.1)]
theorem worst_cnt {p : Pas} {xs : List Int} : ∀ (l : List (List UInt8)) (a : List UInt8 × Int), (a.2 < 0 → ((l.foldl (stepV p xs) a).2 < 0 ↔ l.countP (hunB p xs) = 0)) ∧ (0 ≤ a.2 → 0 ≤ (l.foldl (stepV p xs) a).2)
  | [], a => ⟨fun h => ⟨fun _ => rfl, fun _ => h⟩, fun h => h⟩
  | w :: l, a => by
    rw [List.foldl_cons, List.countP_cons]
    obtain ⟨i1, i2⟩ := worst_cnt (p := p) (xs := xs) l (stepV p xs a w)
    cases hb : hunB p xs w with
    | false =>
      rw [stepV_no hb] at i1 i2 ⊢
      refine ⟨fun h => ?_, i2⟩
      rw [i1 h]
      simp
    | true =>
      have h0 : 0 ≤ starvR p xs w := by
        unfold hunB at hb
        exact of_decide_eq_true hb
      have h1 : 0 ≤ (stepV p xs a w).2 := by
        unfold stepV
        split
        · exact h0
        · rename_i c
          by_cases d : a.2 < 0
          · exact absurd ⟨h0, .inl d⟩ c
          · omega
      refine ⟨fun _ => ⟨fun h => ?_, fun h => ?_⟩, fun _ => i2 h1⟩
      · have := i2 h1
        omega
      · rw [if_pos rfl] at h
        omega
theorem fed_cnt {p : Pas} {xs : List Int} {s : SkyR} : fedB p xs s = true ↔ (rainsB s).countP (hunB p xs) = 0 := by
  unfold fedB
  rw [List.all_eq_true, List.countP_eq_zero]
  constructor
  · intro h w hw
    have := of_decide_eq_true (h w hw)
    unfold hunB
    rw [decide_eq_true_iff]
    omega
  · intro h w hw
    have := h w hw
    unfold hunB at this
    rw [decide_eq_true_iff] at this ⊢
    omega
theorem any_cnt {p : Pas} {xs : List Int} {s : SkyR} : (rainsB s).any (fun w => decide (starvR p xs w < 0)) = true ↔ (rainsB s).countP (hunB p xs) < (rainsB s).length := by
  have hle := List.countP_le_length (p := hunB p xs) (l := rainsB s)
  constructor
  · intro h
    obtain ⟨w, hw, hd⟩ := List.any_eq_true.1 h
    have hd := of_decide_eq_true hd
    by_cases c : (rainsB s).countP (hunB p xs) = (rainsB s).length
    · have := List.countP_eq_length.1 c w hw
      unfold hunB at this
      have := of_decide_eq_true this
      omega
    · omega
  · intro h
    by_cases c : (rainsB s).any (fun w => decide (starvR p xs w < 0)) = true
    · exact c
    · have c : (rainsB s).any (fun w => decide (starvR p xs w < 0)) = false := by simpa using c
      rw [List.any_eq_false] at c
      have : (rainsB s).countP (hunB p xs) = (rainsB s).length := List.countP_eq_length.2 fun w hw => by
        have := c w hw
        rw [decide_eq_true_iff] at this
        unfold hunB
        rw [decide_eq_true_iff]
        omega
      omega
section
variable {H : List AObj} {KV : Value → Prop}
theorem eqlStrS {a : List UInt8} (hk : KV (.bool true)) : aBin prog .eql 9 (strV a) (strV a) KV := by
  have e : aBin prog .eql 9 (strV a) (strV a) KV = KV (.bool ((ByteArray.mk ⟨a⟩).toList == (ByteArray.mk ⟨a⟩).toList)) := by kernel_rfl
  rw [e, beq_self_eq_true]
  exact hk
theorem eqlLo {a b : Bool} (hk : KV (.bool (a == b))) : aBin prog .eql 4 (.bool a) (.bool b) KV := by
  have e1 : teq prog 10000 4 (.bool a) (.bool b) = some (a == b) := by kernel_rfl
  have e2 : prog.eqGuardType prog.depth 4 = false := by kernel_rfl
  show aEq prog false 4 (.bool a) (.bool b) KV
  unfold aEq
  rw [e1]
  exact ⟨e2, hk⟩
end
section
variable {W0 : World} {Post : Value → World → Prop} {h : List AObj} {K : Value → List AObj → Prop}
set_option maxHeartbeats 1000000 in
theorem walk20 {nv : Value} {ns : List Int} (sn : Sli h nv 1 ns.length (ns.map vint)) (hln : ns.length < 4611686018427387904) (hK : ∀ H', K (.bool true) H') :
    W prog (J2 prog W0 Post) 145 h.length 20 (codeOf f20) (RG.mk (regs [nv]) []) h (RetQ prog [.tmp 2] h.length K) := by
  have hJ := J2.closed prog W0 Post
  rw [e20]
  refine newX hJ sn hln fun H1 a1 => good24 hJ a1 (by omega) fun p H2 fp pb S2 a2 => good25 hJ a2 (by omega) (by decide) fun s H3 gs hs7 S3 a3 => ?_
  obtain ⟨g1, g2, g3⟩ := id gs
  refine qAl fun H4 p4 e4 S4 c4 l4 => qAl fun H5 p5 e5 S5 c5 l5 => ?_
  have l3 := hxLt a3
  refine qStA (c := p.cells) (S5.get c4 (by simp)) rfl rfl rfl fun H6 S6 c6 l6 => qStA (c := s.cells) (S6.get c5 (by simp; omega)) rfl rfl rfl fun H7 S7 c7 l7 => ?_
  have c67 := S7.get c6 (by simp; omega)
  have T37 : SameX [] H3 H7 := ((S4.trans S5).thru S6 (by simp; omega)).thru S7 (by simp; omega)
  have a7 := HX.same a3 T37 (by simp)
  obtain ⟨n, hn⟩ := Int.eq_ofNat_of_zero_le (by omega : (0 : Int) ≤ s.days)
  have hl67 : p4 < H7.length ∧ p5 < H7.length := ⟨lt_of_get c67, lt_of_get c7⟩
  refine offI (ldI (v := vint s.days) c7 rfl rfl ?_)
  rw [hn]
  refine good30 hJ a7 (by omega) (by omega) (by omega) fun xs hv o H8 hx hxs S8 a8 O8 ho => ?_
  subst hx
  have hh : headsOk xs := fun x hx => ⟨(hxs x hx).1, by have := (hxs x hx).2; omega⟩
  have c68 := S8.get c67 (by simp; omega)
  have c78 := S8.get c7 (by simp; omega)
  have sv := ownX_sli O8
  have zc : ckdE p xs s = 0 := ckd_ok fp gs hh (by omega)
  refine load_part (c := p.cells) c68 (by simp [Pas.cells]) rfl rfl (load_part (c := s.cells) c78 (by simp [SkyR.cells]) rfl rfl ?_)
  refine good49 hJ sv (by omega) fun H9 S9 => ext0 (ext1 ?_)
  refine load_part (c := p.cells) (S9.get c68 (by simp)) (by simp [Pas.cells]) rfl rfl (load_part (c := s.cells) (S9.get c78 (by simp)) (by simp [SkyR.cells]) rfl rfl ?_)
  refine good51 hJ (S9.sli sv (by simp)) (by omega) fun H10 S10 => ext30 (ext31 (ext32 ?_))
  have S810 := S9.trans S10
  refine load_part (c := s.cells) (S810.get c78 (by simp)) (by simp [SkyR.cells]) rfl rfl ?_
  have z : skyE s = 0 := by unfold skyE; rw [if_pos gs]
  refine good34 hJ (fun h => absurd z h) fun _ H11 va S11 sa => ext0 (ext1 ?_)
  have T := S810.trans S11
  have cp := T.get c68 (by simp)
  have cs := T.get c78 (by simp)
  have sv' := T.sli sv (by simp)
  have hfew := rainsB_few gs
  have hpos : 0 < (rainsB s).length := growB_pos
  have hw : wstV p xs s = if (worstR p xs s).2 < 0 then ([], 0, 11) else ((worstR p xs s).1, (worstR p xs s).2, 0) := by
    unfold wstV
    rw [if_neg (not_not_intro zc)]
  have hf : feedN p xs s = if fedB p xs s = true then 1 else if (rainsB s).any (fun w => decide (starvR p xs w < 0)) = true then 3 else 2 := by
    unfold feedN
    rw [if_neg (not_not_intro zc)]
  obtain ⟨wc, _⟩ := worst_cnt (p := p) (xs := xs) (rainsB s) ([], -1)
  have wc : (worstR p xs s).2 < 0 ↔ (rainsB s).countP (hunB p xs) = 0 := wc (by decide)
  have hwb : (wstV p xs s).2.2 = 0 ∨ (wstV p xs s).2.2 = 11 := by
    rw [hw]
    split
    · exact .inr rfl
    · exact .inl rfl
  have behind : ∀ {F : RG}, F.ds = [] → F.r 4 = ptr p4 0 → F.r 5 = ptr p5 0 → F.r 6 = hv → F.r 7 = vint (feedN p xs s) → F.r 9 = strV (wstV p xs s).1 → F.r 10 = vint (wstV p xs s).2.1 → F.r 11 = vint (wstV p xs s).2.2 → F.r 12 = va → F.r 63 = .bool false →
      W prog (J2 prog W0 Post) 145 h.length 20 (subC [1, 1, 1, 1, 1, 1, 1, 0, 1] (codeOf f20)) F H11 (contX pl20 prog (J2 prog W0 Post) 145 h.length 20 ct20 [1, 1, 1, 1, 1, 1, 1, 0, 1] (codeOf f20) [] (RetQ prog [.tmp 2] h.length K)) := by
    intro F ds r4 r5 r6 r7 r9 r10 r11 r12 r63
    rw [s20_1, r5, r63]
    refine cnd_false.2 (offI (ldI (v := vint s.days) cs rfl rfl ?_))
    let acc : Nat → List UInt8 × Int := fun k => ((rainsB s).take k).foldl (stepV p xs) ([], -1)
    let cnt : Nat → Nat := fun k => ((rainsB s).take k).countP (hunB p xs)
    refine l20_2 hJ (fun i : Nat => (rainsB s).length - i) (fun i F H' => i ≤ (rainsB s).length ∧ SameX [] H11 H' ∧ F.ds = [] ∧ F.r 4 = ptr p4 0 ∧ F.r 5 = ptr p5 0 ∧ F.r 6 = hv ∧ F.r 7 = vint (feedN p xs s) ∧ F.r 9 = strV (wstV p xs s).1 ∧ F.r 10 = vint (wstV p xs s).2.1 ∧ F.r 11 = vint (wstV p xs s).2.2 ∧ F.r 12 = va ∧ F.r 14 = vint (cnt i : Nat) ∧ F.r 15 = vint (if (acc i).2 < 0 then s.days else (acc i).2) ∧ F.r 16 = strV (acc i).1 ∧ F.r 17 = vint (i : Nat)) ?_ (s := 0)
      (.inl ⟨Nat.zero_le _, SameX.refl, ds, r4, r5, r6, r7, r9, r10, r11, r12, rfl, rfl, rfl, rfl⟩)
    clear ds r4 r5 r6 r7 r9 r10 r11 r12 r63 F
    rintro i F H' ⟨hi, S, ds, r4, r5, r6, r7, r9, r10, r11, r12, r14, r15, r16, r17⟩ okc hnc
    rw [s20_2, r4, r6, r7, r9, r10, r11, r12, r14, r15, r16, r17, ds]
    refine lenI (S.sli sa (by simp)) (lssI (cndI (fun hl => ?_) fun hge => ?_))
    · have hl : i < (rainsB s).length := by omega
      have hu : (rainsB s)[i]? = some (rainsB s)[i] := List.getElem?_eq_getElem hl
      have hum := List.getElem_mem hl
      generalize (rainsB s)[i] = u at hu hum
      have hul : u.length = xs.length := by rw [rainsB_len hum]; omega
      have huc : ∀ c ∈ u, c = 100 ∨ c = 119 := by
        rw [rainsB_strs] at hum
        exact (strsB_len u (List.mem_filter.1 hum).1).2
      have ea : acc (i + 1) = stepV p xs (acc i) u := by
        dsimp only [acc]
        rw [List.take_add_one, hu, List.foldl_append]
        rfl
      have ec : cnt (i + 1) = cnt i + if hunB p xs u = true then 1 else 0 := by
        dsimp only [cnt]
        rw [List.take_add_one, hu, List.countP_append]
        show _ + List.countP _ [u] = _
        rw [List.countP_cons, List.countP_nil, Nat.zero_add]
      have hcl : cnt i ≤ i := by
        have := List.countP_le_length (p := hunB p xs) (l := (rainsB s).take i)
        rw [List.length_take] at this
        dsimp only [cnt]
        omega
      refine load_part (c := p.cells) (S.get cp (by simp)) (by simp [Pas.cells]) rfl rfl ?_
      refine strGet rfl (S.sli sa (by simp)) hu fun pa => ?_
      have zu : askE p xs u = 0 := ask_ok fp (by omega) (by omega) hh huc
      refine good43 hJ (S.sli sv' (by simp)) (by omega) (by omega) (fun h => absurd zu h) fun _ H14 ve S14 se => ext0 (ext1 (neqI (cndI (fun h => absurd rfl h) fun _ => ?_)))
      have T14 := S.trans S14
      have sb := starvR_bd (p := p) (hs := xs) (w := u)
      have hd0 := daysR_none (q := hungAt p xs u) (k := u.length)
      refine lenI se (gtrI (cndI (fun hpos => ?_) fun hz => ?_))
      · have h0 : 0 ≤ starvR p xs u := by
          by_cases c : fstH (hungAt p xs u) u.length < 0
          · have := hd0.2 c
            omega
          · unfold starvR
            omega
        have hb : hunB p xs u = true := decide_eq_true h0
        rw [if_pos hb] at ec
        have hg : (daysR (hungAt p xs u) u.length)[0]? = some (starvR p xs u) := daysR_head h0
        refine addI (by omega) (sliN (i := 0) se hg fun q1 => lssI (cndI (fun hlt => ?_) fun hge => ?_))
        · have es : acc (i + 1) = (u, starvR p xs u) := by
            have hc : (acc i).2 < 0 ∨ starvR p xs u < (acc i).2 := by
              by_cases c : (acc i).2 < 0
              · exact .inl c
              · rw [if_neg c] at hlt
                exact .inr hlt
            rw [ea]
            unfold stepV
            rw [if_pos ⟨h0, hc⟩]
          refine sliN (i := 0) se hg fun q2 => strGet rfl (T14.sli sa (by simp)) hu fun pb => addI (by omega) ⟨i + 1, by dsimp only; omega, .inl ⟨by omega, T14, ds, r4, r5, r6, r7, r9, r10, r11, r12, by rw [ec]; show vint _ = vint _; congr 1, ?_, by rw [es]; rfl, by show vint _ = vint _; congr 1⟩⟩
          rw [es, if_neg (show ¬ (u, starvR p xs u).2 < 0 by show ¬ starvR p xs u < 0; omega)]
          rfl
        · have es : acc (i + 1) = acc i := by
            rw [ea]
            unfold stepV
            rw [if_neg]
            rintro ⟨_, c | c⟩
            · rw [if_pos c] at hge
              omega
            · rw [if_neg (by omega)] at hge
              omega
          exact addI (by omega) ⟨i + 1, by dsimp only; omega, .inl ⟨by omega, T14, ds, r4, r5, r6, r7, r9, r10, r11, r12, by rw [ec]; show vint _ = vint _; congr 1, by rw [es]; exact r15, by rw [es]; exact r16, by show vint _ = vint _; congr 1⟩⟩
      · have h0 : starvR p xs u < 0 := hd0.1 (by omega)
        have hb : hunB p xs u = false := decide_eq_false (by omega)
        have es : acc (i + 1) = acc i := by rw [ea, stepV_no hb]
        rw [if_neg (by rw [hb]; decide), Nat.add_zero] at ec
        exact addI (by omega) ⟨i + 1, by dsimp only; omega, .inl ⟨by omega, T14, ds, r4, r5, r6, r7, r9, r10, r11, r12, by rw [ec]; exact r14, by rw [es]; exact r15, by rw [es]; exact r16, by show vint _ = vint _; congr 1⟩⟩
    · have : i = (rainsB s).length := by omega
      subst this
      have ea : acc (rainsB s).length = worstR p xs s := by
        dsimp only [acc]
        rw [List.take_length]
        rfl
      have ec : cnt (rainsB s).length = (rainsB s).countP (hunB p xs) := by
        dsimp only [cnt]
        rw [List.take_length]
      rw [ea, ec, hw, hf]
      have hle := List.countP_le_length (p := hunB p xs) (l := rainsB s)
      by_cases hneg : (worstR p xs s).2 < 0
      · have h0 := wc.1 hneg
        rw [if_pos hneg, if_pos (fed_cnt.2 h0), h0]
        exact eqlI (cndI (fun _ => eqlI (cndI (fun _ => eqlI (cndI (fun _ => good21 fun H15 _ => retL_same (by simp [unk]) (hK H15)) fun h => absurd rfl h)) fun h => absurd rfl h)) fun h => absurd rfl h)
      · have h0 : (rainsB s).countP (hunB p xs) ≠ 0 := fun h => hneg (wc.2 h)
        rw [if_neg hneg, if_neg hneg, if_neg (fun h => h0 (fed_cnt.1 h))]
        refine eqlI (cndI (fun h => absurd h (show ¬ (0 : Int) = 11 by decide)) fun _ => gtrI (cndI (fun _ => eqlStrS (cnd_true.2 (eqlI (cndI (fun _ => ?_) fun h => absurd rfl h)))) fun h => absurd (by omega) h))
        have sa' := S.sli sa (by simp)
        by_cases hany : (rainsB s).any (fun w => decide (starvR p xs w < 0)) = true
        · have hlt := any_cnt.1 hany
          rw [if_pos hany]
          refine eqlI (lenI sa' (eqlI (eqlLo ?_)))
          rw [decide_eq_false (by decide : ¬ (3 : Int) = 2), decide_eq_false (by omega)]
          refine cnd_true.2 (eqlI (lenI sa' (lssI (eqlLo ?_))))
          rw [decide_eq_true (rfl : (3 : Int) = 3), decide_eq_true (by omega)]
          exact cnd_true.2 (good21 fun H15 _ => retL_same (by simp [unk]) (hK H15))
        · have hnlt : ¬ (rainsB s).countP (hunB p xs) < (rainsB s).length := fun h => hany (any_cnt.2 h)
          rw [if_neg hany]
          refine eqlI (lenI sa' (eqlI (eqlLo ?_)))
          rw [decide_eq_true (rfl : (2 : Int) = 2), decide_eq_true (by omega)]
          refine cnd_true.2 (eqlI (lenI sa' (lssI (eqlLo ?_))))
          rw [decide_eq_false (by decide : ¬ (2 : Int) = 3), decide_eq_false (by omega)]
          exact cnd_true.2 (good21 fun H15 _ => retL_same (by simp [unk]) (hK H15))
  rw [zc]
  refine neqI (cndI (fun h => absurd rfl h) fun _ => neqI (cndI (fun h => absurd rfl h) fun _ => ?_))
  refine neqI (cndI (fun h1 => neqI (hold.2 (behind rfl rfl rfl rfl rfl rfl rfl rfl rfl (congrArg Value.bool (decide_eq_false (by omega)))))) fun h1 => hold.2 (behind rfl rfl rfl rfl rfl rfl rfl rfl rfl rfl))
end
end Go.Proofs.Ythnccaajpdnndaa
namespace Go.Proofs.Ythnccaajpdnndaa
open Go.Conc Go.ChangeShapes Go.WideShapes Go.ChangeAt Go.RowKit Go.Proofs.Try
set_option maxRecDepth 100000
theorem lifted20 (os : Os) (started : os.Started) (H : Type) (enc : TypeId × Value → H) :
    ReturnsInLeavingWide {} checked os 20 .any (Rows.grassHungrySpec.pre6 enc prog f20 Rows.grassHungryRow.domain false) (Rows.grassHungrySpec.post enc prog f20 false true false false) := by
  refine returnsInLeavingWide_of_change_sized (C := checked) own started at20
    (ChangeSpec.witness6 (enc := enc) (C := checked) false ⟨#[], #[.slice none 0 0], []⟩ 8 (by kernel_rfl) (by kernel_rfl) (by kernel_rfl) (by kernel_rfl)) ?_
  intro W base args ds gs before hval0 hW _ hsz0 _
  have hsz : (DataW.weightsEach prog (f20.params.toList ++ Rows.grassHungrySpec.plain.varTypes prog) (ds ++ gs)).all (· ≤ reachBytes) = true := hsz0
  clear hsz0
  have hval : ∀ (j : Nat) t v, f20.params[j]? = some t → args[j]? = some v → Value.okWide prog W .any base t v := hval0
  have hW' := hW
  obtain ⟨p, q, hA0, hV, rfl, _, _⟩ := hW
  have hA : DataW.TrodAll enc prog W 0 (fun _ => true) true f20.params.toList args.toList ds p := hA0
  have hps : f20.params = #[25] := by kernel_rfl
  rw [hps] at hA hval hsz
  obtain ⟨v0, d0, rfl, rfl, h0⟩ := trodAll_one hA
  obtain ⟨rfl, rfl⟩ := trodVars_none hV
  have u3 : prog.underlying 3 = some (.int .i64) := by kernel_rfl
  have u27 : prog.underlying 25 = some (.slice 3) := by kernel_rfl
  have u4 : prog.underlying 4 = some .bool := by kernel_rfl
  have c3 : prog.cellsOf 3 = 1 := by kernel_rfl
  have b3 : prog.bytesOf 3 = 8 := by kernel_rfl
  have hlt : ∀ x ∈ p, x.block < W.heap.size := fun x hx => by simpa using hW'.lt x (by simpa using hx)
  have hargs : ∀ (W' : World), Below W.heap.size W W' → DataW.TrodAll enc prog W' 0 (fun b => decide (b < W.heap.size)) true [25] [v0] [d0] p := fun W' hn =>
    trodAll_mk1 (Below.trod laidOut (by kernel_rfl) (of_decide_eq_true (by kernel_rfl)) h0 hn hlt)
  obtain ⟨ns, sn, ok2, hbig⟩ := arg_ints u27 u3 c3 (hval 0 25 v0 rfl rfl) h0
  have hln : ns.length < 4611686018427387904 := by
    rcases hbig with rfl | ⟨es, sp, rfl, hle⟩
    · simp
    · have := sized_slice hsz (j := 0) (t := 25) (e := 3) rfl rfl u27
      rw [b3] at this
      simp only [reachBytes] at this
      omega
  obtain ⟨M, last, o, w', t', r1, r2, r3, r4⟩ := law_run2 (g := 20) (fn := f20) at20 body20 (by kernel_rfl) W [v0] (Nat.le_of_ble_eq_true (by kernel_rfl : Nat.ble 1 f20.ntmps = true))
    (by
      intro v hv
      simp only [List.mem_cons, List.not_mem_nil, or_false] at hv
      subst hv
      exact ok2)
    (fun Post => walk20 (K := fun v _ => v = .bool true) sn hln fun _ => rfl)
  refine ⟨M, last, o, w', t', r1, r2, r3, r4.mono fun v hF => ?_⟩
  obtain ⟨rfl, hbelow⟩ := hF
  refine ⟨_, _, _, [], _, [], hW', ?_, hargs _ hbelow, by rfl, hbelow.frame _, fun h => by cases h⟩
  exact trodAll_mk1 (shut_bool u4 true)
theorem grassHungry_holds : Rows.GrassHungrySaid :=
  OpenClaim.holds_of_wide_leaving 20 f20 rfl rfl rfl rfl rfl rfl rfl ⟨rfl, rfl, rfl, rfl, rfl⟩ rfl rfl rfl rfl rfl (by kernel_rfl) at20 (by kernel_rfl)
    (of_decide_eq_true (by kernel_rfl)) (by unfold Func.isWrapper; first | (rw [if_pos (by decide +kernel)]; kernel_rfl) | (rw [if_neg (by decide +kernel)]; exact ⟨rfl, rfl⟩))
    (fun os started H enc _ => lifted20 os started H enc)
#print axioms grassHungry_holds
end Go.Proofs.Ythnccaajpdnndaa
