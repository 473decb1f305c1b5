/- GrassWetter answers true at every input, and its argument reads behind the call as it read before. No conditions. -/
import Derived.Test.YthnccaajpdnndaaK3
import Derived.Test.YthnccaajpdnndaaK2
import Derived.Test.YthnccaajpdnndaaK6
import Derived.Test.YthnccaajpdnndaaK5
namespace Go.Proofs.Ythnccaajpdnndaa
open Go.Conc Go.Proofs.Try
set_option maxRecDepth 100000
set_option maxHeartbeats 4000000
set_option linter.unusedVariables false
section
variable {main : Bool} {J : JT} {n0 : Nat} {h : List AObj} {K : Value → List AObj → Prop}
theorem at9 : prog.funcs[9]? = some f9 := by kernel_rfl
theorem body9 : f9.body = some (codeOf f9) := by kernel_rfl
def pl9 : Plans := [(20, true, .take 0 (.take 1 (.take 2 (.take 3 (.take 4 (.take 5 (.take 6 (.take 7 (.take 8 (.fin)))))))))),
  (22, false, .take 0 (.take 1 (.take 2 (.take 3 (.take 4 (.take 5 (.take 6 (.take 7 (.take 8 (.take 9 (.take 10 (.take 11 (.take 12 (.take 13 (.take 14 (.take 15 (.take 16 (.take 17 (.last 18 true (.take 19 (.take 20 (.fin))))))))))))))))))))))]
def ct9 : Cuts := .bin (.go) (.bin (.go) (.bin (.go) (.bin (.go) (.bin (.go) (.bin (.bin (.go) (.un (.un (.bin (.go) (.bin (.un (.bin (.go) (.cut (.go)))) (.go)))))) (.bin (.go) (.bin (.go) (.bin (.go) (.bin (.go) (.bin (.bin (.go) (.cut (.go))) (.go)))))))))))
theorem pok9 : plansOk prog pl9 (codeOf f9) = true := by kernel_rfl
theorem e9 {a0 : Value} : W prog J 136 h.length 9 (codeOf f9) (RG.mk (regs [a0]) []) h (RetQ prog [.tmp 2] h.length K) =
(Good prog J 22 [a0] h fun v1 h2 =>
 Good prog J 24 [v1] h2 fun v3 h4 =>
 Good prog J 23 [v1, (vint 1), (vint 8)] h4 fun v5 h6 =>
 aAlloc [(vint 0), (vint 0), (vint 0), (vint 0), (vint 0), (vint 0)] h6 fun v7 h8 =>
 aStore 6 v7 v3 h8 fun h9 =>
 Good prog J 30 [v1, v5, (vint 10)] h9 fun v10 h11 =>
 Good prog J 31 [v1, v5] h11 fun v12 h13 =>
 Sem J 136 h.length 9 (subC [1, 1, 1, 1, 1, 0, 1, 0] (codeOf f9)) (RG.p (RG.p (RG.p (RG.p (RG.p (RG.p (RG.p (RG.p (RG.p (RG.p (RG.p (RG.p (RG.p (RG.p (RG.p (RG.p (RG.p (RG.p (RG.p (RG.p (RG.mk (regs [a0]) []) 2 (Value.bool false)) 19 a0) 20 v1) 3 v1) 21 v1) 22 v3) 23 v1) 24 v5) 4 v7) 5 v5) 25 v1) 26 v5) 27 v10) 28 v1) 29 v5) 30 v12) 6 v10) 7 v12) 8 (Value.string { data := #[] })) 9 (vint 0)) h13 (contX pl9 prog J 136 h.length 9 ct9 [1, 1, 1, 1, 1, 0, 1, 0] (codeOf f9) [] (RetQ prog [.tmp 2] h.length K))) := top_eq pok9 ct9 (by kernel_rfl)
theorem s9_1 {f : RG} {nx0 : RG → List AObj → Prop} : W prog J 136 n0 9 (subC [1, 1, 1, 1, 1, 0, 1, 0, 0] (codeOf f9)) f h (thenK nx0 (contX pl9 prog J 136 n0 9 ct9 [1, 1, 1, 1, 1, 0, 1, 0] (codeOf f9) [] (RetQ prog [.tmp 2] n0 K))) =
(aBin prog .lss 3 (f.r 9) (f.r 5) fun v1 =>
 cnd v1
(aIdxStr (f.r 7) (f.r 9) fun v2 =>
 aBin prog .eql 5 v2 (Value.int .u8 119) fun v3 =>
 cnd v3
(Hold (W prog J 136 n0 9 (subC [1, 1, 1, 1, 1, 0, 1, 0, 0, 1, 0, 0, 1] (codeOf f9)) (RG.p (RG.p (RG.p (RG.p (RG.p (RG.p (RG.p (RG.p (RG.p (RG.p (RG.p (RG.p f 31 (f.r 9)) 32 (f.r 5)) 33 v1) 36 (f.r 7)) 37 (f.r 9)) 38 v2) 39 v3) 40 v3) 40 (Value.bool true)) 41 undef) 42 undef) 43 (Value.bool true)) h (contX pl9 prog J 136 n0 9 ct9 [1, 1, 1, 1, 1, 0, 1, 0, 0, 1, 0, 0, 1] (codeOf f9) [nx0] (RetQ prog [.tmp 2] n0 K))))
(Good prog J 42 [(f.r 3), (vint 1), (vint 3)] h fun v4 h5 =>
 Hold (W prog J 136 n0 9 (subC [1, 1, 1, 1, 1, 0, 1, 0, 0, 1, 0, 0, 1] (codeOf f9)) (RG.p (RG.p (RG.p (RG.p (RG.p (RG.p (RG.p (RG.p (RG.p (RG.p (RG.p (RG.p f 31 (f.r 9)) 32 (f.r 5)) 33 v1) 36 (f.r 7)) 37 (f.r 9)) 38 v2) 39 v3) 40 v3) 40 (Value.bool false)) 41 (f.r 3)) 42 v4) 43 v4) h5 (contX pl9 prog J 136 n0 9 ct9 [1, 1, 1, 1, 1, 0, 1, 0, 0, 1, 0, 0, 1] (codeOf f9) [nx0] (RetQ prog [.tmp 2] n0 K)))))
(aLoad true 6 (f.r 4) h fun v6 =>
 Good prog J 32 [v6, (f.r 6), (f.r 7)] h fun v7 h8 =>
 aExt v7 0 fun v9 =>
 aExt v7 1 fun v10 =>
 aLoad true 6 (f.r 4) h8 fun v11 =>
 Good prog J 32 [v11, (f.r 6), (f.r 8)] h8 fun v12 h13 =>
 aExt v12 0 fun v14 =>
 aExt v12 1 fun v15 =>
 aLoad true 6 (f.r 4) h13 fun v16 =>
 Good prog J 43 [v16, (f.r 6), (f.r 7)] h13 fun v17 h18 =>
 aExt v17 0 fun v19 =>
 aExt v17 1 fun v20 =>
 aLoad true 6 (f.r 4) h18 fun v21 =>
 Good prog J 43 [v21, (f.r 6), (f.r 8)] h18 fun v22 h23 =>
 aExt v22 0 fun v24 =>
 aExt v22 1 fun v25 =>
 aBin prog .neq 37 v10 (vint 0) fun v26 =>
 cnd v26
(Hold (W prog J 136 n0 9 (subC [1, 1, 1, 1, 1, 1, 1, 1, 1, 1, 0, 1] (codeOf f9)) (RG.p (RG.p (RG.p (RG.p (RG.p (RG.p (RG.p (RG.p (RG.p (RG.p (RG.p (RG.p (RG.p (RG.p (RG.p (RG.p (RG.p (RG.p (RG.p (RG.p (RG.p (RG.p (RG.p (RG.p (RG.p (RG.p (RG.p (RG.p (RG.p (RG.p (RG.p (RG.p (RG.p (RG.p (RG.p (RG.p (RG.p (RG.p (RG.p (RG.p (RG.p (RG.p (RG.p (RG.p (RG.p (RG.p (RG.p (RG.p (RG.p (RG.p (RG.p (RG.p (RG.p (RG.p (RG.p (RG.p (RG.p (RG.p (RG.p (RG.p (RG.p (RG.p (RG.p (RG.p (RG.p (RG.p (RG.p (RG.p (RG.p (RG.p f 31 (f.r 9)) 32 (f.r 5)) 33 v1) 49 v6) 50 (f.r 6)) 51 (f.r 7)) 52 v7) 48 v7) 53 v9) 54 v10) 10 v9) 11 v10) 56 v11) 57 (f.r 6)) 58 (f.r 8)) 59 v12) 55 v12) 60 v14) 61 v15) 12 v14) 13 v15) 63 v16) 64 (f.r 6)) 65 (f.r 7)) 66 v17) 62 v17) 67 v19) 68 v20) 14 v19) 15 v20) 70 v21) 71 (f.r 6)) 72 (f.r 8)) 73 v22) 69 v22) 74 v24) 75 v25) 16 v24) 17 v25) 76 v10) 77 v26) 78 v26) 78 (Value.bool true)) 79 undef) 80 undef) 81 (Value.bool true)) 82 (Value.bool true)) 82 (Value.bool true)) 83 undef) 84 undef) 85 (Value.bool true)) 86 (Value.bool true)) 86 (Value.bool true)) 87 undef) 88 undef) 89 (Value.bool true)) 90 (Value.bool true)) 90 (Value.bool true)) 91 undef) 92 undef) 93 undef) 94 undef) 95 (Value.bool true)) 96 (Value.bool true)) 96 (Value.bool true)) 97 undef) 98 undef) 99 undef) 100 undef) 101 (Value.bool true)) h23 (contX pl9 prog J 136 n0 9 ct9 [1, 1, 1, 1, 1, 1, 1, 1, 1, 1, 0, 1] (codeOf f9) [] (RetQ prog [.tmp 2] n0 K))))
(aBin prog .neq 37 v15 (vint 0) fun v27 =>
 cnd v27
(Hold (W prog J 136 n0 9 (subC [1, 1, 1, 1, 1, 1, 1, 1, 1, 1, 0, 1] (codeOf f9)) (RG.p (RG.p (RG.p (RG.p (RG.p (RG.p (RG.p (RG.p (RG.p (RG.p (RG.p (RG.p (RG.p (RG.p (RG.p (RG.p (RG.p (RG.p (RG.p (RG.p (RG.p (RG.p (RG.p (RG.p (RG.p (RG.p (RG.p (RG.p (RG.p (RG.p (RG.p (RG.p (RG.p (RG.p (RG.p (RG.p (RG.p (RG.p (RG.p (RG.p (RG.p (RG.p (RG.p (RG.p (RG.p (RG.p (RG.p (RG.p (RG.p (RG.p (RG.p (RG.p (RG.p (RG.p (RG.p (RG.p (RG.p (RG.p (RG.p (RG.p (RG.p (RG.p (RG.p (RG.p (RG.p (RG.p (RG.p (RG.p (RG.p (RG.p f 31 (f.r 9)) 32 (f.r 5)) 33 v1) 49 v6) 50 (f.r 6)) 51 (f.r 7)) 52 v7) 48 v7) 53 v9) 54 v10) 10 v9) 11 v10) 56 v11) 57 (f.r 6)) 58 (f.r 8)) 59 v12) 55 v12) 60 v14) 61 v15) 12 v14) 13 v15) 63 v16) 64 (f.r 6)) 65 (f.r 7)) 66 v17) 62 v17) 67 v19) 68 v20) 14 v19) 15 v20) 70 v21) 71 (f.r 6)) 72 (f.r 8)) 73 v22) 69 v22) 74 v24) 75 v25) 16 v24) 17 v25) 76 v10) 77 v26) 78 v26) 78 (Value.bool false)) 79 v15) 80 v27) 81 v27) 82 v27) 82 (Value.bool true)) 83 undef) 84 undef) 85 (Value.bool true)) 86 (Value.bool true)) 86 (Value.bool true)) 87 undef) 88 undef) 89 (Value.bool true)) 90 (Value.bool true)) 90 (Value.bool true)) 91 undef) 92 undef) 93 undef) 94 undef) 95 (Value.bool true)) 96 (Value.bool true)) 96 (Value.bool true)) 97 undef) 98 undef) 99 undef) 100 undef) 101 (Value.bool true)) h23 (contX pl9 prog J 136 n0 9 ct9 [1, 1, 1, 1, 1, 1, 1, 1, 1, 1, 0, 1] (codeOf f9) [] (RetQ prog [.tmp 2] n0 K))))
(aBin prog .neq 37 v20 (vint 0) fun v28 =>
 cnd v28
(Hold (W prog J 136 n0 9 (subC [1, 1, 1, 1, 1, 1, 1, 1, 1, 1, 0, 1] (codeOf f9)) (RG.p (RG.p (RG.p (RG.p (RG.p (RG.p (RG.p (RG.p (RG.p (RG.p (RG.p (RG.p (RG.p (RG.p (RG.p (RG.p (RG.p (RG.p (RG.p (RG.p (RG.p (RG.p (RG.p (RG.p (RG.p (RG.p (RG.p (RG.p (RG.p (RG.p (RG.p (RG.p (RG.p (RG.p (RG.p (RG.p (RG.p (RG.p (RG.p (RG.p (RG.p (RG.p (RG.p (RG.p (RG.p (RG.p (RG.p (RG.p (RG.p (RG.p (RG.p (RG.p (RG.p (RG.p (RG.p (RG.p (RG.p (RG.p (RG.p (RG.p (RG.p (RG.p (RG.p (RG.p (RG.p (RG.p (RG.p (RG.p (RG.p (RG.p f 31 (f.r 9)) 32 (f.r 5)) 33 v1) 49 v6) 50 (f.r 6)) 51 (f.r 7)) 52 v7) 48 v7) 53 v9) 54 v10) 10 v9) 11 v10) 56 v11) 57 (f.r 6)) 58 (f.r 8)) 59 v12) 55 v12) 60 v14) 61 v15) 12 v14) 13 v15) 63 v16) 64 (f.r 6)) 65 (f.r 7)) 66 v17) 62 v17) 67 v19) 68 v20) 14 v19) 15 v20) 70 v21) 71 (f.r 6)) 72 (f.r 8)) 73 v22) 69 v22) 74 v24) 75 v25) 16 v24) 17 v25) 76 v10) 77 v26) 78 v26) 78 (Value.bool false)) 79 v15) 80 v27) 81 v27) 82 v27) 82 (Value.bool false)) 83 v20) 84 v28) 85 v28) 86 v28) 86 (Value.bool true)) 87 undef) 88 undef) 89 (Value.bool true)) 90 (Value.bool true)) 90 (Value.bool true)) 91 undef) 92 undef) 93 undef) 94 undef) 95 (Value.bool true)) 96 (Value.bool true)) 96 (Value.bool true)) 97 undef) 98 undef) 99 undef) 100 undef) 101 (Value.bool true)) h23 (contX pl9 prog J 136 n0 9 ct9 [1, 1, 1, 1, 1, 1, 1, 1, 1, 1, 0, 1] (codeOf f9) [] (RetQ prog [.tmp 2] n0 K))))
(aBin prog .neq 37 v25 (vint 0) fun v29 =>
 cnd v29
(Hold (W prog J 136 n0 9 (subC [1, 1, 1, 1, 1, 1, 1, 1, 1, 1, 0, 1] (codeOf f9)) (RG.p (RG.p (RG.p (RG.p (RG.p (RG.p (RG.p (RG.p (RG.p (RG.p (RG.p (RG.p (RG.p (RG.p (RG.p (RG.p (RG.p (RG.p (RG.p (RG.p (RG.p (RG.p (RG.p (RG.p (RG.p (RG.p (RG.p (RG.p (RG.p (RG.p (RG.p (RG.p (RG.p (RG.p (RG.p (RG.p (RG.p (RG.p (RG.p (RG.p (RG.p (RG.p (RG.p (RG.p (RG.p (RG.p (RG.p (RG.p (RG.p (RG.p (RG.p (RG.p (RG.p (RG.p (RG.p (RG.p (RG.p (RG.p (RG.p (RG.p (RG.p (RG.p (RG.p (RG.p (RG.p (RG.p (RG.p (RG.p (RG.p (RG.p f 31 (f.r 9)) 32 (f.r 5)) 33 v1) 49 v6) 50 (f.r 6)) 51 (f.r 7)) 52 v7) 48 v7) 53 v9) 54 v10) 10 v9) 11 v10) 56 v11) 57 (f.r 6)) 58 (f.r 8)) 59 v12) 55 v12) 60 v14) 61 v15) 12 v14) 13 v15) 63 v16) 64 (f.r 6)) 65 (f.r 7)) 66 v17) 62 v17) 67 v19) 68 v20) 14 v19) 15 v20) 70 v21) 71 (f.r 6)) 72 (f.r 8)) 73 v22) 69 v22) 74 v24) 75 v25) 16 v24) 17 v25) 76 v10) 77 v26) 78 v26) 78 (Value.bool false)) 79 v15) 80 v27) 81 v27) 82 v27) 82 (Value.bool false)) 83 v20) 84 v28) 85 v28) 86 v28) 86 (Value.bool false)) 87 v25) 88 v29) 89 v29) 90 v29) 90 (Value.bool true)) 91 undef) 92 undef) 93 undef) 94 undef) 95 (Value.bool true)) 96 (Value.bool true)) 96 (Value.bool true)) 97 undef) 98 undef) 99 undef) 100 undef) 101 (Value.bool true)) h23 (contX pl9 prog J 136 n0 9 ct9 [1, 1, 1, 1, 1, 1, 1, 1, 1, 1, 0, 1] (codeOf f9) [] (RetQ prog [.tmp 2] n0 K))))
(aLenS v9 fun v30 =>
 aBin prog .neq 3 v30 (f.r 5) fun v31 =>
 cnd v31
(Hold (W prog J 136 n0 9 (subC [1, 1, 1, 1, 1, 1, 1, 1, 1, 1, 0, 1] (codeOf f9)) (RG.p (RG.p (RG.p (RG.p (RG.p (RG.p (RG.p (RG.p (RG.p (RG.p (RG.p (RG.p (RG.p (RG.p (RG.p (RG.p (RG.p (RG.p (RG.p (RG.p (RG.p (RG.p (RG.p (RG.p (RG.p (RG.p (RG.p (RG.p (RG.p (RG.p (RG.p (RG.p (RG.p (RG.p (RG.p (RG.p (RG.p (RG.p (RG.p (RG.p (RG.p (RG.p (RG.p (RG.p (RG.p (RG.p (RG.p (RG.p (RG.p (RG.p (RG.p (RG.p (RG.p (RG.p (RG.p (RG.p (RG.p (RG.p (RG.p (RG.p (RG.p (RG.p (RG.p (RG.p (RG.p (RG.p (RG.p (RG.p (RG.p (RG.p f 31 (f.r 9)) 32 (f.r 5)) 33 v1) 49 v6) 50 (f.r 6)) 51 (f.r 7)) 52 v7) 48 v7) 53 v9) 54 v10) 10 v9) 11 v10) 56 v11) 57 (f.r 6)) 58 (f.r 8)) 59 v12) 55 v12) 60 v14) 61 v15) 12 v14) 13 v15) 63 v16) 64 (f.r 6)) 65 (f.r 7)) 66 v17) 62 v17) 67 v19) 68 v20) 14 v19) 15 v20) 70 v21) 71 (f.r 6)) 72 (f.r 8)) 73 v22) 69 v22) 74 v24) 75 v25) 16 v24) 17 v25) 76 v10) 77 v26) 78 v26) 78 (Value.bool false)) 79 v15) 80 v27) 81 v27) 82 v27) 82 (Value.bool false)) 83 v20) 84 v28) 85 v28) 86 v28) 86 (Value.bool false)) 87 v25) 88 v29) 89 v29) 90 v29) 90 (Value.bool false)) 91 v9) 92 v30) 93 (f.r 5)) 94 v31) 95 v31) 96 v31) 96 (Value.bool true)) 97 undef) 98 undef) 99 undef) 100 undef) 101 (Value.bool true)) h23 (contX pl9 prog J 136 n0 9 ct9 [1, 1, 1, 1, 1, 1, 1, 1, 1, 1, 0, 1] (codeOf f9) [] (RetQ prog [.tmp 2] n0 K))))
(aLenS v14 fun v32 =>
 aBin prog .neq 3 v32 (f.r 5) fun v33 =>
 Hold (W prog J 136 n0 9 (subC [1, 1, 1, 1, 1, 1, 1, 1, 1, 1, 0, 1] (codeOf f9)) (RG.p (RG.p (RG.p (RG.p (RG.p (RG.p (RG.p (RG.p (RG.p (RG.p (RG.p (RG.p (RG.p (RG.p (RG.p (RG.p (RG.p (RG.p (RG.p (RG.p (RG.p (RG.p (RG.p (RG.p (RG.p (RG.p (RG.p (RG.p (RG.p (RG.p (RG.p (RG.p (RG.p (RG.p (RG.p (RG.p (RG.p (RG.p (RG.p (RG.p (RG.p (RG.p (RG.p (RG.p (RG.p (RG.p (RG.p (RG.p (RG.p (RG.p (RG.p (RG.p (RG.p (RG.p (RG.p (RG.p (RG.p (RG.p (RG.p (RG.p (RG.p (RG.p (RG.p (RG.p (RG.p (RG.p (RG.p (RG.p (RG.p (RG.p f 31 (f.r 9)) 32 (f.r 5)) 33 v1) 49 v6) 50 (f.r 6)) 51 (f.r 7)) 52 v7) 48 v7) 53 v9) 54 v10) 10 v9) 11 v10) 56 v11) 57 (f.r 6)) 58 (f.r 8)) 59 v12) 55 v12) 60 v14) 61 v15) 12 v14) 13 v15) 63 v16) 64 (f.r 6)) 65 (f.r 7)) 66 v17) 62 v17) 67 v19) 68 v20) 14 v19) 15 v20) 70 v21) 71 (f.r 6)) 72 (f.r 8)) 73 v22) 69 v22) 74 v24) 75 v25) 16 v24) 17 v25) 76 v10) 77 v26) 78 v26) 78 (Value.bool false)) 79 v15) 80 v27) 81 v27) 82 v27) 82 (Value.bool false)) 83 v20) 84 v28) 85 v28) 86 v28) 86 (Value.bool false)) 87 v25) 88 v29) 89 v29) 90 v29) 90 (Value.bool false)) 91 v9) 92 v30) 93 (f.r 5)) 94 v31) 95 v31) 96 v31) 96 (Value.bool false)) 97 v14) 98 v32) 99 (f.r 5)) 100 v33) 101 v33) h23 (contX pl9 prog J 136 n0 9 ct9 [1, 1, 1, 1, 1, 1, 1, 1, 1, 1, 0, 1] (codeOf f9) [] (RetQ prog [.tmp 2] n0 K)))))))))) := sub_eq pok9 ct9 (by kernel_rfl)
theorem l9_1 (hJ : Closed prog main J) {S : Type} (μ : S → Nat) (I : S → RG → List AObj → Prop) (hI : ∀ s f h, I s f h → heapOk h → n0 ≤ h.length → W prog J 136 n0 9 (subC [1, 1, 1, 1, 1, 0, 1, 0, 0] (codeOf f9)) f h (thenK (Nx n0 μ I s) (contX pl9 prog J 136 n0 9 ct9 [1, 1, 1, 1, 1, 0, 1, 0] (codeOf f9) [] (RetQ prog [.tmp 2] n0 K))))
  {s : S} {f : RG} (hi : Gets n0 I s f h) : Sem J 136 n0 9 (subC [1, 1, 1, 1, 1, 0, 1, 0] (codeOf f9)) f h (contX pl9 prog J 136 n0 9 ct9 [1, 1, 1, 1, 1, 0, 1, 0] (codeOf f9) [] (RetQ prog [.tmp 2] n0 K)) :=
  loop_rule hJ mixed (b := subC [1, 1, 1, 1, 1, 0, 1, 0, 0] (codeOf f9)) (by kernel_rfl) μ I hI hi
theorem s9_2 {f : RG} {nx0 : RG → List AObj → Prop} : W prog J 136 n0 9 (subC [1, 1, 1, 1, 1, 0, 1, 0, 0, 1, 0, 0, 1] (codeOf f9)) f h (contX pl9 prog J 136 n0 9 ct9 [1, 1, 1, 1, 1, 0, 1, 0, 0, 1, 0, 0, 1] (codeOf f9) [nx0] (RetQ prog [.tmp 2] n0 K)) =
(cnd (f.r 43)
(aBin prog .add 9 (f.r 8) (Value.string { data := #[119] }) fun v1 =>
 aBin prog .add 3 (f.r 9) (vint 1) fun v2 =>
 nx0 (RG.p (RG.p (RG.p (RG.p (RG.p (RG.p f 44 (f.r 8)) 45 v1) 8 v1) 34 (f.r 9)) 35 v2) 9 v2) h)
(aBin prog .add 9 (f.r 8) (Value.string { data := #[100] }) fun v3 =>
 aBin prog .add 3 (f.r 9) (vint 1) fun v4 =>
 nx0 (RG.p (RG.p (RG.p (RG.p (RG.p (RG.p f 46 (f.r 8)) 47 v3) 8 v3) 34 (f.r 9)) 35 v4) 9 v4) h)) := sub_eq pok9 ct9 (by kernel_rfl)
theorem s9_3 {f : RG} : W prog J 136 n0 9 (subC [1, 1, 1, 1, 1, 1, 1, 1, 1, 1, 0, 1] (codeOf f9)) f h (contX pl9 prog J 136 n0 9 ct9 [1, 1, 1, 1, 1, 1, 1, 1, 1, 1, 0, 1] (codeOf f9) [] (RetQ prog [.tmp 2] n0 K)) =
(cnd (f.r 101)
(retL n0 K f.ds [(Value.bool false)] h)
(Sem J 136 n0 9 (subC [1, 1, 1, 1, 1, 1, 1, 1, 1, 1, 1, 0, 1, 0] (codeOf f9)) (RG.p f 18 (vint 0)) h (contX pl9 prog J 136 n0 9 ct9 [1, 1, 1, 1, 1, 1, 1, 1, 1, 1, 1, 0, 1, 0] (codeOf f9) [] (RetQ prog [.tmp 2] n0 K)))) := sub_eq pok9 ct9 (by kernel_rfl)
theorem s9_4 {f : RG} {nx0 : RG → List AObj → Prop} : W prog J 136 n0 9 (subC [1, 1, 1, 1, 1, 1, 1, 1, 1, 1, 1, 0, 1, 0, 0] (codeOf f9)) f h (thenK nx0 (contX pl9 prog J 136 n0 9 ct9 [1, 1, 1, 1, 1, 1, 1, 1, 1, 1, 1, 0, 1, 0] (codeOf f9) [] (RetQ prog [.tmp 2] n0 K))) =
(aBin prog .lss 3 (f.r 18) (f.r 5) fun v1 =>
 cnd v1
(aIdx 1 (f.r 12) (f.r 18) fun v2 =>
 aLoad false 1 v2 h fun v3 =>
 aIdx 1 (f.r 10) (f.r 18) fun v4 =>
 aLoad false 1 v4 h fun v5 =>
 aBin prog .lss 3 v3 v5 fun v6 =>
 cnd v6
(retL n0 K f.ds [(Value.bool false)] h)
(aBin prog .add 3 (f.r 18) (vint 1) fun v7 =>
 nx0 (RG.p (RG.p (RG.p (RG.p (RG.p (RG.p (RG.p (RG.p (RG.p (RG.p (RG.p (RG.p (RG.p (RG.p (RG.p f 102 (f.r 18)) 103 (f.r 5)) 104 v1) 107 (f.r 12)) 108 (f.r 18)) 109 v2) 110 v3) 111 (f.r 10)) 112 (f.r 18)) 113 v4) 114 v5) 115 v6) 105 (f.r 18)) 106 v7) 18 v7) h))
((∃ B, aLenS (f.r 16) fun v8 =>
 RdOk (some B) (mapBlk (f.r 16)) ∧ (aBin prog .eql 3 v8 (vint 0) fun v9 =>
 cnd v9
(Good prog J 21 [] h fun v10 h11 =>
 SameB (some B) h h11 ∧ (retL n0 K f.ds [v10] h11))
(aLenS (f.r 14) fun v12 =>
 RdOk (some B) (mapBlk (f.r 14)) ∧ (aBin prog .gtr 3 v12 (vint 0) fun v13 =>
 cnd v13
(aIdx 1 (f.r 14) (vint 0) fun v14 =>
 aLoad false 1 v14 h fun v15 =>
 RdOk (some B) (ptrBlk v14) ∧ (aIdx 1 (f.r 16) (vint 0) fun v16 =>
 aLoad false 1 v16 h fun v17 =>
 RdOk (some B) (ptrBlk v16) ∧ (aBin prog .leq 3 v15 v17 fun v18 =>
 cnd v18
(Good prog J 21 [] h fun v19 h20 =>
 SameB (some B) h h20 ∧ (retL n0 K f.ds [v19] h20))
(retL n0 K f.ds [(Value.bool false)] h))))
(retL n0 K f.ds [(Value.bool false)] h))))))) := sub_eq pok9 ct9 (by kernel_rfl)
theorem l9_4 (hJ : Closed prog main J) {S : Type} (μ : S → Nat) (I : S → RG → List AObj → Prop) (hI : ∀ s f h, I s f h → heapOk h → n0 ≤ h.length → W prog J 136 n0 9 (subC [1, 1, 1, 1, 1, 1, 1, 1, 1, 1, 1, 0, 1, 0, 0] (codeOf f9)) f h (thenK (Nx n0 μ I s) (contX pl9 prog J 136 n0 9 ct9 [1, 1, 1, 1, 1, 1, 1, 1, 1, 1, 1, 0, 1, 0] (codeOf f9) [] (RetQ prog [.tmp 2] n0 K))))
  {s : S} {f : RG} (hi : Gets n0 I s f h) : Sem J 136 n0 9 (subC [1, 1, 1, 1, 1, 1, 1, 1, 1, 1, 1, 0, 1, 0] (codeOf f9)) f h (contX pl9 prog J 136 n0 9 ct9 [1, 1, 1, 1, 1, 1, 1, 1, 1, 1, 1, 0, 1, 0] (codeOf f9) [] (RetQ prog [.tmp 2] n0 K)) :=
  loop_rule hJ mixed (b := subC [1, 1, 1, 1, 1, 1, 1, 1, 1, 1, 1, 0, 1, 0, 0] (codeOf f9)) (by kernel_rfl) μ I hI hi
end
section
variable {main : Bool} {J : JT} {n0 : Nat} {h : List AObj} {K : Value → List AObj → Prop}
theorem at43 : prog.funcs[43]? = some f43 := by kernel_rfl
theorem body43 : f43.body = some (codeOf f43) := by kernel_rfl
def pl43 : Plans := []
def ct43 : Cuts := .go
theorem pok43 : plansOk prog pl43 (codeOf f43) = true := by kernel_rfl
theorem e43 {a0 a1 a2 : Value} : W prog J 23 h.length 43 (codeOf f43) (RG.mk (regs [a0, a1, a2]) []) h (RetQ prog [.tmp 6, .tmp 7] h.length K) =
(aBox a0 h fun v1 h2 =>
 aLoad true 6 v1 h2 fun v3 =>
 Good prog J 85 [v3, a1, a2] h2 fun v4 h5 =>
 aBin prog .neq 37 v4 (vint 0) fun v6 =>
 cnd v6
(retL h.length K [] [(Value.slice none 0 0), v4] h5)
(aAlloc [(Value.slice none 0 0)] h5 fun v7 h8 =>
 aLoad true 6 v1 h8 fun v9 =>
 aMkF 94 [] [v7] fun v10 =>
 Good prog J 86 [v9, a1, a2, v10] h8 fun v11 h12 =>
 aLoad false 1 v7 h12 fun v13 =>
 retL h.length K [] [v13, (vint 0)] h12)) := top_eq pok43 ct43 (by kernel_rfl)
theorem g43 (hJ : Closed prog main J) {a0 a1 a2 : Value} (hs : heapOk h → W prog J 23 h.length 43 (codeOf f43) (RG.mk (regs [a0, a1, a2]) []) h (RetQ prog [.tmp 6, .tmp 7] h.length K)) : Good prog J 43 [a0, a1, a2] h K :=
  good_of_W hJ mixed at43 body43 (by kernel_rfl) (Nat.le_of_ble_eq_true rfl) hs
theorem at94 : prog.funcs[94]? = some f94 := by kernel_rfl
theorem body94 : f94.body = some (codeOf f94) := by kernel_rfl
def pl94 : Plans := []
def ct94 : Cuts := .go
theorem pok94 : plansOk prog pl94 (codeOf f94) = true := by kernel_rfl
theorem e94 {a0 a1 a2 a3 a4 : Value} : W prog J 14 h.length 94 (codeOf f94) (RG.mk (regs [a0, a1, a2, a3, a4]) []) h (RetQ prog [] h.length K) =
(cnd a2
(aLoad false 1 a4 h fun v1 =>
(((1 * 1 : Nat) ≤ 16777216 ∧ (1 : Nat) ≤ 16777216 ∧ List.length [(vint 0)] = 1) ∧ aFill (zrep [(vint 0)] 1) [(0, 1, a0)] fun c2 =>
 aNewS 1 c2 h fun v3 h4 =>
((List.length [(vint 0)] = 1 ∧ 0 < (1 : Nat) ∧ 0 < (8 : Nat) ∧ (8 : Nat) ≤ 1024) ∧ aApp 1 v1 v3 h4 fun v5 h6 =>
 aStore 1 a4 v5 h6 fun h7 =>
 retL h.length K [] [] h7)))
(retL h.length K [] [] h)) := top_eq pok94 ct94 (by kernel_rfl)
theorem g94 (hJ : Closed prog main J) {a0 a1 a2 a3 a4 : Value} (hs : heapOk h → W prog J 14 h.length 94 (codeOf f94) (RG.mk (regs [a0, a1, a2, a3, a4]) []) h (RetQ prog [] h.length K)) : Good prog J 94 [a0, a1, a2, a3, a4] h K :=
  good_of_W hJ mixed at94 body94 (by kernel_rfl) (Nat.le_of_ble_eq_true rfl) hs
end
end Go.Proofs.Ythnccaajpdnndaa
namespace Go.Proofs.Ythnccaajpdnndaa
open Go.Conc Go.Proofs.Try
set_option maxRecDepth 100000
section
variable {main : Bool} {J : JT} {h H : List AObj} {K : Value → List AObj → Prop} {KV : Value → Prop} {HL : List AObj → Prop} {n0 : Nat}
theorem good94 (hJ : Closed prog main J) {q j : Nat} {b : Bool} {a1 a2 v : Value} {xs : List Int} {o : Option Nat} (hq : H[q]? = some (.cells [v] true 0)) (O : OwnX H 1 (xs.map vint) xs.length v o) (hne : o ≠ some q) (hk : xs.length < 100000)
    (hK : ∀ H' v' o', SameX (q :: o.toList) H H' → H'[q]? = some (.cells [v'] true 0) → OwnX H' 1 ((xs ++ if b = true then [(j : Int)] else []).map vint) (xs ++ if b = true then [(j : Int)] else []).length v' o' → o' ≠ some q → (∀ i, o' = some i → o = some i ∨ H.length ≤ i) → K (pack []) H') : Good prog J 94 [vint (j : Nat), a1, .bool b, a2, ptr q 0] H K := by
  refine g94 hJ fun ok => ?_
  rw [e94]
  have kv := (ownX_val O).2.2
  refine cndB (fun hb => ?_) fun hb => ?_
  · rw [hb, if_pos rfl] at hK
    refine ldI (v := v) hq rfl kv ⟨⟨by decide, by decide, rfl⟩, fillO (l := [vint (j : Nat)]) rfl rfl rfl (by decide) (fillI (qNew fun H1 p1 e1 S1 c1 l1 => ?_))⟩
    have hq1 := S1.get hq (by simp)
    have lq := lt_of_get hq
    refine ⟨⟨rfl, by decide, by decide, by decide⟩, ownX_more (ownX_keep O S1 (by simp)) (by decide) hk (e := [vint (j : Nat)]) ⟨_, _, rfl, ⟨rfl, rfl⟩, .inr ⟨p1, 0, rfl, .inr ⟨_, _, _, c1, rfl⟩⟩⟩ fun v' H2 p2 e2 O2 S2 => ?_⟩
    have hq2 : H2[q]? = some (.cells [v] true 0) := S2.get hq1 (by
      cases o with
      | none => simp
      | some i => simp; exact fun e => hne (by rw [e]))
    have vv := ownX_val O2
    refine qSt hq2 (by simp) vv.1 vv.2.1 fun H3 S3 c3 l3 => retL_same (by simp) (hK H3 v' (some p2) ?_ c3 ?_ (by simp; omega) fun i hi => by cases hi; right; omega)
    · refine ((S1.weak0.thru S2 fun y hy => .inl (by simp [hy])).thru S3 fun y hy => .inl (by simp at hy; simp [hy]) : SameX (q :: o.toList) H H3)
    · rw [List.map_append, List.length_append]
      exact ownX_keep O2 S3 (fun i hi => by cases hi; simp; omega)
  · rw [hb, if_neg (by decide), List.append_nil] at hK
    exact retL_same (by simp) (hK H v o SameX.refl hq O hne fun i hi => .inl hi)
theorem good43 (hJ : Closed prog main J) {p : Pas} {heads : List Int} {w : List UInt8} {hv : Value} (sh : Sli H hv 1 heads.length (heads.map vint)) (hl : heads.length < 1000000) (hw : w.length ≤ 1000000)
    (hK0 : askE p heads w ≠ 0 → ∀ H', SameX [] H H' → K (.tuple ⟨[.slice none 0 0, vint (askE p heads w)]⟩) H')
    (hK1 : askE p heads w = 0 → ∀ H' v, SameX [] H H' → Sli H' v 1 (daysR (hungAt p heads w) w.length).length ((daysR (hungAt p heads w) w.length).map vint) → K (.tuple ⟨[v, vint 0]⟩) H') : Good prog J 43 [.agg ⟨p.cells⟩, hv, strV w] H K := by
  refine g43 hJ fun ok => ?_
  rw [e43]
  refine qBox (l := p.cells) rfl fun H1 p1 e1 S1 c1 l1 => load_part (c := p.cells) c1 (by simp [Pas.cells]) rfl rfl ?_
  refine good85 hJ (S1.sli sh (by simp)) hl hw fun H2 S2 => neqI (cndI (fun h1 => retL_same (by simp [unk]) (hK0 h1 H2 (S1.trans S2))) fun h1 => ?_)
  have h1 := Classical.not_not.1 h1
  obtain ⟨fp, fw, fl, fh, fo⟩ := askE_ok h1
  have T2 := S1.trans S2
  refine qAl fun H3 q e3 S3 c3 l3 => load_part (c := p.cells) (S3.get (S2.get c1 (by simp)) (by simp)) (by simp [Pas.cells]) rfl rfl ⟨rfl, ?_⟩
  have T3 := T2.trans S3
  have hqH : H.length ≤ q := by
    have := T2.1
    omega
  refine good86 hJ fp fh T3 sh (by omega) (by omega) (O0 := [q]) (fun x hx => by rw [List.mem_singleton.1 hx]; exact hqH)
    (I := fun k O H1 => ∃ v o, H1[q]? = some (.cells [v] true 0) ∧ OwnX H1 1 ((daysR (hungAt p heads w) k).map vint) (daysR (hungAt p heads w) k).length v o ∧ o ≠ some q ∧ O = q :: o.toList)
    ⟨_, none, c3, ⟨rfl, rfl, .inl ⟨rfl, rfl, rfl⟩⟩, by simp, rfl⟩ (fun k O H1 ⟨v, o, hq, ho, hne, e⟩ x hx => ?_) (fun k O H1 H2 X ⟨v, o, hq, ho, hne, e⟩ S hX => ?_) (fun k O H1 K1 ⟨v, o, hq, ho, hne, e⟩ hk hk1 => ?_) fun O H' ⟨v, o, hq, ho, hne, e⟩ S => ?_
  · rw [e] at hx
    rcases List.mem_cons.1 hx with rfl | hx
    · exact lt_of_get hq
    · exact ownX_lt ho x (by simpa using hx)
  · refine ⟨v, o, S.get hq (hX q (by rw [e]; simp)), ownX_keep ho S (fun i hi => hX i (by rw [e, hi]; simp)), hne, e⟩
  · have hf := daysR_few (q := hungAt p heads w) (k := k)
    refine callCz (by kernel_rfl) (good94 hJ hq ho hne (by omega) fun H2 v' o' S' hq' ho' hne' hnew => hk1 (q :: o'.toList) H2 _ ⟨v', o', hq', by rw [daysR_succ]; exact ho', hne', rfl⟩ (by rw [e]; exact S') fun x hx => ?_)
    rcases List.mem_cons.1 hx with rfl | hx
    · exact .inl (by rw [e]; simp)
    · rcases hnew x (by simpa using hx) with h | h
      · exact .inl (by rw [e, h]; simp)
      · exact .inr h
  · have kv := (ownX_val ho).2.2
    refine ldI (v := v) hq rfl kv (retL_same ?_ (hK1 h1 H' v ?_ (ownX_sli ho)))
    · intro x hx
      simp only [List.mem_cons, List.not_mem_nil, or_false] at hx
      rcases hx with rfl | rfl
      · exact ownU ho
      · simp [unk]
    · exact T3.thru S fun x hx => .inr (by rw [List.mem_singleton.1 hx]; exact hqH)
end
end Go.Proofs.Ythnccaajpdnndaa
namespace Go.Proofs.Ythnccaajpdnndaa
open Go.Conc Go.Proofs.Try
set_option maxRecDepth 100000
set_option maxHeartbeats 4000000
set_option linter.unusedVariables false
section
variable {main : Bool} {J : JT} {n0 : Nat} {h : List AObj} {K : Value → List AObj → Prop}
theorem at5 : prog.funcs[5]? = some f5 := by kernel_rfl
theorem body5 : f5.body = some (codeOf f5) := by kernel_rfl
def pl5 : Plans := [(3, false, .take 0 (.take 1 (.take 3 (.take 4 (.alt 2 true (.last 5 true (.last 6 false (.take 7 (.take 8 (.take 9 (.take 10 (.take 11 (.fin)))))))) (.last 5 true (.last 2 true (.last 6 false (.take 7 (.take 8 (.take 9 (.take 10 (.take 11 (.fin)))))))))))))),
  (10, true, .take 0 (.take 1 (.take 2 (.take 3 (.take 4 (.take 5 (.take 6 (.take 7 (.take 8 (.take 9 (.take 10 (.take 11 (.take 12 (.take 13 (.take 14 (.fin))))))))))))))))]
def ct5 : Cuts := .bin (.go) (.bin (.go) (.bin (.go) (.bin (.go) (.cut (.bin (.bin (.go) (.cut (.go))) (.bin (.go) (.bin (.bin (.go) (.un (.un (.bin (.go) (.bin (.un (.bin (.bin (.go) (.cut (.go))) (.go))) (.go)))))) (.go))))))))
theorem pok5 : plansOk prog pl5 (codeOf f5) = true := by kernel_rfl
theorem e5 {a0 : Value} : W prog J 61 h.length 5 (codeOf f5) (RG.mk (regs [a0]) []) h (RetQ prog [.tmp 2] h.length K) =
(Good prog J 22 [a0] h fun v1 h2 =>
 Good prog J 24 [v1] h2 fun v3 h4 =>
 Good prog J 23 [v1, (vint 1), (vint 8)] h4 fun v5 h6 =>
 aAlloc [(vint 0), (vint 0), (vint 0), (vint 0), (vint 0), (vint 0)] h6 fun v7 h8 =>
 aStore 6 v7 v3 h8 fun h9 =>
(∃ B, aLoad true 6 v7 h9 fun v10 =>
 RdOk (some B) (ptrBlk v7) ∧ ((((List.length [(vint 0)] = 1 ∧ (8 : Nat) ≤ 1024) ∧ aMkS [(vint 0)] v5 v5 h9 fun v11 h12 =>
 SameB (some B) h9 h12 ∧ (Good prog J 31 [v1, v5] h12 fun v13 h14 =>
 SameB (some B) h9 h14 ∧ (Good prog J 32 [v10, v11, v13] h14 fun v15 h16 =>
 aExt v15 0 fun v17 =>
 aExt v15 1 fun v18 =>
 Hold (W prog J 61 h.length 5 (subC [1, 1, 1, 1] (codeOf f5)) (RG.p (RG.p (RG.p (RG.p (RG.p (RG.p (RG.p (RG.p (RG.p (RG.p (RG.p (RG.p (RG.p (RG.p (RG.p (RG.p (RG.p (RG.p (RG.p (RG.p (RG.p (RG.p (RG.mk (regs [a0]) []) 2 (Value.bool false)) 10 a0) 11 v1) 3 v1) 12 v1) 13 v3) 14 v1) 15 v5) 4 v7) 5 v5) 17 v10) 18 v5) 20 v1) 21 v5) 19 v11) 22 v13) 23 v15) 16 v15) 24 v17) 25 v18) 6 v17) 7 v18) h16 (contX pl5 prog J 61 h.length 5 ct5 [1, 1, 1, 1] (codeOf f5) [] (RetQ prog [.tmp 2] h.length K))))))) ∧ (Good prog J 31 [v1, v5] h9 fun v19 h20 =>
 SameB (some B) h9 h20 ∧ (((List.length [(vint 0)] = 1 ∧ (8 : Nat) ≤ 1024) ∧ aMkS [(vint 0)] v5 v5 h20 fun v21 h22 =>
 SameB (some B) h9 h22 ∧ (Good prog J 32 [v10, v21, v19] h22 fun v23 h24 =>
 aExt v23 0 fun v25 =>
 aExt v23 1 fun v26 =>
 Hold (W prog J 61 h.length 5 (subC [1, 1, 1, 1] (codeOf f5)) (RG.p (RG.p (RG.p (RG.p (RG.p (RG.p (RG.p (RG.p (RG.p (RG.p (RG.p (RG.p (RG.p (RG.p (RG.p (RG.p (RG.p (RG.p (RG.p (RG.p (RG.p (RG.p (RG.mk (regs [a0]) []) 2 (Value.bool false)) 10 a0) 11 v1) 3 v1) 12 v1) 13 v3) 14 v1) 15 v5) 4 v7) 5 v5) 17 v10) 18 v5) 20 v1) 21 v5) 22 v19) 19 v21) 23 v23) 16 v23) 24 v25) 25 v26) 6 v25) 7 v26) h24 (contX pl5 prog J 61 h.length 5 ct5 [1, 1, 1, 1] (codeOf f5) [] (RetQ prog [.tmp 2] h.length K)))))))))) := top_eq pok5 ct5 (by kernel_rfl)
theorem g5 (hJ : Closed prog main J) {a0 : Value} (hs : heapOk h → W prog J 61 h.length 5 (codeOf f5) (RG.mk (regs [a0]) []) h (RetQ prog [.tmp 2] h.length K)) : Good prog J 5 [a0] h K :=
  good_of_W hJ mixed at5 body5 (by kernel_rfl) (Nat.le_of_ble_eq_true rfl) hs
end
end Go.Proofs.Ythnccaajpdnndaa
namespace Go.Proofs.Ythnccaajpdnndaa
open Go.Conc Go.Proofs.Try
set_option maxRecDepth 100000
structure FineG (q p : Pas) : Prop where
  grass : p.grass ≤ q.grass
  bears : q.bears = p.bears
  dry : p.dry ≤ q.dry
  wet : p.wet ≤ q.wet
  stubble : q.stubble ≤ p.stubble
  sleep : q.sleep ≤ p.sleep
theorem FineG.refl {p : Pas} : FineG p p := ⟨Int.le_refl _, rfl, Int.le_refl _, Int.le_refl _, Int.le_refl _, Int.le_refl _⟩
theorem dayR_finer {q p : Pas} (G : FineG q p) (fp : pasOk p) {a b : Std} {m n : Int} {v w : Bool} (hv : w = true → v = true) (h : better a b) (o : StdOk p b) (hs : a.2 ≤ p.sleep) (hm : 0 ≤ m) (hmn : m ≤ n) : better (dayR q a m v) (dayR p b n w) := by
  obtain ⟨h1, h2⟩ := h
  obtain ⟨g1, g2, g3, g4, g5, g6⟩ := G
  obtain ⟨f1, f2, f3, f4, f5, f6⟩ := fp
  have hl : leftR b n ≤ leftR a m := by unfold leftR; omega
  have hb := leftR_bd o (by omega : 0 ≤ n)
  have ho := o.g
  have hsh : shortR q a m = true → shortR p b n = true := by
    unfold shortR
    rw [Bool.and_eq_true, Bool.and_eq_true, decide_eq_true_eq, decide_eq_true_eq, decide_eq_true_eq, decide_eq_true_eq]
    rintro ⟨x, y⟩
    exact ⟨by omega, by omega⟩
  have hg : 0 ≤ (if w = true then p.wet else p.dry) := by split <;> omega
  have hgq : (if w = true then p.wet else p.dry) ≤ (if v = true then q.wet else q.dry) := by
    cases w with
    | true => rw [if_pos rfl, if_pos (hv rfl)]; exact g4
    | false =>
      rw [if_neg (by decide)]
      split <;> omega
  unfold better dayR
  rw [g2]
  generalize (if w = true then p.wet else p.dry) = gr at *
  generalize (if v = true then q.wet else q.dry) = gq at *
  by_cases s1 : shortR q a m = true
  · rw [if_pos s1, if_pos (hsh s1)]
    dsimp only
    omega
  · rw [if_neg s1]
    by_cases s2 : shortR p b n = true
    · rw [if_pos s2]
      split
      · dsimp only; exact ⟨hl, by omega⟩
      · dsimp only
        exact ⟨by omega, hs⟩
    · rw [if_neg s2]
      by_cases ha : a.2 > 0
      · rw [if_pos ha, if_pos (by omega)]
        exact ⟨hl, by dsimp only; omega⟩
      · rw [if_neg ha]
        split
        · exact ⟨by dsimp only; omega, by dsimp only; omega⟩
        · exact ⟨by dsimp only; omega, h2⟩
def wetter (v w : List UInt8) : Prop := ∀ i, wetB (w.getD i 0) = true → wetB (v.getD i 0) = true
theorem wetter.refl {w : List UInt8} : wetter w w := fun _ h => h
theorem stdR_finer {q p : Pas} (G : FineG q p) (fp : pasOk p) (fq : pasOk q) {hs : List Int} {v w : List UInt8} (hv : wetter v w) (hh : headsOk hs) : ∀ k, better (stdR q hs v k) (stdR p hs w k)
  | 0 => ⟨G.grass, Int.le_refl _⟩
  | k + 1 => dayR_finer G fp (hv k) (stdR_finer G fp fq hv hh k) (stdR_ok fp hh k) (by have := stdR_sleep (heads := hs) (w := v) fq k; have := G.sleep; omega) (headsOk_getD hh k).1 (Int.le_refl _)
theorem hung_finer {q p : Pas} (G : FineG q p) (fp : pasOk p) (fq : pasOk q) {hs : List Int} {v w : List UInt8} (hv : wetter v w) (hh : headsOk hs) (k : Nat) (hx : hungAt q hs v k = true) : hungAt p hs w k = true := by
  have b := (stdR_finer G fp fq hv hh k).1
  unfold hungAt hungR at *
  rw [decide_eq_true_eq] at *
  omega
end Go.Proofs.Ythnccaajpdnndaa
namespace Go.Proofs.Ythnccaajpdnndaa
open Go.Conc Go.Proofs.Try
set_option maxRecDepth 100000
set_option maxHeartbeats 4000000
set_option linter.unusedVariables false
section
variable {main : Bool} {J : JT} {n0 : Nat} {h : List AObj} {K : Value → List AObj → Prop}
theorem at30 : prog.funcs[30]? = some f30 := by kernel_rfl
theorem body30 : f30.body = some (codeOf f30) := by kernel_rfl
def pl30 : Plans := []
def ct30 : Cuts := .go
theorem pok30 : plansOk prog pl30 (codeOf f30) = true := by kernel_rfl
theorem e30 {a0 a1 a2 : Value} : W prog J 30 h.length 30 (codeOf f30) (RG.mk (regs [a0, a1, a2]) []) h (RetQ prog [.tmp 6] h.length K) =
(Good prog J 26 [a0, a2] h fun v1 h2 =>
 Sem J 30 h.length 30 (subC [1, 1, 1, 0, 1, 0] (codeOf f30)) (RG.p (RG.p (RG.p (RG.p (RG.p (RG.p (RG.p (RG.mk (regs [a0, a1, a2]) []) 6 (Value.slice none 0 0)) 7 (Value.slice none 0 0)) 10 a0) 11 a2) 12 v1) 8 v1) 9 (vint 0)) h2 (contX pl30 prog J 30 h.length 30 ct30 [1, 1, 1, 0, 1, 0] (codeOf f30) [] (RetQ prog [.tmp 6] h.length K))) := top_eq pok30 ct30 (by kernel_rfl)
theorem g30 (hJ : Closed prog main J) {a0 a1 a2 : Value} (hs : heapOk h → W prog J 30 h.length 30 (codeOf f30) (RG.mk (regs [a0, a1, a2]) []) h (RetQ prog [.tmp 6] h.length K)) : Good prog J 30 [a0, a1, a2] h K :=
  good_of_W hJ mixed at30 body30 (by kernel_rfl) (Nat.le_of_ble_eq_true rfl) hs
theorem s30_1 {f : RG} {nx0 : RG → List AObj → Prop} : W prog J 30 n0 30 (subC [1, 1, 1, 0, 1, 0, 0] (codeOf f30)) f h (thenK nx0 (contX pl30 prog J 30 n0 30 ct30 [1, 1, 1, 0, 1, 0] (codeOf f30) [] (RetQ prog [.tmp 6] n0 K))) =
(aBin prog .lss 3 (f.r 9) (f.r 1) fun v1 =>
 cnd v1
(Good prog J 26 [(f.r 0), (f.r 2)] h fun v2 h3 =>
(((3 * 1 : Nat) ≤ 16777216 ∧ (3 : Nat) ≤ 16777216 ∧ List.length [(vint 0)] = 1) ∧ aFill (zrep [(vint 0)] 3) [(0, 1, (f.r 8)), (1, 1, (vint 0)), (2, 1, v2)] fun c4 =>
 aNewS 3 c4 h3 fun v5 h6 =>
 Good prog J 69 [(f.r 0), (f.r 8), v5] h6 fun v7 h8 =>
(((1 * 1 : Nat) ≤ 16777216 ∧ (1 : Nat) ≤ 16777216 ∧ List.length [(vint 0)] = 1) ∧ aFill (zrep [(vint 0)] 1) [(0, 1, v7)] fun c9 =>
 aNewS 1 c9 h8 fun v10 h11 =>
((List.length [(vint 0)] = 1 ∧ 0 < (1 : Nat) ∧ 0 < (8 : Nat) ∧ (8 : Nat) ≤ 1024) ∧ aApp 1 (f.r 7) v10 h11 fun v12 h13 =>
 aBin prog .add 3 (f.r 9) (vint 1) fun v14 =>
 nx0 (RG.p (RG.p (RG.p (RG.p (RG.p (RG.p (RG.p (RG.p (RG.p (RG.p (RG.p (RG.p (RG.p (RG.p (RG.p (RG.p (RG.p (RG.p f 13 (f.r 9)) 14 (f.r 1)) 15 v1) 18 (f.r 7)) 19 (f.r 0)) 20 (f.r 8)) 21 (f.r 8)) 22 (f.r 0)) 23 (f.r 2)) 24 v2) 25 v5) 26 v7) 27 v10) 28 v12) 7 v12) 16 (f.r 9)) 17 v14) 9 v14) h13))))
(retL n0 K f.ds [(f.r 7)] h)) := sub_eq pok30 ct30 (by kernel_rfl)
theorem l30_1 (hJ : Closed prog main J) {S : Type} (μ : S → Nat) (I : S → RG → List AObj → Prop) (hI : ∀ s f h, I s f h → heapOk h → n0 ≤ h.length → W prog J 30 n0 30 (subC [1, 1, 1, 0, 1, 0, 0] (codeOf f30)) f h (thenK (Nx n0 μ I s) (contX pl30 prog J 30 n0 30 ct30 [1, 1, 1, 0, 1, 0] (codeOf f30) [] (RetQ prog [.tmp 6] n0 K))))
  {s : S} {f : RG} (hi : Gets n0 I s f h) : Sem J 30 n0 30 (subC [1, 1, 1, 0, 1, 0] (codeOf f30)) f h (contX pl30 prog J 30 n0 30 ct30 [1, 1, 1, 0, 1, 0] (codeOf f30) [] (RetQ prog [.tmp 6] n0 K)) :=
  loop_rule hJ mixed (b := subC [1, 1, 1, 0, 1, 0, 0] (codeOf f30)) (by kernel_rfl) μ I hI hi
theorem at31 : prog.funcs[31]? = some f31 := by kernel_rfl
theorem body31 : f31.body = some (codeOf f31) := by kernel_rfl
def pl31 : Plans := []
def ct31 : Cuts := .go
theorem pok31 : plansOk prog pl31 (codeOf f31) = true := by kernel_rfl
theorem e31 {a0 a1 : Value} : W prog J 19 h.length 31 (codeOf f31) (RG.mk (regs [a0, a1]) []) h (RetQ prog [.tmp 4] h.length K) =
(Sem J 19 h.length 31 (subC [1, 1, 0, 1, 0] (codeOf f31)) (RG.p (RG.p (RG.p (RG.mk (regs [a0, a1]) []) 4 (Value.string { data := #[] })) 5 (Value.string { data := #[] })) 6 (vint 0)) h (contX pl31 prog J 19 h.length 31 ct31 [1, 1, 0, 1, 0] (codeOf f31) [] (RetQ prog [.tmp 4] h.length K))) := top_eq pok31 ct31 (by kernel_rfl)
theorem g31 (hJ : Closed prog main J) {a0 a1 : Value} (hs : heapOk h → W prog J 19 h.length 31 (codeOf f31) (RG.mk (regs [a0, a1]) []) h (RetQ prog [.tmp 4] h.length K)) : Good prog J 31 [a0, a1] h K :=
  good_of_W hJ mixed at31 body31 (by kernel_rfl) (Nat.le_of_ble_eq_true rfl) hs
theorem s31_1 {f : RG} {nx0 : RG → List AObj → Prop} : W prog J 19 n0 31 (subC [1, 1, 0, 1, 0, 0] (codeOf f31)) f h (thenK nx0 (contX pl31 prog J 19 n0 31 ct31 [1, 1, 0, 1, 0] (codeOf f31) [] (RetQ prog [.tmp 4] n0 K))) =
(aBin prog .lss 3 (f.r 6) (f.r 1) fun v1 =>
 cnd v1
(Good prog J 42 [(f.r 0), (vint 1), (vint 2)] h fun v2 h3 =>
 cnd v2
(aBin prog .add 9 (f.r 5) (Value.string { data := #[100] }) fun v4 =>
 aBin prog .add 3 (f.r 6) (vint 1) fun v5 =>
 nx0 (RG.p (RG.p (RG.p (RG.p (RG.p (RG.p (RG.p (RG.p (RG.p (RG.p (RG.p f 7 (f.r 6)) 8 (f.r 1)) 9 v1) 12 (f.r 0)) 13 v2) 14 (f.r 5)) 15 v4) 5 v4) 10 (f.r 6)) 11 v5) 6 v5) h3)
(aBin prog .add 9 (f.r 5) (Value.string { data := #[119] }) fun v6 =>
 aBin prog .add 3 (f.r 6) (vint 1) fun v7 =>
 nx0 (RG.p (RG.p (RG.p (RG.p (RG.p (RG.p (RG.p (RG.p (RG.p (RG.p (RG.p f 7 (f.r 6)) 8 (f.r 1)) 9 v1) 12 (f.r 0)) 13 v2) 16 (f.r 5)) 17 v6) 5 v6) 10 (f.r 6)) 11 v7) 6 v7) h3))
(retL n0 K f.ds [(f.r 5)] h)) := sub_eq pok31 ct31 (by kernel_rfl)
theorem l31_1 (hJ : Closed prog main J) {S : Type} (μ : S → Nat) (I : S → RG → List AObj → Prop) (hI : ∀ s f h, I s f h → heapOk h → n0 ≤ h.length → W prog J 19 n0 31 (subC [1, 1, 0, 1, 0, 0] (codeOf f31)) f h (thenK (Nx n0 μ I s) (contX pl31 prog J 19 n0 31 ct31 [1, 1, 0, 1, 0] (codeOf f31) [] (RetQ prog [.tmp 4] n0 K))))
  {s : S} {f : RG} (hi : Gets n0 I s f h) : Sem J 19 n0 31 (subC [1, 1, 0, 1, 0] (codeOf f31)) f h (contX pl31 prog J 19 n0 31 ct31 [1, 1, 0, 1, 0] (codeOf f31) [] (RetQ prog [.tmp 4] n0 K)) :=
  loop_rule hJ mixed (b := subC [1, 1, 0, 1, 0, 0] (codeOf f31)) (by kernel_rfl) μ I hI hi
theorem at42 : prog.funcs[42]? = some f42 := by kernel_rfl
theorem body42 : f42.body = some (codeOf f42) := by kernel_rfl
def pl42 : Plans := []
def ct42 : Cuts := .go
theorem pok42 : plansOk prog pl42 (codeOf f42) = true := by kernel_rfl
theorem e42 {a0 a1 a2 : Value} : W prog J 13 h.length 42 (codeOf f42) (RG.mk (regs [a0, a1, a2]) []) h (RetQ prog [.tmp 6] h.length K) =
(aBin prog .sub 3 a2 (vint 1) fun v1 =>
 Good prog J 26 [a0, v1] h fun v2 h3 =>
 aBin prog .lss 3 v2 a1 fun v4 =>
 retL h.length K [] [v4] h3) := top_eq pok42 ct42 (by kernel_rfl)
theorem g42 (hJ : Closed prog main J) {a0 a1 a2 : Value} (hs : heapOk h → W prog J 13 h.length 42 (codeOf f42) (RG.mk (regs [a0, a1, a2]) []) h (RetQ prog [.tmp 6] h.length K)) : Good prog J 42 [a0, a1, a2] h K :=
  good_of_W hJ mixed at42 body42 (by kernel_rfl) (Nat.le_of_ble_eq_true rfl) hs
end
end Go.Proofs.Ythnccaajpdnndaa
namespace Go.Proofs.Ythnccaajpdnndaa
open Go.Conc Go.Proofs.Try
set_option maxRecDepth 100000
section
variable {main : Bool} {J : JT} {h H : List AObj} {K : Value → List AObj → Prop} {KV : Value → Prop} {HL : List AObj → Prop} {n0 : Nat} {ns : List Int} {k : Nat}
theorem strAddR {c : UInt8} {u : List UInt8} {t : TypeId} (hu : u.length ≤ 1000000) (hk : KV (strV (u ++ [c]))) : aBin prog .add t (strV u) (Value.string { data := #[c] }) KV := by
  have hrm : (2000000 : Nat) < room := by decide
  show (ByteArray.mk ⟨u⟩).size + (ByteArray.mk #[c]).size ≤ room ∧ KV (.string (ByteArray.mk ⟨u⟩ ++ ByteArray.mk #[c]))
  have e1 : (ByteArray.mk #[c]).size = 1 := rfl
  have e2 : (ByteArray.mk ⟨u⟩).size = u.length := rfl
  have e3 : ByteArray.mk ⟨u⟩ ++ ByteArray.mk #[c] = ByteArray.mk ⟨u ++ [c]⟩ := by
    apply ByteArray.ext
    rw [ByteArray.data_append]
    apply Array.ext'
    rw [Array.toList_append]
  rw [e1, e2, e3]
  exact ⟨by omega, hk⟩
theorem good42 (hJ : Closed prog main J) (a : HX h H ns k) (hk : k < 900000) {x y : Int} (hy : -1000000 ≤ y ∧ y ≤ 1000000)
    (hK : ∀ b H', SameX [h.length] H H' → H'.length = H.length → HX h H' ns (k + 1) → K (.bool b) H') : Good prog J 42 [ptr h.length 0, vint x, vint y] H K := by
  refine g42 hJ fun ok => ?_
  rw [e42]
  refine subI (by omega) (upX hJ a (by omega) (by omega) fun u H1 u1 u2 S1 l1 a1 => lssI (retL_same (by simp [unk]) (hK _ H1 S1 l1 a1)))
theorem good30 (hJ : Closed prog main J) (a : HX h H ns k) (hk : k < 400000) {D : Nat} {m : Int} (hD : D ≤ 8) (hm : 0 ≤ m ∧ m ≤ 40)
    (hK : ∀ (xs : List Int) v o H', xs.length = D → (∀ x ∈ xs, 0 ≤ x ∧ x ≤ m) → SameX [h.length] H H' → HX h H' ns (k + 20) → OwnX H' 1 (xs.map vint) D v o → (∀ i, o = some i → H.length ≤ i) → K v H') : Good prog J 30 [ptr h.length 0, vint (D : Nat), vint m] H K := by
  refine g30 hJ fun ok => ?_
  rw [e30]
  have hlt := hxLt a
  refine upX hJ a (by omega) (by omega) fun u H1 u1 u2 S1 l1 a1 => ?_
  refine l30_1 hJ (fun i : Nat => D - i) (fun i F H' => i ≤ D ∧ (∃ xs v o, xs.length = i ∧ (∀ x ∈ xs, 0 ≤ x ∧ x ≤ m) ∧ OwnX H' 1 (xs.map vint) i v o ∧ (∀ j, o = some j → H.length ≤ j) ∧ F.r 7 = v) ∧ SameX [h.length] H H' ∧ HX h H' ns (k + 1 + 2 * i) ∧ F.ds = [] ∧ F.r 0 = ptr h.length 0 ∧ F.r 1 = vint (D : Nat) ∧ F.r 2 = vint m ∧ F.r 8 = vint u ∧ F.r 9 = vint (i : Nat)) ?_ (s := 0)
    (.inl ⟨Nat.zero_le _, ⟨[], _, none, rfl, by simp, ⟨rfl, rfl, .inl ⟨rfl, rfl, rfl⟩⟩, by simp, rfl⟩, S1, a1, rfl, rfl, rfl, rfl, rfl, rfl⟩)
  rintro i F H' ⟨hi, ⟨xs, v, o, hx, hxs, O, ho, r7⟩, S, b, ds, r0, r1, r2, r8, r9⟩ okc hnc
  rw [s30_1, r0, r1, r2, r7, r8, r9, ds]
  have hS := S.1
  refine lssI (cndI (fun hl => ?_) fun hge => ?_)
  · refine upX hJ b (by omega) (by omega) fun y H2 y1 y2 S2 l2 b2 => ⟨by decide, fillO (l := [vint u]) rfl rfl rfl (by decide) (fillO (l := [vint 0]) rfl rfl rfl (by rw [wrAt_length]; decide) (fillO (l := [vint y]) rfl rfl rfl (by rw [wrAt_length, wrAt_length]; decide) (fillI (qNew fun H3 p3 e3 S3 c3 l3 => ?_))))⟩
    have c3 : H3[p3]? = some (.cells (([u, 0, y] : List Int).map vint) true 0) := c3
    refine ofZ hJ (b2.same S3 (by simp)) (by omega) c3 (by omega) rfl (by simp) fun z H4 m4 S4 l4 b4 => ?_
    have hz : 0 ≤ z ∧ z ≤ m := by
      rcases m4 with e | e
      · omega
      · simp only [List.mem_cons, List.not_mem_nil, or_false] at e
        omega
    refine ⟨by decide, fillO (l := [vint z]) rfl rfl rfl (by decide) (fillI (qNew fun H5 p5 e5 S5 c5 l5 => ?_))⟩
    have S25 : SameX [h.length] H' H5 := ((S2.trans S3.weak0).trans S4).trans S5.weak0
    have T5 := S.trans S25
    have hno : ∀ j, o = some j → j ∉ [h.length] := fun j hj => by
      have := ho j hj
      simp
      omega
    refine ⟨by decide, ownX_more (ownX_keep O S25 hno) (by decide) (by omega) (e := [vint z]) ⟨_, _, rfl, ⟨rfl, rfl⟩, .inr ⟨p5, 0, rfl, .inr ⟨_, _, _, c5, rfl⟩⟩⟩ fun v' H6 p6 e6 O6 S6 => ?_⟩
    have h5 := T5.1
    refine addI (by omega) ⟨i + 1, by dsimp only; omega, .inl ⟨by omega, ⟨xs ++ [z], v', some p6, by simp [hx], ?_, by rw [List.map_append]; exact O6, fun j hj => by cases hj; omega, rfl⟩, T5.thru S6 fun y hy => .inr (ho y (by simpa using hy)), ?_, ds, r0, r1, r2, r8, by show vint _ = vint _; congr 1⟩⟩
    · intro x hxm
      rcases List.mem_append.1 hxm with e | e
      · exact hxs x e
      · rw [List.mem_singleton.1 e]
        exact hz
    · refine HX.mono (HX.same (HX.same b4 S5 (by simp)) S6 fun x hx => ?_) (by omega)
      have := ho x (by simpa using hx)
      omega
  · have : i = D := by omega
    subst this
    refine retL_same ?_ (hK xs v o H' hx hxs S (b.mono (by omega)) O ho)
    intro x hx
    rw [List.mem_singleton.1 hx]
    exact ownU O
theorem good31 (hJ : Closed prog main J) (a : HX h H ns k) (hk : k < 400000) {D : Nat} (hD : D ≤ 8)
    (hK : ∀ (w : List UInt8) H', w.length = D → (∀ c ∈ w, c = 100 ∨ c = 119) → SameX [h.length] H H' → HX h H' ns (k + 8) → K (strV w) H') : Good prog J 31 [ptr h.length 0, vint (D : Nat)] H K := by
  refine g31 hJ fun ok => ?_
  rw [e31]
  have hlt := hxLt a
  refine l31_1 hJ (fun i : Nat => D - i) (fun i F H' => i ≤ D ∧ (∃ w, w.length = i ∧ (∀ c ∈ w, c = 100 ∨ c = 119) ∧ F.r 5 = strV w) ∧ SameX [h.length] H H' ∧ HX h H' ns (k + i) ∧ F.ds = [] ∧ F.r 0 = ptr h.length 0 ∧ F.r 1 = vint (D : Nat) ∧ F.r 6 = vint (i : Nat)) ?_ (s := 0)
    (.inl ⟨Nat.zero_le _, ⟨[], rfl, by simp, rfl⟩, SameX.refl, a, rfl, rfl, rfl, rfl⟩)
  rintro i F H' ⟨hi, ⟨w, hw, hc, r5⟩, S, b, ds, r0, r1, r6⟩ okc hnc
  rw [s31_1, r0, r1, r5, r6, ds]
  refine lssI (cndI (fun hl => ?_) fun hge => ?_)
  · have more : ∀ {c : UInt8}, (c = 100 ∨ c = 119) → ∀ d ∈ w ++ [c], d = 100 ∨ d = 119 := fun {c} h d hd => by
      rcases List.mem_append.1 hd with e | e
      · exact hc d e
      · rw [List.mem_singleton.1 e]
        exact h
    refine good42 hJ b (by omega) (by omega) fun z H2 S2 l2 b2 => cndB (fun _ => ?_) fun _ => ?_
    · exact strAddR (by omega) (addI (by omega) ⟨i + 1, by dsimp only; omega, .inl ⟨by omega, ⟨w ++ [100], by simp [hw], more (.inl rfl), rfl⟩, S.trans S2, b2, ds, r0, r1, by show vint _ = vint _; congr 1⟩⟩)
    · exact strAddR (by omega) (addI (by omega) ⟨i + 1, by dsimp only; omega, .inl ⟨by omega, ⟨w ++ [119], by simp [hw], more (.inr rfl), rfl⟩, S.trans S2, b2, ds, r0, r1, by show vint _ = vint _; congr 1⟩⟩)
  · have : i = D := by omega
    subst this
    exact retL_same (by simp [unk, strV]) (hK w H' hw hc S (b.mono (by omega)))
end
theorem ask_ok {p : Pas} {heads : List Int} {w : List UInt8} (f : pasOk p) (hw : 1 ≤ w.length ∧ w.length ≤ 8) (hl : heads.length = w.length) (hh : headsOk heads) (ho : wordOk w) : askE p heads w = 0 := by
  have e1 : cntE (w.length : Nat) 1 8 = 0 := by
    unfold cntE
    rw [if_neg (by omega), if_neg (by omega)]
  have e2 : fst2 (pasE p) (cntE (w.length : Nat) 1 8) = 0 := by
    unfold pasE
    rw [if_pos f, e1]
    rfl
  have e3 : hunE heads (w.length : Nat) = 0 := by
    unfold hunE
    have e4 : cntE (heads.length : Nat) (w.length : Nat) (w.length : Nat) = 0 := by
      unfold cntE
      rw [if_neg (by omega), if_neg (by omega)]
    have hq : ∀ n ∈ heads, 0 ≤ n ∧ n ≤ 40 := hh
    rw [if_neg (not_not_intro e4), if_pos hq]
  unfold askE
  rw [if_neg (not_not_intro e2), if_neg (not_not_intro e3), if_pos ho]
theorem endsZ_get {p : Pas} {hs : List Int} {w : List UInt8} {k i : Nat} (h : i < k) : (endsZ p hs w k)[i]? = some (stdR p hs w (i + 1)).1 := by
  unfold endsZ
  rw [List.getElem?_map, List.getElem?_range h]
  rfl
theorem daysR_mem {q : Nat → Bool} {n i : Nat} : (i : Int) ∈ daysR q n ↔ i < n ∧ q i = true := by
  unfold daysR
  rw [List.mem_map]
  constructor
  · rintro ⟨j, hj, e⟩
    obtain ⟨h1, h2⟩ := List.mem_filter.1 hj
    have : j = i := Int.ofNat_inj.1 e
    subst this
    exact ⟨List.mem_range.1 h1, h2⟩
  · rintro ⟨h1, h2⟩
    exact ⟨i, List.mem_filter.2 ⟨List.mem_range.2 h1, h2⟩, rfl⟩
theorem daysR_all {q : Nat → Bool} : ∀ {n : Nat} {x : Int}, x ∈ daysR q n → 0 ≤ x ∧ x < n := by
  intro n x hx
  unfold daysR at hx
  obtain ⟨j, hj, rfl⟩ := List.mem_map.1 hx
  have := List.mem_range.1 (List.mem_filter.1 hj).1
  exact ⟨Int.natCast_nonneg j, by show ((j : Nat) : Int) < n; omega⟩
theorem daysR_up {q : Nat → Bool} {n : Nat} : (daysR q n).Pairwise (· < ·) := by
  unfold daysR
  rw [List.pairwise_map]
  exact (List.pairwise_lt_range.filter _).imp fun h => Int.ofNat_lt.2 h
theorem daysR_first {q q' : Nat → Bool} {n : Nat} (h : ∀ i, q i = true → q' i = true) : daysR q n = [] ∨ ∃ x y, (daysR q' n)[0]? = some x ∧ (daysR q n)[0]? = some y ∧ x ≤ y := by
  cases e : daysR q n with
  | nil => exact .inl rfl
  | cons y l =>
    right
    have hy : y ∈ daysR q n := by rw [e]; exact List.mem_cons_self ..
    obtain ⟨y0, yn⟩ := daysR_all hy
    obtain ⟨i, rfl⟩ := Int.eq_ofNat_of_zero_le y0
    have hm := daysR_mem.2 ⟨(daysR_mem.1 hy).1, h i (daysR_mem.1 hy).2⟩
    cases e' : daysR q' n with
    | nil => rw [e'] at hm; cases hm
    | cons x l' =>
      refine ⟨x, i, rfl, rfl, ?_⟩
      rw [e'] at hm
      rcases List.mem_cons.1 hm with hh | hh
      · omega
      · have := daysR_up (q := q') (n := n)
        rw [e'] at this
        have := List.rel_of_pairwise_cons this hh
        omega
section
variable {H : List AObj}
theorem sliBlkC {v : Value} {xs : List Int} (hs : Sli H v 1 xs.length (xs.map vint)) (h0 : 0 < xs.length) : ∃ b cs wr sz, H[b]? = some (.cells cs wr sz) ∧ ∀ {i : Nat} {x : Int} {K2 : Value → Value → Prop}, xs[i]? = some x → (∀ o, K2 (ptr b o) (vint x)) → aIdx 1 v (vint (i : Nat)) fun p => aLoad false 1 p H (K2 p) := by
  obtain ⟨base, c, rfl, ⟨hl, hkn⟩, ⟨_, hz⟩ | ⟨b, o, rfl, hz | ⟨cs, wr, sz, hb, hc⟩⟩⟩ := hs
  · omega
  · omega
  · refine ⟨b, cs, wr, sz, hb, fun {i x K2} hx hk => ?_⟩
    have hi := (List.getElem?_eq_some_iff.1 hx).1
    refine idxI ⟨by omega, by omega⟩ (ldI (v := vint x) hb ?_ rfl (hk _))
    have e : (xs.map vint)[i]? = some (vint x) := by rw [List.getElem?_map, hx]; rfl
    rw [← hc, List.getElem?_take_of_lt (by omega), List.getElem?_drop] at e
    rw [Int.toNat_natCast, Nat.mul_one]
    exact e
theorem get_unch {b : Nat} {cs : List Value} {wr : Bool} {sz : Nat} {H' : List AObj} (c : H[b]? = some (.cells cs wr sz)) (S : SameX [] (unch H) H') : H'[b]? = H[b]? := by
  have e : (unch H)[b]? = some (.cells cs wr sz) := by
    unfold unch
    rw [List.getElem?_map, c]
    rfl
  rw [S.get e (by simp), c]
end
section
variable {W0 : World} {Post : Value → World → Prop} {h : List AObj} {K : Value → List AObj → Prop}
set_option maxHeartbeats 1000000 in
theorem walk9 {nv : Value} {ns : List Int} (sn : Sli h nv 1 ns.length (ns.map vint)) (hln : ns.length < 4611686018427387904) (hK : ∀ H', K (.bool true) H') :
    W prog (J2 prog W0 Post) 136 h.length 9 (codeOf f9) (RG.mk (regs [nv]) []) h (RetQ prog [.tmp 2] h.length K) := by
  have hJ := J2.closed prog W0 Post
  rw [e9]
  refine newX hJ sn hln fun H1 a1 => good24 hJ a1 (by omega) fun p H2 fp _ S2 a2 => amX hJ a2 (by omega) (by omega) (by omega) fun dy H3 d0 d1 S3 l3' a3 => ?_
  obtain ⟨d, rfl⟩ := Int.eq_ofNat_of_zero_le (by omega : 0 ≤ dy)
  have l3 := hxLt a3
  refine qAl fun H4 p4 e4 S4 c4 l4 => qStA (c := p.cells) c4 rfl rfl rfl fun H5 S5 c5 l5 => ?_
  have T35 : SameX [] H3 H5 := S4.thru S5 (by simp; omega)
  have a5 := HX.same a3 T35 (by simp)
  have b4 := lt_of_get c5
  refine good30 hJ a5 (by omega) (by omega) (by omega) fun xs hv o H6 hx hxs S6 a6 O6 ho => ?_
  subst hx
  have hh : headsOk xs := fun x hx => ⟨(hxs x hx).1, by have := (hxs x hx).2; omega⟩
  refine good31 hJ a6 (by omega) (by omega) fun w H7 hw hc S7 a7 => ?_
  have no : ∀ i, o = some i → i ∉ [h.length] := fun i hi => by
    have := ho i hi
    simp
    omega
  have O7 := ownX_keep O6 S7 no
  have cp7 := (S6.trans S7).get c5 (by simp; omega)
  have wo : wordOk w := fun b hb => hc b hb
  -- behind the rains: compared
  have behind : ∀ {F : RG} {H' : List AObj} {u : List UInt8} {va vb vc vd : Value}, u.length = xs.length → wetter u w → F.ds = [] → F.r 5 = vint (xs.length : Nat) → F.r 10 = va → F.r 12 = vb → F.r 14 = vc → F.r 16 = vd → F.r 101 = .bool false →
      Sli H' va 1 (endsZ p xs w xs.length).length ((endsZ p xs w xs.length).map vint) → Sli H' vb 1 (endsZ p xs u xs.length).length ((endsZ p xs u xs.length).map vint) → Sli H' vc 1 (daysR (hungAt p xs w) xs.length).length ((daysR (hungAt p xs w) xs.length).map vint) → Sli H' vd 1 (daysR (hungAt p xs u) xs.length).length ((daysR (hungAt p xs u) xs.length).map vint) →
      W prog (J2 prog W0 Post) 136 h.length 9 (subC [1, 1, 1, 1, 1, 1, 1, 1, 1, 1, 0, 1] (codeOf f9)) F H' (contX pl9 prog (J2 prog W0 Post) 136 h.length 9 ct9 [1, 1, 1, 1, 1, 1, 1, 1, 1, 1, 0, 1] (codeOf f9) [] (RetQ prog [.tmp 2] h.length K)) := by
    intro F H' u va vb vc vd hu wet ds r5 r10 r12 r14 r16 r101 sa sb sc sd
    rw [s9_3, r101]
    refine cnd_false.2 ?_
    refine l9_4 hJ (fun i : Nat => xs.length - i) (fun i F H2 => i ≤ xs.length ∧ H2 = H' ∧ F.ds = [] ∧ F.r 5 = vint (xs.length : Nat) ∧ F.r 10 = va ∧ F.r 12 = vb ∧ F.r 14 = vc ∧ F.r 16 = vd ∧ F.r 18 = vint (i : Nat)) ?_ (s := 0)
      (.inl ⟨Nat.zero_le _, rfl, ds, r5, r10, r12, r14, r16, rfl⟩)
    clear ds r5 r10 r12 r14 r16 r101
    rintro i F H2 ⟨hi, rfl, ds, r5, r10, r12, r14, r16, r18⟩ okc hnc
    rw [s9_4, r5, r10, r12, r14, r16, r18, ds]
    refine lssI (cndI (fun hl => ?_) fun _ => ?_)
    · have ga := endsZ_get (p := p) (hs := xs) (w := w) (k := xs.length) (i := i) (by omega)
      have gb := endsZ_get (p := p) (hs := xs) (w := u) (k := xs.length) (i := i) (by omega)
      have le := (stdR_finer (q := p) (p := p) FineG.refl fp fp wet hh (i + 1)).1
      exact sliN sb gb fun q => sliN sa ga fun q2 => lssI (cndI (fun h => absurd h (by omega)) fun _ => addI (by omega) ⟨i + 1, by dsimp only; omega, .inl ⟨by omega, rfl, ds, r5, r10, r12, r14, r16, by show vint _ = vint _; congr 1⟩⟩)
    · rcases daysR_first (q := hungAt p xs u) (q' := hungAt p xs w) (n := xs.length) (fun i => hung_finer FineG.refl fp fp wet hh i) with e | ⟨x, y, ex, ey, hxy⟩
      · refine ⟨[], lenI sd ⟨by rw [mbSli sd]; trivial, eqlI (cndI (fun _ => good21 fun H13 _ => ⟨fun b hb => (by cases hb), retL_same (by simp [unk]) (hK H13)⟩) fun h => absurd (by rw [e]; rfl) h)⟩⟩
      · have lx := (List.getElem?_eq_some_iff.1 ex).1
        have ly := (List.getElem?_eq_some_iff.1 ey).1
        obtain ⟨b1, cs1, w1, z1, g1, r1⟩ := sliBlkC sc lx
        obtain ⟨b2, cs2, w2, z2, g2, r2⟩ := sliBlkC sd ly
        refine ⟨[b1, b2], lenI sd ⟨by rw [mbSli sd]; trivial, eqlI (cndI (fun h => absurd h (by omega)) fun _ => lenI sc ⟨by rw [mbSli sc]; trivial, gtrI (cndI (fun _ => ?_) fun h => absurd (by omega) h)⟩)⟩⟩
        refine r1 (i := 0) ex fun o1 => ⟨by simp [RdOk, ptrBlk], r2 (i := 0) ey fun o2 => ⟨by simp [RdOk, ptrBlk], leqI (cndI (fun _ => good21 fun H13 S13 => ⟨fun b hb => ?_, retL_same (by simp [unk]) (hK H13)⟩) fun h => absurd hxy h)⟩⟩
        simp only [List.mem_cons, List.not_mem_nil, or_false] at hb
        rcases hb with rfl | rfl
        · exact get_unch g1 S13
        · exact get_unch g2 S13
  refine l9_1 hJ (fun i : Nat => xs.length - i) (fun i F H' => i ≤ xs.length ∧ (∃ u : List UInt8, u.length = i ∧ (∀ c ∈ u, c = 100 ∨ c = 119) ∧ (∀ j, j < i → wetB (w.getD j 0) = true → wetB (u.getD j 0) = true) ∧ F.r 8 = strV u) ∧ SameX [h.length] H7 H' ∧ HX h H' ns (400 + i) ∧ F.ds = [] ∧ F.r 3 = ptr h.length 0 ∧ F.r 4 = ptr p4 0 ∧ F.r 5 = vint (xs.length : Nat) ∧ F.r 6 = hv ∧ F.r 7 = strV w ∧ F.r 9 = vint (i : Nat)) ?_ (s := 0)
    (.inl ⟨Nat.zero_le _, ⟨[], rfl, by simp, fun j hj => absurd hj (Nat.not_lt_zero _), rfl⟩, SameX.refl, a7.mono (by omega), rfl, rfl, rfl, rfl, rfl, rfl, rfl⟩)
  rintro i F H' ⟨hi, ⟨u, hu, huc, huw, r8⟩, S, b, ds, r3, r4, r5, r6, r7, r9⟩ okc hnc
  rw [s9_1, r3, r4, r5, r6, r7, r8, r9]
  refine lssI (cndI (fun hl => ?_) fun hge => ?_)
  · have hb : w[i]? = some (w.getD i 0) := by
      rw [List.getD_eq_getElem?_getD, List.getElem?_eq_getElem (by omega)]
      rfl
    have more : ∀ {c : UInt8}, (wetB (w.getD i 0) = true → wetB c = true) → ∀ j, j < i + 1 → wetB (w.getD j 0) = true → wetB ((u ++ [c]).getD j 0) = true := fun {c} hc j hj hwj => by
      rw [List.getD_eq_getElem?_getD]
      by_cases e : j = i
      · rw [List.getElem?_append_right (by omega), show j - u.length = 0 by omega]
        rw [e] at hwj
        exact hc hwj
      · rw [List.getElem?_append_left (by omega), ← List.getD_eq_getElem?_getD]
        exact huw j (by omega) hwj
    have let2 : ∀ {c : UInt8}, (c = 100 ∨ c = 119) → ∀ e ∈ u ++ [c], e = 100 ∨ e = 119 := fun {c} hc e he => by
      rcases List.mem_append.1 he with h | h
      · exact huc e h
      · rw [List.mem_singleton.1 h]
        exact hc
    have next : ∀ {F2 : RG} {H2 : List AObj} {z : Bool}, (wetB (w.getD i 0) = true → z = true) → SameX [h.length] H7 H2 → HX h H2 ns (400 + (i + 1)) → F2.ds = [] → F2.r 3 = ptr h.length 0 → F2.r 4 = ptr p4 0 → F2.r 5 = vint (xs.length : Nat) → F2.r 6 = hv → F2.r 7 = strV w → F2.r 8 = strV u → F2.r 9 = vint (i : Nat) → F2.r 43 = .bool z →
        W prog (J2 prog W0 Post) 136 h.length 9 (subC [1, 1, 1, 1, 1, 0, 1, 0, 0, 1, 0, 0, 1] (codeOf f9)) F2 H2 (contX pl9 prog (J2 prog W0 Post) 136 h.length 9 ct9 [1, 1, 1, 1, 1, 0, 1, 0, 0, 1, 0, 0, 1] (codeOf f9) [Nx h.length (fun i : Nat => xs.length - i) (fun i F H' => i ≤ xs.length ∧ (∃ u : List UInt8, u.length = i ∧ (∀ c ∈ u, c = 100 ∨ c = 119) ∧ (∀ j, j < i → wetB (w.getD j 0) = true → wetB (u.getD j 0) = true) ∧ F.r 8 = strV u) ∧ SameX [h.length] H7 H' ∧ HX h H' ns (400 + i) ∧ F.ds = [] ∧ F.r 3 = ptr h.length 0 ∧ F.r 4 = ptr p4 0 ∧ F.r 5 = vint (xs.length : Nat) ∧ F.r 6 = hv ∧ F.r 7 = strV w ∧ F.r 9 = vint (i : Nat)) i] (RetQ prog [.tmp 2] h.length K)) := by
      intro F2 H2 z hz S2 b2 ds2 q3 q4 q5 q6 q7 q8 q9 q43
      rw [s9_2, q8, q9, q43]
      refine cndB (fun hz1 => ?_) fun hz0 => ?_
      · exact strAddR (by omega) (addI (by omega) ⟨i + 1, by dsimp only; omega, .inl ⟨by omega, ⟨u ++ [119], by simp [hu], let2 (.inr rfl), more (fun _ => by decide), rfl⟩, S2, b2, ds2, q3, q4, q5, q6, q7, by show vint _ = vint _; congr 1⟩⟩)
      · exact strAddR (by omega) (addI (by omega) ⟨i + 1, by dsimp only; omega, .inl ⟨by omega, ⟨u ++ [100], by simp [hu], let2 (.inl rfl), more (fun h => by rw [hz h] at hz0; cases hz0), rfl⟩, S2, b2, ds2, q3, q4, q5, q6, q7, by show vint _ = vint _; congr 1⟩⟩)
    refine byteI hb (eqlW (cndB (fun hwet => hold.2 (next (z := true) (fun _ => rfl) S (b.mono (by omega)) ds r3 r4 r5 r6 r7 r8 r9 rfl)) fun hdry => ?_))
    exact good42 hJ b (by omega) (by omega) fun z H2 S2 l2 b2 => hold.2 (next (z := z) (fun h => by rw [hdry] at h; cases h) (S.trans S2) (b2.mono (by omega)) ds r3 r4 r5 r6 r7 r8 r9 rfl)
  · have : i = xs.length := by omega
    subst this
    have wet : wetter u w := fun j hj => by
      by_cases e : j < xs.length
      · exact huw j e hj
      · rw [List.getD_eq_getElem?_getD, List.getElem?_eq_none (by omega)] at hj
        exact absurd hj (by decide)
    have uo : wordOk u := fun b hb => huc b hb
    have cp := S.get cp7 (by simp; omega)
    have sv := ownX_sli (ownX_keep O7 S no)
    have zw : askE p xs w = 0 := ask_ok fp (by omega) (by omega) hh wo
    have zu : askE p xs u = 0 := ask_ok fp (by omega) (by omega) hh uo
    have ez : ∀ {H' : List AObj} {w : List UInt8} {v : Value}, w.length = xs.length → Sli H' v 1 w.length ((endsZ p xs w w.length).map vint) → Sli H' v 1 (endsZ p xs w xs.length).length ((endsZ p xs w xs.length).map vint) := fun {H' w v} hw sv => by
      rw [hw] at sv
      rw [endsZ_len]
      exact sv
    refine load_part (c := p.cells) cp (by simp [Pas.cells]) rfl rfl ?_
    refine good32 hJ sv (by omega) (by omega) (fun h => absurd zw h) fun _ H8 va S8 sa => ext0 (ext1 ?_)
    refine load_part (c := p.cells) (S8.get cp (by simp)) (by simp [Pas.cells]) rfl rfl ?_
    refine good32 hJ (S8.sli sv (by simp)) (by omega) (by omega) (fun h => absurd zu h) fun _ H9 vb S9 sb => ext0 (ext1 ?_)
    have S89 := S8.trans S9
    refine load_part (c := p.cells) (S89.get cp (by simp)) (by simp [Pas.cells]) rfl rfl ?_
    refine good43 hJ (S89.sli sv (by simp)) (by omega) (by omega) (fun h => absurd zw h) fun _ H10 vc S10 sc => ext0 (ext1 ?_)
    have S810 := S89.trans S10
    refine load_part (c := p.cells) (S810.get cp (by simp)) (by simp [Pas.cells]) rfl rfl ?_
    refine good43 hJ (S810.sli sv (by simp)) (by omega) (by omega) (fun h => absurd zu h) fun _ H11 vd S11 sd => ext0 (ext1 ?_)
    rw [hw] at sc
    rw [hu] at sd
    have sa' := ((S9.trans S10).trans S11).sli (ez hw sa) (by simp)
    have sb' := (S10.trans S11).sli (ez hu sb) (by simp)
    refine neqI (cndI (fun h => absurd rfl h) fun _ => neqI (cndI (fun h => absurd rfl h) fun _ => neqI (cndI (fun h => absurd rfl h) fun _ => neqI (cndI (fun h => absurd rfl h) fun _ => lenI sa' (neqI (cndI (fun h => absurd (by rw [endsZ_len]) h) fun _ => lenI sb' (neqI (hold.2 ?_))))))))
    exact behind hu wet ds r5 rfl rfl rfl rfl (congrArg Value.bool (decide_eq_false (by rw [endsZ_len]; simp))) sa' sb' (S11.sli sc (by simp)) sd
end
end Go.Proofs.Ythnccaajpdnndaa
namespace Go.Proofs.Ythnccaajpdnndaa
open Go.Conc Go.ChangeShapes Go.WideShapes Go.ChangeAt Go.RowKit Go.Proofs.Try
set_option maxRecDepth 100000
theorem lifted9 (os : Os) (started : os.Started) (H : Type) (enc : TypeId × Value → H) :
    ReturnsInLeavingWide {} checked os 9 .any (Rows.grassWetterSpec.pre6 enc prog f9 Rows.grassWetterRow.domain false) (Rows.grassWetterSpec.post enc prog f9 false true false false) := by
  refine returnsInLeavingWide_of_change_sized (C := checked) own started at9
    (ChangeSpec.witness6 (enc := enc) (C := checked) false ⟨#[], #[.slice none 0 0], []⟩ 8 (by kernel_rfl) (by kernel_rfl) (by kernel_rfl) (by kernel_rfl)) ?_
  intro W base args ds gs before hval0 hW _ hsz0 _
  have hsz : (DataW.weightsEach prog (f9.params.toList ++ Rows.grassWetterSpec.plain.varTypes prog) (ds ++ gs)).all (· ≤ reachBytes) = true := hsz0
  clear hsz0
  have hval : ∀ (j : Nat) t v, f9.params[j]? = some t → args[j]? = some v → Value.okWide prog W .any base t v := hval0
  have hW' := hW
  obtain ⟨p, q, hA0, hV, rfl, _, _⟩ := hW
  have hA : DataW.TrodAll enc prog W 0 (fun _ => true) true f9.params.toList args.toList ds p := hA0
  have hps : f9.params = #[25] := by kernel_rfl
  rw [hps] at hA hval hsz
  obtain ⟨v0, d0, rfl, rfl, h0⟩ := trodAll_one hA
  obtain ⟨rfl, rfl⟩ := trodVars_none hV
  have u3 : prog.underlying 3 = some (.int .i64) := by kernel_rfl
  have u27 : prog.underlying 25 = some (.slice 3) := by kernel_rfl
  have u4 : prog.underlying 4 = some .bool := by kernel_rfl
  have c3 : prog.cellsOf 3 = 1 := by kernel_rfl
  have b3 : prog.bytesOf 3 = 8 := by kernel_rfl
  have hlt : ∀ x ∈ p, x.block < W.heap.size := fun x hx => by simpa using hW'.lt x (by simpa using hx)
  have hargs : ∀ (W' : World), Below W.heap.size W W' → DataW.TrodAll enc prog W' 0 (fun b => decide (b < W.heap.size)) true [25] [v0] [d0] p := fun W' hn =>
    trodAll_mk1 (Below.trod laidOut (by kernel_rfl) (of_decide_eq_true (by kernel_rfl)) h0 hn hlt)
  obtain ⟨ns, sn, ok2, hbig⟩ := arg_ints u27 u3 c3 (hval 0 25 v0 rfl rfl) h0
  have hln : ns.length < 4611686018427387904 := by
    rcases hbig with rfl | ⟨es, sp, rfl, hle⟩
    · simp
    · have := sized_slice hsz (j := 0) (t := 25) (e := 3) rfl rfl u27
      rw [b3] at this
      simp only [reachBytes] at this
      omega
  obtain ⟨M, last, o, w', t', r1, r2, r3, r4⟩ := law_run2 (g := 9) (fn := f9) at9 body9 (by kernel_rfl) W [v0] (Nat.le_of_ble_eq_true (by kernel_rfl : Nat.ble 1 f9.ntmps = true))
    (by
      intro v hv
      simp only [List.mem_cons, List.not_mem_nil, or_false] at hv
      subst hv
      exact ok2)
    (fun Post => walk9 (K := fun v _ => v = .bool true) sn hln fun _ => rfl)
  refine ⟨M, last, o, w', t', r1, r2, r3, r4.mono fun v hF => ?_⟩
  obtain ⟨rfl, hbelow⟩ := hF
  refine ⟨_, _, _, [], _, [], hW', ?_, hargs _ hbelow, by rfl, hbelow.frame _, fun h => by cases h⟩
  exact trodAll_mk1 (shut_bool u4 true)
theorem grassWetter_holds : Rows.GrassWetterSaid :=
  OpenClaim.holds_of_wide_leaving 9 f9 rfl rfl rfl rfl rfl rfl rfl ⟨rfl, rfl, rfl, rfl, rfl⟩ rfl rfl rfl rfl rfl (by kernel_rfl) at9 (by kernel_rfl)
    (of_decide_eq_true (by kernel_rfl)) (by unfold Func.isWrapper; first | (rw [if_pos (by decide +kernel)]; kernel_rfl) | (rw [if_neg (by decide +kernel)]; exact ⟨rfl, rfl⟩))
    (fun os started H enc _ => lifted9 os started H enc)
#print axioms grassWetter_holds
end Go.Proofs.Ythnccaajpdnndaa
