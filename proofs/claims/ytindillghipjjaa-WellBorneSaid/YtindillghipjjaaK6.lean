/- WellBorne answers true at every input, and its arguments read behind the call as they read before. No conditions. -/
import Derived.Test.YtindillghipjjaaK2
import Derived.Test.YtindillghipjjaaK5
import Derived.Test.YtindillghipjjaaK3
import Derived.Test.YtindillghipjjaaK4
import Derived.Below
import Derived.Test.YtindillghipjjaaRows
import Derived.Conc.LeavingOf
import Derived.ChangeSlices
import Derived.OpenShut
import Derived.Carry
import Derived.Deep.Slices
namespace Go.Proofs.Ytindillghipjjaa
open Go.Conc Go.Proofs.Try
set_option maxRecDepth 100000
set_option maxHeartbeats 4000000
set_option linter.unusedVariables false
section
variable {main : Bool} {J : JT} {n0 : Nat} {h : List AObj} {K : Value → List AObj → Prop}
theorem at5 : prog.funcs[5]? = some f5 := by kernel_rfl
theorem body5 : f5.body = some (codeOf f5) := by kernel_rfl
def pl5 : Plans := [(5, false, .take 0 (.take 1 (.take 2 (.take 3 (.take 4 (.take 5 (.take 6 (.take 8 (.take 9 (.take 10 (.take 11 (.last 7 true (.take 13 (.take 14 (.last 12 false (.last 15 false (.take 16 (.take 17 (.last 18 false (.fin)))))))))))))))))))),
  (14, true, .take 0 (.take 1 (.take 2 (.take 3 (.take 4 (.take 5 (.take 6 (.take 7 (.take 8 (.fin))))))))))]
def ct5 : Cuts := .bin (.go) (.bin (.go) (.bin (.go) (.bin (.go) (.bin (.go) (.bin (.go) (.bin (.go) (.bin (.go) (.bin (.go) (.bin (.bin (.go) (.cut (.go))) (.bin (.go) (.bin (.go) (.bin (.go) (.bin (.bin (.go) (.cut (.go))) (.go))))))))))))))
theorem pok5 : plansOk prog pl5 (codeOf f5) = true := by kernel_rfl
theorem e5 {a0 : Value} : W prog J 171 h.length 5 (codeOf f5) (RG.mk (regs [a0]) []) h (RetQ prog [.tmp 2] h.length K) =
(Good prog J 20 [a0] h fun v1 h2 =>
Good prog J 21 [v1, (vint 2), (vint 10)] h2 fun v3 h4 =>
aAlloc [(vint 0), (vint 0), (vint 0), (Value.slice none 0 0)] h4 fun v5 h6 =>
aStore 4 v5 v3 h6 fun h7 =>
aLoad true 4 v5 h7 fun v8 =>
Good prog J 24 [v8] h7 fun v9 h10 =>
aAlloc [(vint 0), (vint 0), (vint 0), (Value.slice none 0 0)] h10 fun v11 h12 =>
aStore 4 v11 v9 h12 fun h13 =>
aOff v5 0 fun v14 =>
aOff v14 1 fun v15 =>
aLoad false 1 v15 h13 fun v16 =>
Good prog J 33 [v1, v16, (vint 14)] h13 fun v17 h18 =>
aOff v11 0 fun v19 =>
aOff v19 1 fun v20 =>
aStore 1 v20 v17 h18 fun h21 =>
(∃ B, aOff v5 0 fun v22 =>
aOff v22 0 fun v23 =>
aLoad false 1 v23 h21 fun v24 =>
RdOk (some B) (ptrBlk v23) ∧ (aOff v11 0 fun v25 =>
aOff v25 1 fun v26 =>
aLoad false 1 v26 h21 fun v27 =>
RdOk (some B) (ptrBlk v26) ∧ (aOff v5 0 fun v28 =>
aOff v28 2 fun v29 =>
aLoad false 1 v29 h21 fun v30 =>
RdOk (some B) (ptrBlk v29) ∧ (Good prog J 33 [v1, v24, v27] h21 fun v31 h32 =>
SameB (some B) h21 h32 ∧ (aOff v11 0 fun v33 =>
aOff v33 0 fun v34 =>
Good prog J 33 [v1, v30, (vint 8)] h32 fun v35 h36 =>
aStore 1 v34 v31 h36 fun h37 =>
aOff v11 0 fun v38 =>
aOff v38 2 fun v39 =>
aStore 1 v39 v35 h37 fun h40 =>
aLoad true 4 v5 h40 fun v41 =>
Good prog J 36 [v1, v41, (vint 5)] h40 fun v42 h43 =>
aLoad true 4 v5 h43 fun v44 =>
Good prog J 37 [v44, v42, (vint 40)] h43 fun v45 h46 =>
aExt v45 0 fun v47 =>
aExt v45 1 fun v48 =>
aLoad true 4 v11 h46 fun v49 =>
Good prog J 37 [v49, v42, (vint 40)] h46 fun v50 h51 =>
aExt v50 0 fun v52 =>
aExt v50 1 fun v53 =>
aBin prog .neq 39 v48 (vint 0) fun v54 =>
cnd v54
(Hold (W prog J 171 h.length 5 (subC [1, 1, 1, 1, 1, 1, 1, 1, 1, 0, 1] (codeOf f5)) (RG.p (RG.p (RG.p (RG.p (RG.p (RG.p (RG.p (RG.p (RG.p (RG.p (RG.p (RG.p (RG.p (RG.p (RG.p (RG.p (RG.p (RG.p (RG.p (RG.p (RG.p (RG.p (RG.p (RG.p (RG.p (RG.p (RG.p (RG.p (RG.p (RG.p (RG.p (RG.p (RG.p (RG.p (RG.p (RG.p (RG.p (RG.p (RG.p (RG.p (RG.p (RG.p (RG.p (RG.p (RG.p (RG.p (RG.p (RG.p (RG.p (RG.p (RG.p (RG.p (RG.p (RG.p (RG.p (RG.p (RG.p (RG.p (RG.p (RG.p (RG.p (RG.p (RG.p (RG.p (RG.p (RG.p (RG.p (RG.p (RG.p (RG.p (RG.p (RG.p (RG.p (RG.mk (regs [a0]) []) 2 (Value.bool false)) 16 a0) 17 v1) 3 v1) 18 v1) 19 v3) 4 v5) 20 v8) 21 v9) 5 v11) 22 v1) 23 v14) 24 v15) 25 v16) 26 v17) 27 v19) 28 v20) 29 v1) 30 v22) 31 v23) 32 v24) 33 v25) 34 v26) 35 v27) 37 v1) 38 v28) 39 v29) 40 v30) 36 v31) 42 v33) 43 v34) 41 v35) 44 v38) 45 v39) 46 v1) 47 v41) 48 v42) 6 v42) 50 v44) 51 v42) 52 v45) 49 v45) 53 v47) 54 v48) 7 v47) 8 v48) 56 v49) 57 v42) 58 v50) 55 v50) 59 v52) 60 v53) 9 v52) 10 v53) 61 v48) 62 v54) 63 v54) 63 (Value.bool true)) 64 undef) 65 undef) 66 (Value.bool true)) 67 (Value.bool true)) 67 (Value.bool true)) 68 undef) 69 undef) 70 undef) 71 (Value.bool true)) 72 (Value.bool true)) 72 (Value.bool true)) 73 undef) 74 undef) 75 undef) 76 (Value.bool true)) h51 (contX pl5 prog J 171 h.length 5 ct5 [1, 1, 1, 1, 1, 1, 1, 1, 1, 0, 1] (codeOf f5) [] (RetQ prog [.tmp 2] h.length K))))
(aBin prog .neq 39 v53 (vint 0) fun v55 =>
cnd v55
(Hold (W prog J 171 h.length 5 (subC [1, 1, 1, 1, 1, 1, 1, 1, 1, 0, 1] (codeOf f5)) (RG.p (RG.p (RG.p (RG.p (RG.p (RG.p (RG.p (RG.p (RG.p (RG.p (RG.p (RG.p (RG.p (RG.p (RG.p (RG.p (RG.p (RG.p (RG.p (RG.p (RG.p (RG.p (RG.p (RG.p (RG.p (RG.p (RG.p (RG.p (RG.p (RG.p (RG.p (RG.p (RG.p (RG.p (RG.p (RG.p (RG.p (RG.p (RG.p (RG.p (RG.p (RG.p (RG.p (RG.p (RG.p (RG.p (RG.p (RG.p (RG.p (RG.p (RG.p (RG.p (RG.p (RG.p (RG.p (RG.p (RG.p (RG.p (RG.p (RG.p (RG.p (RG.p (RG.p (RG.p (RG.p (RG.p (RG.p (RG.p (RG.p (RG.p (RG.p (RG.p (RG.p (RG.mk (regs [a0]) []) 2 (Value.bool false)) 16 a0) 17 v1) 3 v1) 18 v1) 19 v3) 4 v5) 20 v8) 21 v9) 5 v11) 22 v1) 23 v14) 24 v15) 25 v16) 26 v17) 27 v19) 28 v20) 29 v1) 30 v22) 31 v23) 32 v24) 33 v25) 34 v26) 35 v27) 37 v1) 38 v28) 39 v29) 40 v30) 36 v31) 42 v33) 43 v34) 41 v35) 44 v38) 45 v39) 46 v1) 47 v41) 48 v42) 6 v42) 50 v44) 51 v42) 52 v45) 49 v45) 53 v47) 54 v48) 7 v47) 8 v48) 56 v49) 57 v42) 58 v50) 55 v50) 59 v52) 60 v53) 9 v52) 10 v53) 61 v48) 62 v54) 63 v54) 63 (Value.bool false)) 64 v53) 65 v55) 66 v55) 67 v55) 67 (Value.bool true)) 68 undef) 69 undef) 70 undef) 71 (Value.bool true)) 72 (Value.bool true)) 72 (Value.bool true)) 73 undef) 74 undef) 75 undef) 76 (Value.bool true)) h51 (contX pl5 prog J 171 h.length 5 ct5 [1, 1, 1, 1, 1, 1, 1, 1, 1, 0, 1] (codeOf f5) [] (RetQ prog [.tmp 2] h.length K))))
(aLenS v47 fun v56 =>
aBin prog .neq 3 v56 (vint 40) fun v57 =>
cnd v57
(Hold (W prog J 171 h.length 5 (subC [1, 1, 1, 1, 1, 1, 1, 1, 1, 0, 1] (codeOf f5)) (RG.p (RG.p (RG.p (RG.p (RG.p (RG.p (RG.p (RG.p (RG.p (RG.p (RG.p (RG.p (RG.p (RG.p (RG.p (RG.p (RG.p (RG.p (RG.p (RG.p (RG.p (RG.p (RG.p (RG.p (RG.p (RG.p (RG.p (RG.p (RG.p (RG.p (RG.p (RG.p (RG.p (RG.p (RG.p (RG.p (RG.p (RG.p (RG.p (RG.p (RG.p (RG.p (RG.p (RG.p (RG.p (RG.p (RG.p (RG.p (RG.p (RG.p (RG.p (RG.p (RG.p (RG.p (RG.p (RG.p (RG.p (RG.p (RG.p (RG.p (RG.p (RG.p (RG.p (RG.p (RG.p (RG.p (RG.p (RG.p (RG.p (RG.p (RG.p (RG.p (RG.p (RG.mk (regs [a0]) []) 2 (Value.bool false)) 16 a0) 17 v1) 3 v1) 18 v1) 19 v3) 4 v5) 20 v8) 21 v9) 5 v11) 22 v1) 23 v14) 24 v15) 25 v16) 26 v17) 27 v19) 28 v20) 29 v1) 30 v22) 31 v23) 32 v24) 33 v25) 34 v26) 35 v27) 37 v1) 38 v28) 39 v29) 40 v30) 36 v31) 42 v33) 43 v34) 41 v35) 44 v38) 45 v39) 46 v1) 47 v41) 48 v42) 6 v42) 50 v44) 51 v42) 52 v45) 49 v45) 53 v47) 54 v48) 7 v47) 8 v48) 56 v49) 57 v42) 58 v50) 55 v50) 59 v52) 60 v53) 9 v52) 10 v53) 61 v48) 62 v54) 63 v54) 63 (Value.bool false)) 64 v53) 65 v55) 66 v55) 67 v55) 67 (Value.bool false)) 68 v47) 69 v56) 70 v57) 71 v57) 72 v57) 72 (Value.bool true)) 73 undef) 74 undef) 75 undef) 76 (Value.bool true)) h51 (contX pl5 prog J 171 h.length 5 ct5 [1, 1, 1, 1, 1, 1, 1, 1, 1, 0, 1] (codeOf f5) [] (RetQ prog [.tmp 2] h.length K))))
(aLenS v52 fun v58 =>
aBin prog .neq 3 v58 (vint 40) fun v59 =>
Hold (W prog J 171 h.length 5 (subC [1, 1, 1, 1, 1, 1, 1, 1, 1, 0, 1] (codeOf f5)) (RG.p (RG.p (RG.p (RG.p (RG.p (RG.p (RG.p (RG.p (RG.p (RG.p (RG.p (RG.p (RG.p (RG.p (RG.p (RG.p (RG.p (RG.p (RG.p (RG.p (RG.p (RG.p (RG.p (RG.p (RG.p (RG.p (RG.p (RG.p (RG.p (RG.p (RG.p (RG.p (RG.p (RG.p (RG.p (RG.p (RG.p (RG.p (RG.p (RG.p (RG.p (RG.p (RG.p (RG.p (RG.p (RG.p (RG.p (RG.p (RG.p (RG.p (RG.p (RG.p (RG.p (RG.p (RG.p (RG.p (RG.p (RG.p (RG.p (RG.p (RG.p (RG.p (RG.p (RG.p (RG.p (RG.p (RG.p (RG.p (RG.p (RG.p (RG.p (RG.p (RG.p (RG.mk (regs [a0]) []) 2 (Value.bool false)) 16 a0) 17 v1) 3 v1) 18 v1) 19 v3) 4 v5) 20 v8) 21 v9) 5 v11) 22 v1) 23 v14) 24 v15) 25 v16) 26 v17) 27 v19) 28 v20) 29 v1) 30 v22) 31 v23) 32 v24) 33 v25) 34 v26) 35 v27) 37 v1) 38 v28) 39 v29) 40 v30) 36 v31) 42 v33) 43 v34) 41 v35) 44 v38) 45 v39) 46 v1) 47 v41) 48 v42) 6 v42) 50 v44) 51 v42) 52 v45) 49 v45) 53 v47) 54 v48) 7 v47) 8 v48) 56 v49) 57 v42) 58 v50) 55 v50) 59 v52) 60 v53) 9 v52) 10 v53) 61 v48) 62 v54) 63 v54) 63 (Value.bool false)) 64 v53) 65 v55) 66 v55) 67 v55) 67 (Value.bool false)) 68 v47) 69 v56) 70 v57) 71 v57) 72 v57) 72 (Value.bool false)) 73 v52) 74 v58) 75 v59) 76 v59) h51 (contX pl5 prog J 171 h.length 5 ct5 [1, 1, 1, 1, 1, 1, 1, 1, 1, 0, 1] (codeOf f5) [] (RetQ prog [.tmp 2] h.length K)))))))))))) := top_eq pok5 ct5 (by kernel_rfl)
theorem g5 (hJ : Closed prog main J) {a0 : Value} (hs : heapOk h → W prog J 171 h.length 5 (codeOf f5) (RG.mk (regs [a0]) []) h (RetQ prog [.tmp 2] h.length K)) : Good prog J 5 [a0] h K :=
  good_of_W hJ mixed at5 body5 (by kernel_rfl) (Nat.le_of_ble_eq_true rfl) hs
end
section
variable {main : Bool} {J : JT} {n0 : Nat} {h : List AObj} {K : Value → List AObj → Prop}
def pl12 : Plans := [(13, true, .take 0 (.take 1 (.take 4 (.take 5 (.alt 2 false (.alt 3 false (.last 6 false (.last 7 false (.take 8 (.fin)))) (.last 6 false (.last 3 false (.last 7 false (.take 8 (.fin)))))) (.last 6 false (.last 2 false (.last 3 false (.last 7 false (.take 8 (.fin)))))))))))]
def ct12 : Cuts := .bin (.go) (.bin (.go) (.bin (.go) (.bin (.go) (.bin (.go) (.bin (.go) (.bin (.go) (.bin (.go) (.bin (.bin (.go) (.cut (.go))) (.bin (.bin (.go) (.un (.un (.bin (.go) (.bin (.un (.bin (.go) (.cut (.bin (.go) (.bin (.go) (.bin (.go) (.bin (.go) (.cut (.go))))))))) (.go)))))) (.go))))))))))
theorem pok12 : plansOk prog pl12 (codeOf f12) = true := by kernel_rfl
theorem e12 {a0 : Value} : W prog J 120 h.length 12 (codeOf f12) (RG.mk (regs [a0]) []) h (RetQ prog [.tmp 2] h.length K) =
(Good prog J 20 [a0] h fun v1 h2 =>
Good prog J 21 [v1, (vint 3), (vint 12)] h2 fun v3 h4 =>
aAlloc [(vint 0), (vint 0), (vint 0), (Value.slice none 0 0)] h4 fun v5 h6 =>
aStore 4 v5 v3 h6 fun h7 =>
aOff v5 0 fun v8 =>
aOff v8 1 fun v9 =>
aLoad false 1 v9 h7 fun v10 =>
aOff v5 0 fun v11 =>
aOff v11 0 fun v12 =>
aStore 1 v12 v10 h7 fun h13 =>
aLoad true 4 v5 h13 fun v14 =>
Good prog J 36 [v1, v14, (vint 5)] h13 fun v15 h16 =>
aLoad true 4 v5 h16 fun v17 =>
Good prog J 53 [v17, v15] h16 fun v18 h19 =>
aExt v18 0 fun v20 =>
aExt v18 1 fun v21 =>
aLoad true 4 v5 h19 fun v22 =>
Good prog J 52 [v22, v15] h19 fun v23 h24 =>
aExt v23 0 fun v25 =>
aExt v23 1 fun v26 =>
aLoad true 4 v5 h24 fun v27 =>
Good prog J 38 [v27, v15] h24 fun v28 h29 =>
aExt v28 0 fun v30 =>
aExt v28 1 fun v31 =>
aBin prog .neq 39 v21 (vint 0) fun v32 =>
cnd v32
(Hold (W prog J 120 h.length 12 (subC [1, 1, 1, 1, 1, 1, 1, 1, 0, 1] (codeOf f12)) (RG.p (RG.p (RG.p (RG.p (RG.p (RG.p (RG.p (RG.p (RG.p (RG.p (RG.p (RG.p (RG.p (RG.p (RG.p (RG.p (RG.p (RG.p (RG.p (RG.p (RG.p (RG.p (RG.p (RG.p (RG.p (RG.p (RG.p (RG.p (RG.p (RG.p (RG.p (RG.p (RG.p (RG.p (RG.p (RG.p (RG.p (RG.p (RG.p (RG.p (RG.p (RG.p (RG.p (RG.p (RG.p (RG.p (RG.p (RG.p (RG.p (RG.p (RG.p (RG.p (RG.p (RG.p (RG.p (RG.p (RG.mk (regs [a0]) []) 2 (Value.bool false)) 20 a0) 21 v1) 3 v1) 22 v1) 23 v3) 4 v5) 24 v8) 25 v9) 26 v10) 27 v11) 28 v12) 29 v1) 30 v14) 31 v15) 5 v15) 33 v17) 34 v15) 35 v18) 32 v18) 36 v20) 37 v21) 6 v20) 7 v21) 39 v22) 40 v15) 41 v23) 38 v23) 42 v25) 43 v26) 8 v25) 9 v26) 45 v27) 46 v15) 47 v28) 44 v28) 48 v30) 49 v31) 10 v30) 11 v31) 50 v21) 51 v32) 52 v32) 52 (Value.bool true)) 53 undef) 54 undef) 55 (Value.bool true)) 56 (Value.bool true)) 56 (Value.bool true)) 57 undef) 58 undef) 59 undef) 60 undef) 61 undef) 62 undef) 63 (Value.bool true)) h29 (contX pl12 prog J 120 h.length 12 ct12 [1, 1, 1, 1, 1, 1, 1, 1, 0, 1] (codeOf f12) [] (RetQ prog [.tmp 2] h.length K))))
(aBin prog .neq 39 v26 (vint 0) fun v33 =>
cnd v33
(Hold (W prog J 120 h.length 12 (subC [1, 1, 1, 1, 1, 1, 1, 1, 0, 1] (codeOf f12)) (RG.p (RG.p (RG.p (RG.p (RG.p (RG.p (RG.p (RG.p (RG.p (RG.p (RG.p (RG.p (RG.p (RG.p (RG.p (RG.p (RG.p (RG.p (RG.p (RG.p (RG.p (RG.p (RG.p (RG.p (RG.p (RG.p (RG.p (RG.p (RG.p (RG.p (RG.p (RG.p (RG.p (RG.p (RG.p (RG.p (RG.p (RG.p (RG.p (RG.p (RG.p (RG.p (RG.p (RG.p (RG.p (RG.p (RG.p (RG.p (RG.p (RG.p (RG.p (RG.p (RG.p (RG.p (RG.p (RG.p (RG.mk (regs [a0]) []) 2 (Value.bool false)) 20 a0) 21 v1) 3 v1) 22 v1) 23 v3) 4 v5) 24 v8) 25 v9) 26 v10) 27 v11) 28 v12) 29 v1) 30 v14) 31 v15) 5 v15) 33 v17) 34 v15) 35 v18) 32 v18) 36 v20) 37 v21) 6 v20) 7 v21) 39 v22) 40 v15) 41 v23) 38 v23) 42 v25) 43 v26) 8 v25) 9 v26) 45 v27) 46 v15) 47 v28) 44 v28) 48 v30) 49 v31) 10 v30) 11 v31) 50 v21) 51 v32) 52 v32) 52 (Value.bool false)) 53 v26) 54 v33) 55 v33) 56 v33) 56 (Value.bool true)) 57 undef) 58 undef) 59 undef) 60 undef) 61 undef) 62 undef) 63 (Value.bool true)) h29 (contX pl12 prog J 120 h.length 12 ct12 [1, 1, 1, 1, 1, 1, 1, 1, 0, 1] (codeOf f12) [] (RetQ prog [.tmp 2] h.length K))))
(aBin prog .neq 39 v31 (vint 0) fun v34 =>
cnd v34
(aBin prog .neq 39 v31 (vint 11) fun v35 =>
Hold (W prog J 120 h.length 12 (subC [1, 1, 1, 1, 1, 1, 1, 1, 0, 1] (codeOf f12)) (RG.p (RG.p (RG.p (RG.p (RG.p (RG.p (RG.p (RG.p (RG.p (RG.p (RG.p (RG.p (RG.p (RG.p (RG.p (RG.p (RG.p (RG.p (RG.p (RG.p (RG.p (RG.p (RG.p (RG.p (RG.p (RG.p (RG.p (RG.p (RG.p (RG.p (RG.p (RG.p (RG.p (RG.p (RG.p (RG.p (RG.p (RG.p (RG.p (RG.p (RG.p (RG.p (RG.p (RG.p (RG.p (RG.p (RG.p (RG.p (RG.p (RG.p (RG.p (RG.p (RG.p (RG.p (RG.p (RG.p (RG.p (RG.mk (regs [a0]) []) 2 (Value.bool false)) 20 a0) 21 v1) 3 v1) 22 v1) 23 v3) 4 v5) 24 v8) 25 v9) 26 v10) 27 v11) 28 v12) 29 v1) 30 v14) 31 v15) 5 v15) 33 v17) 34 v15) 35 v18) 32 v18) 36 v20) 37 v21) 6 v20) 7 v21) 39 v22) 40 v15) 41 v23) 38 v23) 42 v25) 43 v26) 8 v25) 9 v26) 45 v27) 46 v15) 47 v28) 44 v28) 48 v30) 49 v31) 10 v30) 11 v31) 50 v21) 51 v32) 52 v32) 52 (Value.bool false)) 53 v26) 54 v33) 55 v33) 56 v33) 56 (Value.bool false)) 57 v31) 58 v34) 59 v34) 59 (Value.bool true)) 60 v31) 61 v35) 62 v35) 63 v35) h29 (contX pl12 prog J 120 h.length 12 ct12 [1, 1, 1, 1, 1, 1, 1, 1, 0, 1] (codeOf f12) [] (RetQ prog [.tmp 2] h.length K))))
(Hold (W prog J 120 h.length 12 (subC [1, 1, 1, 1, 1, 1, 1, 1, 0, 1] (codeOf f12)) (RG.p (RG.p (RG.p (RG.p (RG.p (RG.p (RG.p (RG.p (RG.p (RG.p (RG.p (RG.p (RG.p (RG.p (RG.p (RG.p (RG.p (RG.p (RG.p (RG.p (RG.p (RG.p (RG.p (RG.p (RG.p (RG.p (RG.p (RG.p (RG.p (RG.p (RG.p (RG.p (RG.p (RG.p (RG.p (RG.p (RG.p (RG.p (RG.p (RG.p (RG.p (RG.p (RG.p (RG.p (RG.p (RG.p (RG.p (RG.p (RG.p (RG.p (RG.p (RG.p (RG.p (RG.p (RG.p (RG.p (RG.p (RG.mk (regs [a0]) []) 2 (Value.bool false)) 20 a0) 21 v1) 3 v1) 22 v1) 23 v3) 4 v5) 24 v8) 25 v9) 26 v10) 27 v11) 28 v12) 29 v1) 30 v14) 31 v15) 5 v15) 33 v17) 34 v15) 35 v18) 32 v18) 36 v20) 37 v21) 6 v20) 7 v21) 39 v22) 40 v15) 41 v23) 38 v23) 42 v25) 43 v26) 8 v25) 9 v26) 45 v27) 46 v15) 47 v28) 44 v28) 48 v30) 49 v31) 10 v30) 11 v31) 50 v21) 51 v32) 52 v32) 52 (Value.bool false)) 53 v26) 54 v33) 55 v33) 56 v33) 56 (Value.bool false)) 57 v31) 58 v34) 59 v34) 59 (Value.bool false)) 60 undef) 61 undef) 62 (Value.bool false)) 63 (Value.bool false)) h29 (contX pl12 prog J 120 h.length 12 ct12 [1, 1, 1, 1, 1, 1, 1, 1, 0, 1] (codeOf f12) [] (RetQ prog [.tmp 2] h.length K))))))) := top_eq pok12 ct12 (by kernel_rfl)
end
section
variable {main : Bool} {J : JT} {n0 : Nat} {h : List AObj} {K : Value → List AObj → Prop}
def pl52 : Plans := []
def ct52 : Cuts := .go
theorem pok52 : plansOk prog pl52 (codeOf f52) = true := by kernel_rfl
theorem e52 {a0 a1 : Value} : W prog J 16 h.length 52 (codeOf f52) (RG.mk (regs [a0, a1]) []) h (RetQ prog [.tmp 4, .tmp 5] h.length K) =
(aBox a0 h fun v1 h2 =>
aLoad true 4 v1 h2 fun v3 =>
Good prog J 86 [v3, a1] h2 fun v4 h5 =>
aBin prog .neq 39 v4 (vint 0) fun v6 =>
cnd v6
(retL h.length K [] [(Value.slice none 0 0), v4] h5)
(aLoad true 4 v1 h5 fun v7 =>
Good prog J 94 [v7, a1] h5 fun v8 h9 =>
retL h.length K [] [v8, (vint 0)] h9)) := top_eq pok52 ct52 (by kernel_rfl)
def pl53 : Plans := []
def ct53 : Cuts := .go
theorem pok53 : plansOk prog pl53 (codeOf f53) = true := by kernel_rfl
theorem e53 {a0 a1 : Value} : W prog J 29 h.length 53 (codeOf f53) (RG.mk (regs [a0, a1]) []) h (RetQ prog [.tmp 4, .tmp 5] h.length K) =
(aBox a0 h fun v1 h2 =>
aLoad true 4 v1 h2 fun v3 =>
Good prog J 86 [v3, a1] h2 fun v4 h5 =>
aBin prog .neq 39 v4 (vint 0) fun v6 =>
cnd v6
(retL h.length K [] [(Value.slice none 0 0), v4] h5)
(aOff v1 3 fun v7 =>
aLoad false 1 v7 h5 fun v8 =>
aLenS v8 fun v9 =>
Sem J 29 h.length 53 (subC [1, 1, 1, 0, 1, 0] (codeOf f53)) (RG.p (RG.p (RG.p (RG.p (RG.p (RG.p (RG.p (RG.p (RG.p (RG.p (RG.p (RG.p (RG.p (RG.p (RG.mk (regs [a0, a1]) []) 2 v1) 4 (Value.slice none 0 0)) 5 (vint 0)) 9 v3) 10 a1) 11 v4) 6 v4) 12 v4) 13 v6) 7 (Value.slice none 0 0)) 15 v7) 16 v8) 17 v9) 18 (vint 0)) h5 (contX pl53 prog J 29 h.length 53 ct53 [1, 1, 1, 0, 1, 0] (codeOf f53) [] (RetQ prog [.tmp 4, .tmp 5] h.length K)))) := top_eq pok53 ct53 (by kernel_rfl)
end
end Go.Proofs.Ytindillghipjjaa
namespace Go.Proofs.Ytindillghipjjaa
open Go.Conc Go.Proofs.Try
set_option maxRecDepth 100000
def firstN {α : Type} (f : Nat → Option α) : Nat → Option α
  | 0 => none
  | n + 1 => (firstN f n).or (f n)
theorem firstN_none {α : Type} {f : Nat → Option α} : ∀ {n : Nat}, (∀ i, i < n → f i = none) → firstN f n = none
  | 0, _ => rfl
  | n + 1, h => by
    unfold firstN
    rw [firstN_none fun i hi => h i (by omega), h n (by omega)]
    rfl
theorem firstN_some {α : Type} {f : Nat → Option α} {k : Nat} {r : α} : ∀ {n : Nat}, k < n → (∀ i, i < k → f i = none) → f k = some r → firstN f n = some r
  | 0, h, _, _ => absurd h (Nat.not_lt_zero _)
  | n + 1, h, h0, hr => by
    unfold firstN
    by_cases e : k = n
    · subst e
      rw [firstN_none h0, hr]
      rfl
    · rw [firstN_some (by omega) h0 hr]
      rfl
def Found (n : Nat) (H : List AObj) (v : Value) : Option (List Int) → Prop
  | none => v = .slice none 0 0
  | some r => ∃ o, OwnX H 1 (r.map vint) r.length v (some o) ∧ n ≤ o
theorem Found.val {n : Nat} {H : List AObj} {v : Value} {o : Option (List Int)} (a : Found n H v o) : ∃ b k c, v = .slice b k c ∧ b.isNone = o.isNone := by
  cases o with
  | none => exact ⟨none, 0, 0, a, rfl⟩
  | some r =>
    obtain ⟨o, O, _⟩ := a
    obtain ⟨h1, h2, ⟨_, _, h3⟩ | ⟨i, c, sz, hi, rfl, h5, h6⟩⟩ := O
    · cases h3
    · exact ⟨_, _, _, rfl, rfl⟩
theorem Found.unk {n : Nat} {H : List AObj} {v : Value} {o : Option (List Int)} (a : Found n H v o) : v ≠ unk := by
  obtain ⟨b, k, c, rfl, _⟩ := a.val
  intro e
  cases e
theorem Found.to {n m : Nat} {H H' : List AObj} {v : Value} {o : Option (List Int)} (a : Found n H v o) (hm : m ≤ n) {X : List Nat} (S : SameX X H H') (hX : ∀ x ∈ X, x < n) : Found m H' v o := by
  cases o with
  | none => exact a
  | some r =>
    obtain ⟨o, O, h⟩ := a
    exact ⟨o, ownX_keep O S fun i hi => by cases hi; exact fun hx => absurd (hX _ hx) (by omega), by omega⟩
def leastR (P : Int → Bool) (lo hi : Int) : Option Int := firstN (fun i => bif P (lo + i) then some (lo + (i : Int)) else none) (hi + 1 - lo).toNat
theorem leastR_some {P : Int → Bool} {lo hi n : Int} (h1 : lo ≤ n) (h2 : n ≤ hi) (hp : P n = true) (hn : ∀ m, lo ≤ m → m < n → P m = false) : leastR P lo hi = some n := by
  refine firstN_some (k := (n - lo).toNat) (by omega) (fun i hi => ?_) ?_
  · rw [hn (lo + i) (by omega) (by omega)]
    rfl
  · have e : lo + ((n - lo).toNat : Int) = n := by omega
    rw [e, hp]
    rfl
theorem leastR_none {P : Int → Bool} {lo hi : Int} (hn : ∀ m, lo ≤ m → m ≤ hi → P m = false) : leastR P lo hi = none := by
  refine firstN_none fun i hi => ?_
  rw [hn (lo + i) (by omega) (by omega)]
  rfl
section
variable {main : Bool} {J : JT} {h H : List AObj} {K : Value → List AObj → Prop} {KV : Value → Prop} {HL : List AObj → Prop} {n0 : Nat}
theorem good80 (hJ : Closed prog main J) {P : Int → Bool} {lo hi : Int} {fv : Value} (hb : -1000000 ≤ lo ∧ hi ≤ 1000000)
    (hf : ∀ {H' : List AObj} {n : Int} {Kf : Value → List AObj → Prop}, SameX [] H H' → lo ≤ n → n ≤ hi → (∀ H'', SameX [] H' H'' → Kf (.bool (P n)) H'') → callV prog (Good prog J) fv [vint n] H' Kf)
    (hK : ∀ H', SameX [] H H' → K (.tuple ⟨[vint ((leastR P lo hi).getD 0), .bool (!(leastR P lo hi).isNone)]⟩) H') : Good prog J 80 [vint lo, vint hi, fv] H K := by
  refine g80 hJ fun ok => ?_
  rw [e80]
  refine l80_1 hJ (fun n : Int => (hi + 1 - n).toNat) (fun n F H' => SameX [] H H' ∧ lo ≤ n ∧ (∀ m, lo ≤ m → m < n → P m = false) ∧ F.ds = [] ∧ F.r 1 = vint hi ∧ F.r 2 = fv ∧ F.r 8 = vint n) ?_ (s := lo)
    (.inl ⟨SameX.refl, Int.le_refl _, fun m h1 h2 => absurd h2 (by omega), rfl, rfl, rfl, rfl⟩)
  rintro n F H' ⟨S, hn, hm, ds, r1, r2, r8⟩ okc hnc
  rw [s80_1, r1, r2, r8, ds]
  refine leqI (cndI (fun hle => ?_) fun hgt => ?_)
  · refine hf S hn hle fun H2 S2 => cnd_bool.2 ⟨fun hp => ?_, fun hp => ?_⟩
    · have e := leastR_some hn hle hp hm
      have := hK H2 (S.trans S2)
      rw [e] at this
      exact retL_same (by simp [unk]) this
    · refine addI (by omega) ⟨n + 1, by dsimp only; omega, .inl ⟨S.trans S2, by omega, fun m h1 h2 => ?_, ds, r1, r2, rfl⟩⟩
      by_cases e : m = n
      · rw [e, hp]
      · exact hm m h1 (by omega)
  · have e := leastR_none (P := P) (lo := lo) (hi := hi) fun m h1 h2 => hm m h1 (by omega)
    have := hK H' S
    rw [e] at this
    exact retL_same (by simp [unk]) this
end
def lvF (w : Wel) : Nat → Int
  | 0 => w.now
  | k + 1 => min w.holds (lvF w k + w.fill)
def lvS (w : Wel) (m : Int) (fr : Nat) : Nat → Int
  | 0 => lvF w fr
  | k + 1 => min w.holds (lvS w m fr k - m + w.fill)
def watB (w : Wel) (m : Int) (fr dy : Nat) : Bool := (List.range dy).all fun k => decide (m ≤ lvS w m fr k)
def bearE (w : Wel) (p : Pas) (s : SkyR) (fr dy : Int) : Int := if welE w ≠ 0 then welE w else headE p s fr dy
def bearN (w : Wel) (p : Pas) (s : SkyR) (fr dy : Int) : Int := if bearE w p s fr dy = 0 then min (headN p s fr dy) (topH (fun m => watB w m fr.toNat dy.toNat) 40) else 0
theorem welE_zero {w : Wel} (h : welE w = 0) : (1 ≤ w.holds ∧ w.holds ≤ 40) ∧ (0 ≤ w.now ∧ w.now ≤ w.holds) ∧ (0 ≤ w.fill ∧ w.fill ≤ 20) := by
  unfold welE at h
  split at h
  · assumption
  · cases h
section
variable {w : Wel} {m : Int} {fr dy : Nat}
theorem lvF_bd (h : welE w = 0) : ∀ k, 0 ≤ lvF w k ∧ lvF w k ≤ w.holds
  | 0 => (welE_zero h).2.1
  | k + 1 => by
    have := lvF_bd h k
    obtain ⟨a, b, c⟩ := welE_zero h
    unfold lvF
    omega
theorem lvS_bd (h : welE w = 0) (hm : 0 ≤ m ∧ m ≤ 40) : ∀ k : Nat, -400 * (k : Int) ≤ lvS w m fr k ∧ lvS w m fr k ≤ w.holds
  | 0 => by
    have := lvF_bd h fr
    unfold lvS
    omega
  | k + 1 => by
    have := lvS_bd h hm k
    obtain ⟨a, b, c⟩ := welE_zero h
    unfold lvS
    omega
theorem lvS_less (h : welE w = 0) {m' : Int} (hm : m' ≤ m) : ∀ k : Nat, lvS w m fr k ≤ lvS w m' fr k
  | 0 => Int.le_refl _
  | k + 1 => by
    have := lvS_less h hm k
    unfold lvS
    omega
theorem watB_down (h : welE w = 0) {m' : Int} (hm : m' ≤ m) (hw : watB w m fr dy = true) : watB w m' fr dy = true := by
  unfold watB at *
  rw [List.all_eq_true] at *
  intro k hk
  have h1 := of_decide_eq_true (hw k hk)
  have h2 := lvS_less (fr := fr) h hm k
  exact decide_eq_true (by omega)
theorem watB_zero (h : welE w = 0) : watB w 0 fr dy = true := by
  unfold watB
  rw [List.all_eq_true]
  intro k hk
  clear hk
  refine decide_eq_true ?_
  obtain ⟨a, b, c⟩ := welE_zero h
  induction k with
  | zero => exact (lvF_bd h fr).1
  | succ k ih =>
    unfold lvS
    omega
theorem watB_yes (h : ∀ k, k < dy → m ≤ lvS w m fr k) : watB w m fr dy = true := by
  unfold watB
  rw [List.all_eq_true]
  exact fun k hk => decide_eq_true (h k (List.mem_range.1 hk))
theorem watB_no {k : Nat} (hk : k < dy) (h : ¬ m ≤ lvS w m fr k) : watB w m fr dy = false := by
  unfold watB
  rw [List.all_eq_false]
  exact ⟨k, List.mem_range.2 hk, by rw [decide_eq_false h]; decide⟩
theorem topH_bd {q : Int → Bool} : ∀ {N : Nat}, 0 ≤ topH q N ∧ topH q N ≤ N
  | 0 => ⟨Int.le_refl _, Int.le_refl _⟩
  | N + 1 => by
    have := topH_bd (q := q) (N := N)
    unfold topH
    split <;> omega
theorem topH_is {q : Int → Bool} (h0 : q 0 = true) : ∀ {N : Nat}, q (topH q N) = true ∧ ∀ k : Nat, topH q N < k → k ≤ N → q k = false
  | 0 => ⟨h0, fun k h1 h2 => by
      have h1 : (0 : Int) < k := h1
      omega⟩
  | N + 1 => by
    unfold topH
    by_cases h : q ((N + 1 : Nat) : Int) = true
    · rw [if_pos h]
      exact ⟨h, fun k h1 h2 => by omega⟩
    · rw [if_neg h]
      obtain ⟨a, b⟩ := topH_is (q := q) h0 (N := N)
      refine ⟨a, fun k h1 h2 => ?_⟩
      by_cases e : k = N + 1
      · rw [e]
        simpa using h
      · exact b k h1 (by omega)
theorem least_top {q : Int → Bool} (h0 : q 0 = true) : leastR (fun n => q (40 - n)) 0 40 = some (40 - topH q 40) := by
  obtain ⟨a, b⟩ := topH_is (q := q) h0 (N := 40)
  have bd := topH_bd (q := q) (N := 40)
  refine leastR_some (by omega) (by omega) (by rw [show (40 : Int) - (40 - topH q 40) = topH q 40 by omega]; exact a) fun j h1 h2 => ?_
  obtain ⟨t, ht⟩ := Int.eq_ofNat_of_zero_le (by omega : (0 : Int) ≤ 40 - j)
  rw [ht]
  exact b t (by omega) (by omega)
end
section
variable {main : Bool} {J : JT} {h H : List AObj} {K : Value → List AObj → Prop} {KV : Value → Prop} {HL : List AObj → Prop} {n0 : Nat}
theorem good81 (hJ : Closed prog main J) {w : Wel} {n : Int} {fr dy pb pd : Nat} (hw : welE w = 0) (hn : 0 ≤ n ∧ n ≤ 40) (hd : dy ≤ 100) (cb : H[pb]? = some (.cells ({ w with now := lvF w fr } : Wel).cells true 0)) (cd : H[pd]? = some (.cells [vint (dy : Nat)] true 0))
    (hK : ∀ H', SameX [] H H' → K (.bool (watB w (40 - n) fr dy)) H') : Good prog J 81 [vint n, ptr pb 0, ptr pd 0] H K := by
  refine g81 hJ fun ok => ?_
  rw [e81]
  obtain ⟨w1, w2, w3⟩ := welE_zero hw
  refine load_part (c := ({ w with now := lvF w fr } : Wel).cells) cb (by simp [Wel.cells]) rfl rfl ?_
  refine qAl fun H1 p5 e1 S1 c1 l1 => qStA (c := ({ w with now := lvS w (40 - n) fr 0 } : Wel).cells) c1 rfl rfl rfl fun H2 S2 c2 l2 => ?_
  have T2 : SameX [] H H2 := S1.thru S2 (by simp; omega)
  refine ldI (v := vint (dy : Nat)) (T2.get cd (by simp)) rfl rfl ?_
  refine l81_1 hJ (fun k : Nat => dy - k) (fun k F H' => k ≤ dy ∧ SameX [] H H' ∧ H'[p5]? = some (.cells ({ w with now := lvS w (40 - n) fr k } : Wel).cells true 0) ∧ (∀ j, j < k → 40 - n ≤ lvS w (40 - n) fr j) ∧ F.ds = [] ∧ F.r 0 = vint n ∧ F.r 5 = ptr p5 0 ∧ F.r 8 = vint (dy : Nat) ∧ F.r 9 = vint (k : Nat)) ?_ (s := 0)
    (.inl ⟨by omega, T2, c2, fun j hj => absurd hj (Nat.not_lt_zero _), rfl, rfl, rfl, rfl, rfl⟩)
  rintro k F H' ⟨hk, S, cx, hno, ds, r0, r5, r8, r9⟩ okc hnc
  rw [s81_1, r0, r5, r8, r9, ds]
  refine lssI (cndI (fun hlt => ?_) fun hge => ?_)
  rotate_left
  · have : k = dy := by omega
    subst this
    have := hK H' S
    rw [watB_yes hno] at this
    exact retL_same (by simp [unk]) this
  have hkd : k < dy := by omega
  have hb := lvS_bd (fr := fr) (m := 40 - n) hw (by omega) k
  have hsm : ({ w with now := lvS w (40 - n) fr k } : Wel).sm := ⟨by show -1000000 ≤ lvS w (40 - n) fr k ∧ lvS w (40 - n) fr k ≤ 1000000; omega, by show -1000000 ≤ w.holds ∧ w.holds ≤ 1000000; omega, by show -1000000 ≤ w.fill ∧ w.fill ≤ 1000000; omega⟩
  refine load_part (c := ({ w with now := lvS w (40 - n) fr k } : Wel).cells) cx (by simp [Wel.cells]) rfl rfl (subI (by omega) ?_)
  refine good82 hJ (w := { w with now := lvS w (40 - n) fr k }) hsm (by omega) (ext0 (ext1 ?_))
  refine qStA (c := (({ w with now := lvS w (40 - n) fr k } : Wel).drunk (40 - n)).cells) cx rfl rfl rfl fun H3 S3 c3 l3 => ?_
  show cnd (.bool (decide (lvS w (40 - n) fr k < 40 - n))) _ _
  refine cndI (fun hdry => ?_) fun hwet => ?_
  · have := hK H3 (S.thru S3 (by simp; omega))
    rw [watB_no hkd (by omega)] at this
    exact retL_same (by simp [unk]) this
  · have e1 : (({ w with now := lvS w (40 - n) fr k } : Wel).drunk (40 - n)).filled = { w with now := lvS w (40 - n) fr (k + 1) } := by
      unfold Wel.drunk Wel.filled
      simp only [Wel.mk.injEq, and_true]
      show min w.holds (lvS w (40 - n) fr k - min (lvS w (40 - n) fr k) (40 - n) + w.fill) = min w.holds (lvS w (40 - n) fr k - (40 - n) + w.fill)
      omega
    refine load_part (c := (({ w with now := lvS w (40 - n) fr k } : Wel).drunk (40 - n)).cells) c3 (by simp [Wel.cells]) rfl rfl ?_
    refine good79 hJ (w := ({ w with now := lvS w (40 - n) fr k } : Wel).drunk (40 - n)) ⟨by show -1000000 ≤ lvS w (40 - n) fr k - min (lvS w (40 - n) fr k) (40 - n) ∧ lvS w (40 - n) fr k - min (lvS w (40 - n) fr k) (40 - n) ≤ 1000000; omega, hsm.2⟩ ?_
    rw [e1]
    refine qStA (c := ({ w with now := lvS w (40 - n) fr (k + 1) } : Wel).cells) c3 rfl rfl rfl fun H4 S4 c4 l4 => addI (by omega) ⟨k + 1, by dsimp only; omega, .inl ⟨by omega, (S.thru S3 (by simp; omega)).thru S4 (by simp; omega), c4, fun j hj => ?_, ds, r0, r5, r8, by show vint _ = vint _; congr 1⟩⟩
    by_cases e : j = k
    · rw [e]
      omega
    · exact hno j (by omega)
theorem headE_zero {p : Pas} {s : SkyR} {fr dy : Int} (h : headE p s fr dy = 0) : (0 ≤ fr ∧ fr ≤ 7) ∧ (1 ≤ dy ∧ dy ≤ 8) := by
  unfold headE at h
  split at h
  · contradiction
  · rename_i h1
    have g : skyOk s := by
      have h1 := Classical.not_not.1 h1
      unfold fst2 at h1
      split at h1
      · contradiction
      · unfold skyE at h1
        split at h1
        · assumption
        · cases h1
    split at h
    · cases h
    · rename_i h2
      split at h
      · cases h
      · rename_i h3
        obtain ⟨g1, g2, g3⟩ := g
        have h2 := Classical.not_not.1 h2
        have h3 := Classical.not_not.1 h3
        omega
theorem good34 (hJ : Closed prog main J) {w : Wel} {p : Pas} {s : SkyR} {fr dy : Int} (hK : ∀ H', SameX [] H H' → K (.tuple ⟨[vint (bearN w p s fr dy), vint (bearE w p s fr dy)]⟩) H') : Good prog J 34 [w.val, .agg ⟨p.cells⟩, .agg ⟨s.cells⟩, vint fr, vint dy] H K := by
  refine g34 hJ fun ok => ?_
  rw [e34]
  refine qBox (l := w.cells) rfl fun H1 p5 e1 S1 c5 l1 => qBox (l := p.cells) rfl fun H2 p6 e2 S2 c6 l2 => qBox (l := s.cells) rfl fun H3 p7 e3 S3 c7 l3 => qBox1 rfl rfl fun H4 p9 e4 S4 c9 l4 => ?_
  have d5 := S4.get (S3.get (S2.get c5 (by simp)) (by simp)) (by simp)
  have d6 := S4.get (S3.get c6 (by simp)) (by simp)
  have d7 := S4.get c7 (by simp)
  have T4 := ((S1.trans S2).trans S3).trans S4
  have fin : ∀ {e : Int} {H' : List AObj}, bearE w p s fr dy = e → e ≠ 0 → SameX [] H H' → retL H.length K [] [vint 0, vint e] H' := fun he h0 S => by
    have := hK _ S
    unfold bearN at this
    rw [if_neg (by omega), he] at this
    exact retL_same (nu2 (by simp [unk]) (by simp [unk])) this
  refine load_part (c := w.cells) d5 (by simp [Wel.cells]) rfl rfl (good77 hJ (neqI (cndI (fun h1 => fin ?_ h1 T4) fun h1 => ?_)))
  · unfold bearE; rw [if_pos h1]
  have hw : welE w = 0 := by omega
  obtain ⟨w1, w2, w3⟩ := welE_zero hw
  refine load_part (c := p.cells) d6 (by simp [Pas.cells]) rfl rfl (load_part (c := s.cells) d7 (by simp [SkyR.cells]) rfl rfl (ldI (v := vint dy) c9 rfl rfl ?_))
  refine good78 hJ fun H5 S5 => ext0 (ext1 (neqI (cndI (fun h2 => fin ?_ h2 (T4.trans S5)) fun h2 => ?_)))
  · unfold bearE; rw [if_neg h1]
  have hh : headE p s fr dy = 0 := by omega
  have h0 : bearE w p s fr dy = 0 := by unfold bearE; rw [if_neg h1, hh]
  obtain ⟨b1, b2⟩ := headE_zero hh
  obtain ⟨a, rfl⟩ := Int.eq_ofNat_of_zero_le b1.1
  obtain ⟨b, rfl⟩ := Int.eq_ofNat_of_zero_le (by omega : (0 : Int) ≤ dy)
  have T5 := T4.trans S5
  refine load_part (c := w.cells) (S5.get d5 (by simp)) (by simp [Wel.cells]) rfl rfl (fillO (l := w.cells) rfl rfl rfl (by simp) (fillI ?_))
  refine qAl fun H6 p15 e6 S6 c15 l6 => qStA (c := ({ w with now := lvF w 0 } : Wel).cells) c15 rfl rfl rfl fun H7 S7 c15' l7 => ?_
  have S57 : SameX [] H5 H7 := S6.thru S7 (by simp; omega)
  have x9 := S57.get (S5.get c9 (by simp)) (by simp)
  have T7 := T5.trans S57
  refine l34_1 hJ (fun k : Nat => a - k) (fun k F H' => k ≤ a ∧ SameX [p15] H7 H' ∧ H'[p15]? = some (.cells ({ w with now := lvF w k } : Wel).cells true 0) ∧ F.ds = [] ∧ F.r 9 = ptr p9 0 ∧ F.r 13 = vint (headN p s (a : Nat) (b : Nat)) ∧ F.r 15 = ptr p15 0 ∧ F.r 36 = vint (a : Nat) ∧ F.r 37 = vint (k : Nat)) ?_ (s := 0)
    (.inl ⟨by omega, SameX.refl, c15', rfl, rfl, rfl, rfl, rfl, rfl⟩)
  rintro k F H' ⟨hk, S, cx, ds, r9, r13, r15, r36, r37⟩ okc hnc
  rw [s34_1, r9, r13, r15, r36, r37, ds]
  have hlk := lvF_bd hw k
  refine lssI (cndI (fun hlt => ?_) fun hge => ?_)
  · refine load_part (c := ({ w with now := lvF w k } : Wel).cells) cx (by simp [Wel.cells]) rfl rfl ?_
    refine good79 hJ (w := { w with now := lvF w k }) ⟨by show -1000000 ≤ lvF w k ∧ lvF w k ≤ 1000000; omega, by show -1000000 ≤ w.holds ∧ w.holds ≤ 1000000; omega, by show -1000000 ≤ w.fill ∧ w.fill ≤ 1000000; omega⟩ ?_
    refine qStA (c := ({ w with now := lvF w (k + 1) } : Wel).cells) cx rfl rfl rfl fun H8 S8 c8 l8 => addI (by omega) ⟨k + 1, by dsimp only; omega, .inl ⟨by omega, S.trans S8, c8, ds, r9, r13, r15, r36, by show vint _ = vint _; congr 1⟩⟩
  have hka : k = a := by omega
  subst hka
  have b9 := lt_of_get x9
  have lp9 := lt_of_get c9
  have hS5 := S5.1
  have n95 : p9 ≠ p15 := by omega
  have y9 := S.get x9 (by simpa using n95)
  refine ⟨rfl, ?_⟩
  have hz := watB_zero (fr := k) (dy := b) hw
  refine good80 hJ (P := fun n => watB w (40 - n) k b) (by decide) (fun {H8} {n} {Kf} S8 h1 h2 hk8 => callCz (by kernel_rfl) ?_) fun H8 S8 => ext0 (ext1 ?_)
  · exact good81 hJ hw ⟨h1, h2⟩ (by omega) (S8.get cx (by simp)) (S8.get y9 (by simp)) hk8
  · rw [least_top (q := fun m => watB w m k b) hz]
    have bd := topH_bd (q := fun m => watB w m k b) (N := 40)
    refine subI (by show -9223372036854775808 ≤ 40 - (40 - topH (fun m => watB w m k b) 40) ∧ 40 - (40 - topH (fun m => watB w m k b) 40) < 9223372036854775808; omega) (minI ?_)
    have := hK H8 ((T7.thru S (by simp; have := T5.1; omega)).trans S8)
    unfold bearN at this
    rw [if_pos h0, h0] at this
    refine retL_same (nu2 (by simp [unk]) (by simp [unk])) ?_
    rw [Int.toNat_natCast, Int.toNat_natCast] at this
    have e2 : (40 : Int) - (some (40 - topH (fun m => watB w m k b) 40)).getD 0 = topH (fun m => watB w m k b) 40 := by
      show 40 - (40 - topH (fun m => watB w m k b) 40) = _
      omega
    rw [e2]
    exact this
end
def lvM (w : Wel) (m : Int) (fr : Nat) : Nat → Int
  | 0 => lvF w fr
  | k + 1 => min w.holds (max 0 (lvM w m fr k - m) + w.fill)
def watK (w : Wel) (m : Int) (fr k : Nat) : Bool := (List.range k).all fun j => decide (m ≤ lvM w m fr j)
section
variable {w x : Wel} {m : Int} {fr dy : Nat}
theorem lvM_bd (h : welE w = 0) (hm : 0 ≤ m) : ∀ k, 0 ≤ lvM w m fr k ∧ lvM w m fr k ≤ w.holds
  | 0 => lvF_bd h fr
  | k + 1 => by
    have := lvM_bd h hm k
    obtain ⟨a, b, c⟩ := welE_zero h
    unfold lvM
    omega
theorem lvM_S : ∀ k, (∀ j, j < k → m ≤ lvM w m fr j) → lvM w m fr k = lvS w m fr k
  | 0, _ => rfl
  | k + 1, h => by
    have ih := lvM_S k fun j hj => h j (by omega)
    have := h k (by omega)
    unfold lvM lvS
    rw [← ih]
    omega
theorem lvS_M : ∀ k, (∀ j, j < k → m ≤ lvS w m fr j) → lvM w m fr k = lvS w m fr k
  | 0, _ => rfl
  | k + 1, h => by
    have ih := lvS_M k fun j hj => h j (by omega)
    have := h k (by omega)
    unfold lvM lvS
    rw [ih]
    omega
theorem watK_B : watK w m fr dy = watB w m fr dy := by
  rw [Bool.eq_iff_iff]
  unfold watK watB
  rw [List.all_eq_true, List.all_eq_true]
  constructor
  · intro h k hk
    have h' : ∀ j, j < dy → m ≤ lvM w m fr j := fun j hj => of_decide_eq_true (h j (List.mem_range.2 hj))
    have hk := List.mem_range.1 hk
    rw [← lvM_S k fun j hj => h' j (by omega)]
    exact decide_eq_true (h' k hk)
  · intro h k hk
    have h' : ∀ j, j < dy → m ≤ lvS w m fr j := fun j hj => of_decide_eq_true (h j (List.mem_range.2 hj))
    have hk := List.mem_range.1 hk
    rw [lvS_M k fun j hj => h' j (by omega)]
    exact decide_eq_true (h' k hk)
theorem watK_more {k : Nat} : watK w m fr (k + 1) = (watK w m fr k && decide (m ≤ lvM w m fr k)) := by
  unfold watK
  rw [List.range_succ, List.all_append]
  simp
def lvAll (w : Wel) (m : Int) (fr d : Nat) : Int := if d ≤ fr then lvF w d else lvM w m fr (d - fr)
theorem lvAll_front {d : Nat} (h : d < fr) : lvAll w m fr (d + 1) = min w.holds (lvAll w m fr d + w.fill) := by
  unfold lvAll
  rw [if_pos (by omega), if_pos (by omega)]
  rfl
theorem lvAll_stay {d : Nat} (h : fr ≤ d) : lvAll w m fr d = lvM w m fr (d - fr) := by
  unfold lvAll
  split
  · have : d = fr := by omega
    subst this
    rw [Nat.sub_self]
    rfl
  · rfl
theorem lvAll_next {d : Nat} (h : fr ≤ d) : lvAll w m fr (d + 1) = min w.holds (max 0 (lvAll w m fr d - m) + w.fill) := by
  rw [lvAll_stay h, lvAll_stay (by omega), show d + 1 - fr = (d - fr) + 1 by omega]
  rfl
theorem lvAll_bd (h : welE w = 0) (hm : 0 ≤ m) (d : Nat) : 0 ≤ lvAll w m fr d ∧ lvAll w m fr d ≤ w.holds := by
  unfold lvAll
  split
  · exact lvF_bd h d
  · exact lvM_bd h hm _
structure MoreW (x w : Wel) : Prop where
  now : w.now ≤ x.now
  fill : w.fill ≤ x.fill
  holds : x.holds = w.holds
theorem lvF_more (M : MoreW x w) : ∀ k, lvF w k ≤ lvF x k
  | 0 => M.now
  | k + 1 => by
    have := lvF_more M k
    obtain ⟨a, b, c⟩ := M
    unfold lvF
    omega
theorem lvS_more (M : MoreW x w) : ∀ k, lvS w m fr k ≤ lvS x m fr k
  | 0 => lvF_more M fr
  | k + 1 => by
    have := lvS_more M k
    obtain ⟨a, b, c⟩ := M
    unfold lvS
    omega
theorem watB_more (M : MoreW x w) {dy' : Nat} (hd : dy' ≤ dy) (h : watB w m fr dy = true) : watB x m fr dy' = true := by
  unfold watB at *
  rw [List.all_eq_true] at *
  intro k hk
  have := List.mem_range.1 hk
  have h1 := of_decide_eq_true (h k (List.mem_range.2 (by omega)))
  have := lvS_more (m := m) (fr := fr) M k
  exact decide_eq_true (by omega)
end
theorem bearN_eq {w : Wel} {p : Pas} {s : SkyR} {fr dy : Int} (h : bearE w p s fr dy = 0) : bearN w p s fr dy = min (topH (fun n => stayB p s n fr dy) 40) (topH (fun m => watB w m fr.toNat dy.toNat) 40) := by
  unfold bearN
  rw [if_pos h]
  unfold bearE at h
  split at h
  · rename_i x
    exact absurd h x
  · unfold headN
    rw [if_pos h]
theorem bearE_parts {w : Wel} {p : Pas} {s : SkyR} {fr dy : Int} (hw : welE w = 0) (f : pasOk p) (g : skyOk s) (h1 : 0 ≤ fr ∧ fr ≤ s.days - 1) (h2 : 1 ≤ dy ∧ dy ≤ s.days - fr) : bearE w p s fr dy = 0 := by
  unfold bearE
  rw [if_neg (by omega)]
  unfold headE
  have e1 : fst2 (pasE p) (skyE s) = 0 := by
    unfold fst2 pasE skyE
    rw [if_pos f, if_pos g]
    rfl
  rw [if_neg (by omega), if_neg (not_not_intro h1), if_neg (not_not_intro h2)]
theorem bears_bd {w : Wel} {p : Pas} {s : SkyR} {fr dy : Int} (h : bearE w p s fr dy = 0) : 0 ≤ bearN w p s fr dy ∧ bearN w p s fr dy ≤ 40 := by
  rw [bearN_eq h]
  have := topH_bd (q := fun n => stayB p s n fr dy) (N := 40)
  have := topH_bd (q := fun m => watB w m fr.toNat dy.toNat) (N := 40)
  omega
theorem bears_fed {w : Wel} {p : Pas} {s : SkyR} {fr dy n : Int} (hw : welE w = 0) (f : pasOk p) (h : bearE w p s fr dy = 0) (hn : n = bearN w p s fr dy) : stayB p s n fr dy = true ∧ watB w n fr.toNat dy.toNat = true := by
  have b1 := topH_bd (q := fun n => stayB p s n fr dy) (N := 40)
  have b2 := topH_bd (q := fun m => watB w m fr.toNat dy.toNat) (N := 40)
  obtain ⟨a1, _⟩ := topH_is (q := fun n => stayB p s n fr dy) (stay_zero f) (N := 40)
  obtain ⟨a2, _⟩ := topH_is (q := fun m => watB w m fr.toNat dy.toNat) (watB_zero hw) (N := 40)
  have e := bearN_eq h
  exact ⟨stay_less MoreG.refl f f (by omega) (by omega) b1.2 (Int.le_refl _) a1, watB_down hw (by omega) a2⟩
theorem bears_more_not {w : Wel} {p : Pas} {s : SkyR} {fr dy n : Int} (hw : welE w = 0) (f : pasOk p) (h : bearE w p s fr dy = 0) (hn : n = bearN w p s fr dy + 1) (h40 : n ≤ 40) : (stayB p s n fr dy && watB w n fr.toNat dy.toNat) = false := by
  have b1 := topH_bd (q := fun n => stayB p s n fr dy) (N := 40)
  have b2 := topH_bd (q := fun m => watB w m fr.toNat dy.toNat) (N := 40)
  obtain ⟨_, a1⟩ := topH_is (q := fun n => stayB p s n fr dy) (stay_zero f) (N := 40)
  obtain ⟨_, a2⟩ := topH_is (q := fun m => watB w m fr.toNat dy.toNat) (watB_zero hw) (N := 40)
  have e := bearN_eq h
  obtain ⟨k, rfl⟩ := Int.eq_ofNat_of_zero_le (by omega : 0 ≤ n)
  by_cases c : topH (fun n => stayB p s n fr dy) 40 < k
  · have := a1 k c (by omega)
    rw [this]
    rfl
  · have := a2 k (by omega) (by omega)
    rw [this, Bool.and_false]
theorem bears_mono {w x : Wel} {p q : Pas} {s : SkyR} {fr dy dy' : Int} (hw : welE w = 0) (f : pasOk p) (fq : pasOk q) (G : MoreG q p) (M : MoreW x w) (hd : dy' ≤ dy) (h : bearE w p s fr dy = 0) (h' : bearE x q s fr dy' = 0) : bearN w p s fr dy ≤ bearN x q s fr dy' := by
  rw [bearN_eq h, bearN_eq h']
  have m1 := topH_mono (N := 40) (q := fun n => stayB p s n fr dy) (q' := fun n => stayB q s n fr dy') fun k hk => stay_less G f fq (by omega) (Int.le_refl _) (by omega) hd
  have m2 := topH_mono (N := 40) (q := fun m => watB w m fr.toNat dy.toNat) (q' := fun m => watB x m fr.toNat dy'.toNat) fun k hk => watB_more M (by omega)
  omega
theorem ckdE_stay {p : Pas} {s : SkyR} {n : Int} {a fr dy : Nat} (f : pasOk p) (g : skyOk s) (ea : s.days = (a : Nat)) (hn : 0 ≤ n ∧ n ≤ 40) : ckdE p (stayH a fr dy n) s = 0 := by
  have e1 : fst2 (pasE p) (skyE s) = 0 := by
    unfold fst2 pasE skyE
    rw [if_pos f, if_pos g]
    rfl
  have ec : cntE (a : Nat) (a : Nat) (a : Nat) = 0 := by
    unfold cntE
    rw [if_neg (by omega), if_neg (by omega)]
  unfold ckdE hunE
  rw [if_neg (by omega), stayH_len, ea, ec, if_neg (by decide)]
  exact if_pos (stayH_ok hn)
theorem feed_stay {p : Pas} {s : SkyR} {n : Int} {fr dy : Int} {l : List Int} (e : l = stayH s.days.toNat fr.toNat dy.toNat n) (h : ckdE p l s = 0) : decide (feedN p l s = 1) = stayB p s n fr dy := by
  unfold feedN
  rw [if_neg (by omega)]
  unfold stayB
  rw [← e]
  cases fedB p l s with
  | true => simp
  | false =>
    rw [if_neg (by decide)]
    split <;> simp
section
variable {main : Bool} {J : JT} {h H : List AObj} {K : Value → List AObj → Prop} {KV : Value → Prop} {HL : List AObj → Prop} {n0 : Nat}
theorem good65 (hJ : Closed prog main J) {w : Wel} {p : Pas} {s : SkyR} {n : Int} {fr dy : Nat} (hw : welE w = 0) (f : pasOk p) (g : skyOk s) (hn : 0 ≤ n ∧ n ≤ 40) (hfd : ((fr + dy : Nat) : Int) ≤ s.days)
    (hK : ∀ H', SameX [] H H' → K (.tuple ⟨[.bool (stayB p s n (fr : Nat) (dy : Nat) && watB w n fr dy), .bool true]⟩) H') : Good prog J 65 [.agg ⟨w.cells⟩, .agg ⟨p.cells⟩, .agg ⟨s.cells⟩, vint n, vint (fr : Nat), vint (dy : Nat)] H K := by
  refine g65 hJ fun ok => ?_
  rw [e65]
  obtain ⟨g1, g2, g3⟩ := id g
  obtain ⟨a, ea⟩ := Int.eq_ofNat_of_zero_le (by omega : (0 : Int) ≤ s.days)
  obtain ⟨b1, b2, b3⟩ := welE_zero hw
  refine qBox (l := w.cells) rfl fun H1 p6 e1 S1 c6 l1 => qBox (l := p.cells) rfl fun H2 p7 e2 S2 c7 l2 => qBox (l := s.cells) rfl fun H3 p8 e3 S3 c8 l3 => ?_
  have c73 := S3.get c7 (by simp)
  have T3 := (S1.trans S2).trans S3
  have l7 := lt_of_get c73
  have l8 := lt_of_get c8
  have sb : ∀ {H'}, SameX [] H3 H' → SameB (some [p7, p8]) H3 H' := fun S => sbTwo S l7 l8 (by simp) (by simp)
  refine ⟨[p7, p8], load_part (c := p.cells) c73 (by simp [Pas.cells]) rfl rfl ⟨by simp [RdOk, ptr, ptrBlk], offI (ldI (v := vint s.days) c8 rfl rfl ⟨by simp [RdOk, ptr, ptrBlk], load_part (c := s.cells) c8 (by simp [SkyR.cells]) rfl rfl ⟨by simp [RdOk, ptr, ptrBlk], ?_⟩⟩)⟩⟩
  rw [ea]
  refine good107 hJ (a := a) (by omega) (by omega) fun H4 v o S4 O4 ho => ⟨sb S4, ?_⟩
  have E0 := ckdE_stay (fr := fr) (dy := dy) f g ea hn
  refine good106 hJ (ownX_sli O4) (by rw [stayH_len]; omega) fun H5 S5 => ⟨sb (S4.trans S5), ext0 (ext1 ?_)⟩
  have T5 := T3.trans (S4.trans S5)
  have c65 := (S4.trans S5).get (S3.get (S2.get c6 (by simp)) (by simp)) (by simp)
  refine offI (ldI (v := vint w.now) c65 rfl rfl ?_)
  rw [E0]
  have EF : decide (feedN p (stayH a fr dy n) s = 1) = stayB p s n (fr : Nat) (dy : Nat) := feed_stay (by rw [ea]; rfl) E0
  generalize feedN p (stayH a fr dy n) s = fN at EF
  refine l65_1 hJ (fun d : Nat => fr + dy - d) (fun d F H' => d ≤ fr + dy ∧ H' = H5 ∧ F.ds = [] ∧ F.r 3 = vint n ∧ F.r 4 = vint (fr : Nat) ∧ F.r 5 = vint (dy : Nat) ∧ F.r 6 = ptr p6 0 ∧ F.r 14 = vint fN ∧ F.r 15 = vint 0 ∧ F.r 16 = vint (lvAll w n fr d) ∧ F.r 17 = .bool (watK w n fr (d - fr)) ∧ F.r 18 = vint (d : Nat)) ?_ (s := 0)
    (.inl ⟨by omega, rfl, rfl, rfl, rfl, rfl, rfl, rfl, rfl, (by
      show vint w.now = vint (lvAll w n fr 0)
      unfold lvAll
      rw [if_pos (Nat.zero_le _)]
      rfl), (by rw [Nat.zero_sub]; rfl), rfl⟩)
  rintro d F H' ⟨hd, rfl, ds, r3, r4, r5, r6, r14, r15, r16, r17, r18⟩ okc hnc
  rw [s65_1, r3, r4, r5, r6, r14, r15, r16, r17, r18, ds]
  have bd := lvAll_bd (fr := fr) hw hn.1 d
  refine addI (by omega) (lssI (cndI (fun hlt => ?_) fun hge => ?_))
  · refine geqI (cndI (fun hst => ?_) fun hst => ?_)
    · have e1 : d + 1 - fr = (d - fr) + 1 := by omega
      have en := lvAll_next (w := w) (m := n) (fr := fr) (d := d) (by omega)
      have ew : watK w n fr (d + 1 - fr) = (watK w n fr (d - fr) && decide (lvAll w n fr d ≥ n)) := by rw [e1, watK_more, lvAll_stay (by omega)]
      refine cndB (fun hy => ?_) fun hx => ?_
      · refine geqI (subI (by omega) (maxI (offI (ldI (v := vint w.holds) c65 rfl rfl (offI (ldI (v := vint w.fill) c65 rfl rfl (addI (by omega) (minI (addI (by omega) ⟨d + 1, by dsimp only; omega, .inl ⟨by omega, rfl, ds, r3, r4, r5, r6, r14, r15, ?_, ?_, by show vint _ = vint _; congr 1⟩⟩)))))))))
        · show vint _ = vint _
          rw [en]
        · show Value.bool _ = Value.bool _
          rw [ew, hy, Bool.true_and]
      · refine subI (by omega) (maxI (offI (ldI (v := vint w.holds) c65 rfl rfl (offI (ldI (v := vint w.fill) c65 rfl rfl (addI (by omega) (minI (addI (by omega) ⟨d + 1, by dsimp only; omega, .inl ⟨by omega, rfl, ds, r3, r4, r5, r6, r14, r15, ?_, ?_, by show vint _ = vint _; congr 1⟩⟩))))))))
        · show vint _ = vint _
          rw [en]
        · show Value.bool _ = Value.bool _
          rw [ew, hx, Bool.false_and]
    · have en := lvAll_front (w := w) (m := n) (fr := fr) (d := d) (by omega)
      refine offI (ldI (v := vint w.holds) c65 rfl rfl (offI (ldI (v := vint w.fill) c65 rfl rfl (addI (by omega) (minI (addI (by omega) ⟨d + 1, by dsimp only; omega, .inl ⟨by omega, rfl, ds, r3, r4, r5, r6, r14, r15, ?_, ?_, by show vint _ = vint _; congr 1⟩⟩))))))
      · show vint _ = vint _
        rw [en]
      · show F.r 17 = _
        rw [r17, show d + 1 - fr = d - fr by omega]
  · have hdd : d = fr + dy := by omega
    subst hdd
    have k := hK H' T5
    rw [show fr + dy - fr = dy by omega, watK_B]
    rw [← EF] at k
    refine eqlI (cndI (fun hx => eqlI ?_) fun hx => eqlI ?_)
    · rw [decide_eq_true hx, Bool.true_and] at k
      exact retL_same (nu2 (by simp [unk]) (by simp [unk])) k
    · rw [decide_eq_false hx, Bool.false_and] at k
      exact retL_same (nu2 (by simp [unk]) (by simp [unk])) k
end
end Go.Proofs.Ytindillghipjjaa
namespace Go.Proofs.Ytindillghipjjaa
open Go.Conc Go.Proofs.Try
set_option maxRecDepth 100000
set_option maxHeartbeats 4000000
set_option linter.unusedVariables false
section
variable {main : Bool} {J : JT} {n0 : Nat} {h : List AObj} {K : Value → List AObj → Prop}
theorem at31 : prog.funcs[31]? = some f31 := by kernel_rfl
theorem body31 : f31.body = some (codeOf f31) := by kernel_rfl
def pl31 : Plans := [(2, false, .take 0 (.take 1 (.take 2 (.take 3 (.take 4 (.take 5 (.take 7 (.take 8 (.take 9 (.take 10 (.take 11 (.take 12 (.last 6 true (.last 13 true (.last 14 true (.last 15 true (.take 16 (.last 17 false (.fin))))))))))))))))))),
  (4, false, .take 0 (.take 1 (.take 2 (.take 3 (.take 4 (.take 6 (.take 7 (.take 8 (.last 5 true (.last 9 true (.last 10 true (.last 11 true (.take 12 (.last 13 false (.fin)))))))))))))))]
def ct31 : Cuts := .go
theorem pok31 : plansOk prog pl31 (codeOf f31) = true := by kernel_rfl
theorem e31 {a0 : Value} : W prog J 55 h.length 31 (codeOf f31) (RG.mk (regs [a0]) []) h (RetQ prog [.cell 2 46] h.length K) =
(aAlloc [(vint 0), (vint 0), (vint 0), (vint 0), (vint 0), (vint 0)] h fun v1 h2 =>
Good prog J 33 [a0, (vint 3), (vint 30)] h2 fun v3 h4 =>
(((3 * 1 : Nat) ≤ 16777216 ∧ (3 : Nat) ≤ 16777216 ∧ List.length [(vint 0)] = 1) ∧ aFill (zrep [(vint 0)] 3) [(0, 1, (vint 1)), (1, 1, (vint 1)), (2, 1, (vint 2))] fun c5 =>
aNewS 3 c5 h4 fun v6 h7 =>
Good prog J 22 [a0, (vint 0), v6] h7 fun v8 h9 =>
Good prog J 23 [a0, (vint 5)] h9 fun v10 h11 =>
(((3 * 1 : Nat) ≤ 16777216 ∧ (3 : Nat) ≤ 16777216 ∧ List.length [(vint 0)] = 1) ∧ aFill (zrep [(vint 0)] 3) [(0, 1, (vint 1)), (1, 1, (vint 2)), (2, 1, v10)] fun c12 =>
aNewS 3 c12 h11 fun v13 h14 =>
Good prog J 22 [a0, (vint 0), v13] h14 fun v15 h16 =>
aFill [(vint 0), (vint 0), (vint 0), (vint 0), (vint 0), (vint 0)] [(1, 1, v3), (2, 1, v8), (5, 1, v15)] fun c17 =>
aAlloc [(vint 0), (vint 0), (vint 0), (vint 0), (vint 0), (vint 0)] h16 fun v18 h19 =>
aStore 6 v18 (Value.agg ⟨c17⟩) h19 fun h20 =>
(∃ B, aOff v18 1 fun v21 =>
aLoad false 1 v21 h20 fun v22 =>
RdOk (some B) (ptrBlk v21) ∧ (aOff v18 1 fun v23 =>
aLoad false 1 v23 h20 fun v24 =>
RdOk (some B) (ptrBlk v23) ∧ (aOff v18 1 fun v25 =>
aLoad false 1 v25 h20 fun v26 =>
RdOk (some B) (ptrBlk v25) ∧ (aBin prog .quo 3 v26 (vint 2) fun v27 =>
aOff v18 1 fun v28 =>
aLoad false 1 v28 h20 fun v29 =>
RdOk (some B) (ptrBlk v28) ∧ (Good prog J 23 [a0, v24] h20 fun v30 h31 =>
SameB (some B) h20 h31 ∧ (Good prog J 33 [a0, v27, v29] h31 fun v32 h33 =>
SameB (some B) h20 h33 ∧ ((((2 * 1 : Nat) ≤ 16777216 ∧ (2 : Nat) ≤ 16777216 ∧ List.length [(vint 0)] = 1) ∧ aFill (zrep [(vint 0)] 2) [(0, 1, v30), (1, 1, v32)] fun c34 =>
aNewS 2 c34 h33 fun v35 h36 =>
SameB (some B) h20 h36 ∧ (Good prog J 22 [a0, v22, v35] h36 fun v37 h38 =>
SameB (some B) h20 h38 ∧ (aOff v18 0 fun v39 =>
aStore 1 v39 v37 h38 fun h40 =>
aOff v18 2 fun v41 =>
aLoad false 1 v41 h40 fun v42 =>
aOff v18 2 fun v43 =>
aLoad false 1 v43 h40 fun v44 =>
aBin prog .add 3 v44 (vint 5) fun v45 =>
aMin (vint 9) [v45] fun v46 =>
Good prog J 33 [a0, v42, v46] h40 fun v47 h48 =>
aOff v18 3 fun v49 =>
aStore 1 v49 v47 h48 fun h50 =>
(∃ B, aOff v18 1 fun v51 =>
aLoad false 1 v51 h50 fun v52 =>
RdOk (some B) (ptrBlk v51) ∧ (aBin prog .quo 3 v52 (vint 2) fun v53 =>
aOff v18 1 fun v54 =>
aLoad false 1 v54 h50 fun v55 =>
RdOk (some B) (ptrBlk v54) ∧ (Good prog J 23 [a0, v53] h50 fun v56 h57 =>
SameB (some B) h50 h57 ∧ (Good prog J 23 [a0, v55] h57 fun v58 h59 =>
SameB (some B) h50 h59 ∧ ((((4 * 1 : Nat) ≤ 16777216 ∧ (4 : Nat) ≤ 16777216 ∧ List.length [(vint 0)] = 1) ∧ aFill (zrep [(vint 0)] 4) [(0, 1, (vint 1)), (1, 1, (vint 2)), (2, 1, v56), (3, 1, v58)] fun c60 =>
aNewS 4 c60 h59 fun v61 h62 =>
SameB (some B) h50 h62 ∧ (Good prog J 22 [a0, (vint 0), v61] h62 fun v63 h64 =>
SameB (some B) h50 h64 ∧ (aOff v18 4 fun v65 =>
aStore 1 v65 v63 h64 fun h66 =>
aLoad true 6 v18 h66 fun v67 =>
aStore 6 v1 v67 h66 fun h68 =>
RetQ prog [.cell 2 46] h.length K .ret (RG.p (RG.p (RG.p (RG.p (RG.p (RG.p (RG.p (RG.p (RG.p (RG.p (RG.p (RG.p (RG.p (RG.p (RG.p (RG.p (RG.p (RG.p (RG.p (RG.p (RG.p (RG.p (RG.p (RG.p (RG.p (RG.p (RG.p (RG.p (RG.p (RG.p (RG.p (RG.p (RG.p (RG.p (RG.p (RG.p (RG.p (RG.p (RG.p (RG.p (RG.p (RG.p (RG.p (RG.p (RG.p (RG.p (RG.p (RG.p (RG.p (RG.p (RG.p (RG.p (RG.p (RG.mk (regs [a0]) []) 2 v1) 4 a0) 5 v3) 6 a0) 7 v6) 8 v8) 9 a0) 10 a0) 11 v10) 12 v13) 13 v15) 14 (Value.agg ⟨c17⟩)) 3 v18) 15 a0) 16 v21) 17 v22) 18 a0) 19 v23) 20 v24) 22 a0) 23 v25) 24 v26) 25 v27) 26 v28) 27 v29) 21 v30) 28 v32) 29 v35) 30 v37) 31 v39) 32 a0) 33 v41) 34 v42) 35 v43) 36 v44) 37 v45) 38 v46) 39 v47) 40 v49) 41 a0) 42 a0) 43 v51) 44 v52) 45 v53) 47 a0) 48 v54) 49 v55) 46 v56) 50 v58) 51 v61) 52 v63) 53 v65) 54 v67) h68))))))))))))))))))))) := top_eq pok31 ct31 (by kernel_rfl)
theorem g31 (hJ : Closed prog main J) {a0 : Value} (hs : heapOk h → W prog J 55 h.length 31 (codeOf f31) (RG.mk (regs [a0]) []) h (RetQ prog [.cell 2 46] h.length K)) : Good prog J 31 [a0] h K :=
  good_of_W hJ mixed at31 body31 (by kernel_rfl) (Nat.le_of_ble_eq_true rfl) hs
theorem at32 : prog.funcs[32]? = some f32 := by kernel_rfl
theorem body32 : f32.body = some (codeOf f32) := by kernel_rfl
def pl32 : Plans := [(2, false, .take 0 (.take 1 (.take 2 (.take 4 (.take 5 (.take 6 (.last 3 true (.take 8 (.last 7 true (.last 9 false (.take 10 (.last 11 false (.fin)))))))))))))]
def ct32 : Cuts := .go
theorem pok32 : plansOk prog pl32 (codeOf f32) = true := by kernel_rfl
theorem e32 {a0 a1 : Value} : W prog J 21 h.length 32 (codeOf f32) (RG.mk (regs [a0, a1]) []) h (RetQ prog [.cell 4 48] h.length K) =
(aAlloc [(vint 0), (vint 0), (vint 0)] h fun v1 h2 =>
Good prog J 33 [a0, (vint 1), a1] h2 fun v3 h4 =>
aFill [(vint 0), (vint 0), (vint 0)] [(0, 1, v3)] fun c5 =>
aAlloc [(vint 0), (vint 0), (vint 0)] h4 fun v6 h7 =>
aStore 3 v6 (Value.agg ⟨c5⟩) h7 fun h8 =>
(∃ B, aOff v6 0 fun v9 =>
aLoad false 1 v9 h8 fun v10 =>
RdOk (some B) (ptrBlk v9) ∧ (aOff v6 0 fun v11 =>
aLoad false 1 v11 h8 fun v12 =>
RdOk (some B) (ptrBlk v11) ∧ (Good prog J 33 [a0, (vint 1), v10] h8 fun v13 h14 =>
SameB (some B) h8 h14 ∧ (aOff v6 1 fun v15 =>
Good prog J 33 [a0, (vint 1), v12] h14 fun v16 h17 =>
SameB (some B) h8 h17 ∧ (aStore 1 v15 v13 h17 fun h18 =>
aOff v6 2 fun v19 =>
aStore 1 v19 v16 h18 fun h20 =>
aLoad true 3 v6 h20 fun v21 =>
aStore 3 v1 v21 h20 fun h22 =>
RetQ prog [.cell 4 48] h.length K .ret (RG.p (RG.p (RG.p (RG.p (RG.p (RG.p (RG.p (RG.p (RG.p (RG.p (RG.p (RG.p (RG.p (RG.p (RG.p (RG.p (RG.p (RG.mk (regs [a0, a1]) []) 4 v1) 6 a0) 7 a1) 8 v3) 9 (Value.agg ⟨c5⟩)) 5 v6) 10 a0) 11 v9) 12 v10) 14 a0) 15 v11) 16 v12) 13 v13) 18 v15) 17 v16) 19 v19) 20 v21) h22)))))) := top_eq pok32 ct32 (by kernel_rfl)
theorem g32 (hJ : Closed prog main J) {a0 a1 : Value} (hs : heapOk h → W prog J 21 h.length 32 (codeOf f32) (RG.mk (regs [a0, a1]) []) h (RetQ prog [.cell 4 48] h.length K)) : Good prog J 32 [a0, a1] h K :=
  good_of_W hJ mixed at32 body32 (by kernel_rfl) (Nat.le_of_ble_eq_true rfl) hs
end
end Go.Proofs.Ytindillghipjjaa
namespace Go.Proofs.Ytindillghipjjaa
open Go.Conc Go.Proofs.Try
set_option maxRecDepth 100000
section
variable {main : Bool} {J : JT} {h H : List AObj} {K : Value → List AObj → Prop} {KV : Value → Prop} {HL : List AObj → Prop} {n0 : Nat} {ns : List Int} {k : Nat}
theorem quoZ {t : TypeId} {a b : Int} (ha : 0 ≤ a ∧ a ≤ 1000000) (hb : 0 < b) (hk : KV (vint (a / b))) : aBin prog .quo t (vint a) (vint b) KV := by
  have h1 : Int.tdiv a b = a / b := Int.tdiv_eq_ediv_of_nonneg ha.1
  have h2 : 0 ≤ a / b := Int.ediv_nonneg ha.1 (by omega)
  have h3 : a / b ≤ a := Int.ediv_le_self _ ha.1
  simp only [aBin, aInt, true_and]
  rw [h1, wrap64 (by omega) (by omega)]
  exact ⟨by omega, hk⟩
theorem hxLt (a : HX h H ns k) : h.length < H.length := by
  obtain ⟨nv, k1, s, rest, rfl, _⟩ := a
  rw [hf_len]
  omega
theorem ofZ (hJ : Closed prog main J) (a : HX h H ns k) (hk : k < 1000000) {x : Int} {others : List Int} {p n c : Nat} (hp : H[p]? = some (.cells (others.map vint) true 0)) (hne : p ≠ h.length) (hn : others.length = n) (hl : n < 1000)
    (hK : ∀ y H', (y = x ∨ y ∈ others) → SameX [h.length] H H' → H'.length = H.length → HX h H' ns (k + 1) → K (vint y) H') : Good prog J 22 [ptr h.length 0, vint x, .slice (some ⟨p, 0, none⟩) n c] H K := by
  subst hn
  obtain ⟨nv, k1, s, rest, rfl, b1, b2, b3⟩ := a
  refine good22 hJ (hf_hand b3.list b3.sane (by omega) b2.1 b2.2) (others := others) (fun h' hd => ?_) (by omega) fun y h1 hy hd => ?_
  · obtain ⟨k', s', c1, c2, c3, rfl⟩ := hf_dealt hd
    have S := hf_same (h := h) (nv := nv) (k1 := k1) (k2 := k') (s1 := s) (s2 := s') (rest := rest) (g := [])
    rw [List.append_nil] at S
    exact sli_new (wr := true) (sz := 0) (S.get hp (by simpa using hne)) (by simp) (kn_ints _)
  · obtain ⟨k', s', c1, c2, c3, rfl⟩ := hf_dealt hd
    have S := hf_same (h := h) (nv := nv) (k1 := k1) (k2 := k') (s1 := s) (s2 := s') (rest := rest) (g := [])
    rw [List.append_nil] at S
    exact hK y _ hy S (by simp [hf_len]) ⟨nv, k', s', rest, rfl, by omega, ⟨c2, c3⟩, b3⟩
theorem good32 (hJ : Closed prog main J) (a : HX h H ns k) (hk : k < 400000) {D : Int} (hD : 1 ≤ D ∧ D ≤ 8)
    (hK : ∀ s H', skyOk s → s.days ≤ D → SameX [h.length] H H' → HX h H' ns (k + 3) → K (.agg ⟨s.cells⟩) H') : Good prog J 32 [ptr h.length 0, vint D] H K := by
  refine g32 hJ fun ok => ?_
  rw [e32]
  have hlt := hxLt a
  refine qAl fun H1 p1 e1 S1 c1 l1 => ?_
  have a1 := a.same S1 (by simp)
  refine amX hJ a1 (by omega) (by omega) (by omega) fun d H2 b1 b2 S2 l2 a2 => ?_
  refine fillO (l := [vint d]) rfl rfl rfl (Nat.le_of_ble_eq_true rfl) (fillI ?_)
  refine qAl fun H3 p3 e3 S3 c3 l3 => qStA (c := [vint d, vint 0, vint 0]) c3 rfl rfl rfl fun H4 S4 c4 l4 => ?_
  have a4 := (a2.same S3 (by simp)).same S4 (by simp; omega)
  have hp4 : p3 < H4.length := lt_of_get c4
  refine ⟨[p3], offI (ldI (v := vint d) c4 rfl rfl ⟨by simp [RdOk, ptrBlk, ptr], offI (ldI (v := vint d) c4 rfl rfl ⟨by simp [RdOk, ptrBlk, ptr], ?_⟩)⟩)⟩
  refine amX hJ a4 (by omega) (by omega) (by omega) fun u H5 d1 d2 S5 l5 a5 => ⟨sbOne S5 hp4 (by simp; omega), offI ?_⟩
  refine amX hJ a5 (by omega) (by omega) (by omega) fun w H6 f1 f2 S6 l6 a6 => ⟨sbOne (S5.trans S6) hp4 (by simp; omega), ?_⟩
  have T6 : SameX [h.length] H4 H6 := S5.trans S6
  refine qSt (T6.get c4 (by simp; omega)) (by simp) rfl rfl fun H7 S7 c7 l7 => offI (qSt c7 (by simp) rfl rfl fun H8 S8 c8 l8 => ?_)
  refine load_part (c := (⟨d, u, w⟩ : SkyR).cells) c8 (by simp) rfl rfl ?_
  have T4 : SameX [h.length] H H4 := (((S1.weak0).trans S2).trans S3.weak0).thru S4 (by simp; omega)
  have T8 : SameX [h.length] H H8 := ((T4.trans T6).thru S7 (by simp; omega)).thru S8 (by simp; omega)
  have c1' := S8.get (S7.get (T6.get (S4.get (S3.get (S2.get c1 (by simp; omega)) (by simp)) (by simp; omega)) (by simp; omega)) (by simp; omega)) (by simp; omega)
  refine qStA (c := (⟨d, u, w⟩ : SkyR).cells) c1' rfl rfl rfl fun H9 S9 c9 l9 => ?_
  refine retQs rfl (resW_cell (gg := true) (s := 3) (by kernel_rfl) (load_part (c := (⟨d, u, w⟩ : SkyR).cells) c9 (by simp [SkyR.cells]) rfl rfl (resW_nil ?_)))
  refine hK ⟨d, u, w⟩ H9 ⟨by show 1 ≤ d ∧ d ≤ 8; omega, by show 1 ≤ u ∧ u ≤ d; omega, by show 1 ≤ w ∧ w ≤ d; omega⟩ (by show d ≤ D; omega) (T8.thru S9 (by simp; omega)) (((a6.same S7 (by simp; omega)).same S8 (by simp; omega)).same S9 (by simp; omega))
set_option maxHeartbeats 800000 in
theorem good31 (hJ : Closed prog main J) (a : HX h H ns k) (hk : k < 400000)
    (hK : ∀ p H', pasOk p → 3 ≤ p.bears ∧ p.bears ≤ 30 → SameX [h.length] H H' → HX h H' ns (k + 12) → K (.agg ⟨p.cells⟩) H') : Good prog J 31 [ptr h.length 0] H K := by
  refine g31 hJ fun ok => ?_
  rw [e31]
  have hlt := hxLt a
  refine qAl fun H1 p1 e1 S1 c1 l1 => ?_
  have a1 := a.same S1 (by simp)
  refine amX hJ a1 (by omega) (by omega) (by omega) fun b H2 b1 b2 S2 l2 a2 => ?_
  refine ⟨by decide, fillO (l := [vint 1]) rfl rfl rfl (Nat.le_of_ble_eq_true rfl) (fillO (l := [vint 1]) rfl rfl rfl (Nat.le_of_ble_eq_true rfl) (fillO (l := [vint 2]) rfl rfl rfl (Nat.le_of_ble_eq_true rfl) (fillI (qNew fun H3 p3 e3 S3 c3 l3 => ?_))))⟩
  have c3 : H3[p3]? = some (.cells (([1, 1, 2] : List Int).map vint) true 0) := c3
  refine ofZ hJ (a2.same S3 (by simp)) (by omega) c3 (by omega) rfl (by simp) fun dr H4 m4 S4 l4 a4 => ?_
  refine upX hJ a4 (by omega) (by omega) fun u5 H5 d1 d2 S5 l5 a5 => ?_
  refine ⟨by decide, fillO (l := [vint 1]) rfl rfl rfl (Nat.le_of_ble_eq_true rfl) (fillO (l := [vint 2]) rfl rfl rfl (Nat.le_of_ble_eq_true rfl) (fillO (l := [vint u5]) rfl rfl rfl (Nat.le_of_ble_eq_true rfl) (fillI (qNew fun H6 p6 e6 S6 c6 l6 => ?_))))⟩
  have c6 : H6[p6]? = some (.cells (([1, 2, u5] : List Int).map vint) true 0) := c6
  refine ofZ hJ (a5.same S6 (by simp)) (by omega) c6 (by omega) rfl (by simp) fun sl H7 m7 S7 l7 a7 => ?_
  refine fillO (l := [vint b]) rfl rfl rfl (Nat.le_of_ble_eq_true rfl) (fillO (l := [vint dr]) rfl rfl rfl (Nat.le_of_ble_eq_true rfl) (fillO (l := [vint sl]) rfl rfl rfl (Nat.le_of_ble_eq_true rfl) (fillI ?_)))
  refine qAl fun H8 p8 e8 S8 c8 l8 => qStA (c := [vint 0, vint b, vint dr, vint 0, vint 0, vint sl]) c8 rfl rfl rfl fun H9 S9 c9 l9 => ?_
  have a9 := (a7.same S8 (by simp)).same S9 (by simp; omega)
  have hp9 : p8 < H9.length := lt_of_get c9
  have hdr : 0 ≤ dr ∧ dr ≤ 2 := by
    rcases m4 with h | h
    · omega
    · simp only [List.mem_cons, List.not_mem_nil, or_false] at h
      omega
  have hsl : 0 ≤ sl ∧ sl ≤ 5 := by
    rcases m7 with h | h
    · omega
    · simp only [List.mem_cons, List.not_mem_nil, or_false] at h
      omega
  refine ⟨[p8], offI (ldI (v := vint b) c9 rfl rfl ⟨by simp [RdOk, ptrBlk, ptr], offI (ldI (v := vint b) c9 rfl rfl ⟨by simp [RdOk, ptrBlk, ptr], offI (ldI (v := vint b) c9 rfl rfl ⟨by simp [RdOk, ptrBlk, ptr], quoZ (by omega) (by decide) (offI (ldI (v := vint b) c9 rfl rfl ⟨by simp [RdOk, ptrBlk, ptr], ?_⟩))⟩)⟩)⟩)⟩
  have T9 : ∀ {H'}, SameX [h.length] H9 H' → SameB (some [p8]) H9 H' := fun S => sbOne S hp9 (by simp; omega)
  refine upX hJ a9 (by omega) (by omega) fun u10 H10 f1 f2 S10 l10 a10 => ⟨T9 S10, ?_⟩
  refine amX hJ a10 (by omega) (by omega) (by omega) fun u11 H11 g1 g2 S11 l11 a11 => ⟨T9 (S10.trans S11), ?_⟩
  have Q11 : SameX [h.length] H9 H11 := S10.trans S11
  refine ⟨by decide, fillO (l := [vint u10]) rfl rfl rfl (Nat.le_of_ble_eq_true rfl) (fillO (l := [vint u11]) rfl rfl rfl (Nat.le_of_ble_eq_true rfl) (fillI (qNew fun H12 p12 e12 S12 c12 l12 => ⟨T9 (Q11.trans S12.weak0), ?_⟩)))⟩
  have c12 : H12[p12]? = some (.cells (([u10, u11] : List Int).map vint) true 0) := c12
  have hl11 := hxLt a11
  refine ofZ hJ (a11.same S12 (by simp)) (by omega) c12 (by omega) rfl (by simp) fun gr H13 m13 S13 l13 a13 => ?_
  have Q13 : SameX [h.length] H9 H13 := (Q11.trans S12.weak0).trans S13
  refine ⟨T9 Q13, offI ?_⟩
  have hgr : 0 ≤ gr ∧ gr ≤ b := by
    rcases m13 with h | h
    · omega
    · simp only [List.mem_cons, List.not_mem_nil, or_false] at h
      omega
  refine qSt (Q13.get c9 (by simp; omega)) (by simp) rfl rfl fun H14 S14 c14 l14 => ?_
  have c14 : H14[p8]? = some (.cells [vint gr, vint b, vint dr, vint 0, vint 0, vint sl] true 0) := c14
  have a14 := a13.same S14 (by simp; omega)
  refine offI (ldI (v := vint dr) c14 rfl rfl (offI (ldI (v := vint dr) c14 rfl rfl (addI (by omega) (minI ?_)))))
  refine amX hJ a14 (by omega) (by omega) (by omega) fun wt H15 h1 h2 S15 l15 a15 => offI ?_
  refine qSt (S15.get c14 (by simp; omega)) (by simp) rfl rfl fun H16 S16 c16 l16 => ?_
  have c16 : H16[p8]? = some (.cells [vint gr, vint b, vint dr, vint wt, vint 0, vint sl] true 0) := c16
  have a16 := a15.same S16 (by simp; omega)
  have hp16 : p8 < H16.length := lt_of_get c16
  have T16 : ∀ {H'}, SameX [h.length] H16 H' → SameB (some [p8]) H16 H' := fun S => sbOne S hp16 (by simp; omega)
  refine ⟨[p8], offI (ldI (v := vint b) c16 rfl rfl ⟨by simp [RdOk, ptrBlk, ptr], quoZ (by omega) (by decide) (offI (ldI (v := vint b) c16 rfl rfl ⟨by simp [RdOk, ptrBlk, ptr], ?_⟩))⟩)⟩
  refine upX hJ a16 (by omega) (by omega) fun u17 H17 q1 q2 S17 l17 a17 => ⟨T16 S17, ?_⟩
  refine upX hJ a17 (by omega) (by omega) fun u18 H18 q3 q4 S18 l18 a18 => ⟨T16 (S17.trans S18), ?_⟩
  have Q18 : SameX [h.length] H16 H18 := S17.trans S18
  refine ⟨by decide, fillO (l := [vint 1]) rfl rfl rfl (Nat.le_of_ble_eq_true rfl) (fillO (l := [vint 2]) rfl rfl rfl (Nat.le_of_ble_eq_true rfl) (fillO (l := [vint u17]) rfl rfl rfl (Nat.le_of_ble_eq_true rfl) (fillO (l := [vint u18]) rfl rfl rfl (Nat.le_of_ble_eq_true rfl) (fillI (qNew fun H19 p19 e19 S19 c19 l19 => ⟨T16 (Q18.trans S19.weak0), ?_⟩)))))⟩
  have c19 : H19[p19]? = some (.cells (([1, 2, u17, u18] : List Int).map vint) true 0) := c19
  have hl18 := hxLt a18
  refine ofZ hJ (a18.same S19 (by simp)) (by omega) c19 (by omega) rfl (by simp) fun st H20 m20 S20 l20 a20 => ?_
  have Q20 : SameX [h.length] H16 H20 := (Q18.trans S19.weak0).trans S20
  have hst : 0 ≤ st ∧ st ≤ b := by
    rcases m20 with h | h
    · omega
    · simp only [List.mem_cons, List.not_mem_nil, or_false] at h
      omega
  refine ⟨T16 Q20, offI (qSt (Q20.get c16 (by simp; omega)) (by simp) rfl rfl fun H21 S21 c21 l21 => ?_)⟩
  have c21 : H21[p8]? = some (.cells (⟨gr, b, dr, wt, st, sl⟩ : Pas).cells true 0) := c21
  refine load_part (c := (⟨gr, b, dr, wt, st, sl⟩ : Pas).cells) c21 (by simp [Pas.cells]) rfl rfl ?_
  have U7 : SameX [h.length] H H7 := ((((((S1.weak0).trans S2).trans S3.weak0).trans S4).trans S5).trans S6.weak0).trans S7
  have U9 : SameX [h.length] H H9 := (U7.trans S8.weak0).thru S9 (by have := U7.1; simp; omega)
  have U21 : SameX [h.length] H H21 := ((((U9.trans Q13).thru S14 (by have := U7.1; simp; omega)).trans S15).thru S16 (by have := U7.1; simp; omega)).trans Q20 |>.thru S21 (by have := U7.1; simp; omega)
  have V1 : SameX [h.length] H1 H7 := ((((S2.trans S3.weak0).trans S4).trans S5).trans S6.weak0).trans S7
  have hv1 := V1.1
  have V9 : SameX [h.length, p8] H1 H9 := ((V1.trans S8.weak0).weak (by simp)).trans (S9.weak (by simp))
  have V21 : SameX [h.length, p8] H1 H21 := (((((V9.trans (Q13.weak (by simp))).trans (S14.weak (by simp))).trans (S15.weak (by simp))).trans (S16.weak (by simp))).trans (Q20.weak (by simp))).trans (S21.weak (by simp))
  have c1' := V21.get c1 (by simp; omega)
  refine qStA (c := (⟨gr, b, dr, wt, st, sl⟩ : Pas).cells) c1' rfl rfl rfl fun H22 S22 c22 l22 => ?_
  refine retQs rfl (resW_cell (gg := true) (s := 6) (by kernel_rfl) (load_part (c := (⟨gr, b, dr, wt, st, sl⟩ : Pas).cells) c22 (by simp [Pas.cells]) rfl rfl (resW_nil ?_)))
  refine hK ⟨gr, b, dr, wt, st, sl⟩ H22 ⟨by show 1 ≤ b ∧ b ≤ 99; omega, hgr, by show 0 ≤ dr ∧ dr ≤ 9; omega, by show dr ≤ wt ∧ wt ≤ 9; omega, hst, hsl⟩ (by show 3 ≤ b ∧ b ≤ 30; omega) (U21.thru S22 (by simp; omega)) ?_
  have z21 := a20.same S21 (by simp; omega)
  have z22 := z21.same S22 (by simp; omega)
  exact z22.mono (by omega)
end
structure M17 (Hb : List AObj) (ns : List Int) (H : List AObj) (f : RG) (w : Wel) (p : Pas) (s : SkyR) (fr dy : Nat) (n : Int) (p4 p5 p6 : Nat) : Prop where
  ds : f.ds = []
  hx : HX Hb H ns 22
  r3 : f.r 3 = ptr Hb.length 0
  r4 : f.r 4 = ptr p4 0
  r5 : f.r 5 = ptr p5 0
  r6 : f.r 6 = ptr p6 0
  r7 : f.r 7 = vint (fr : Nat)
  r8 : f.r 8 = vint (dy : Nat)
  r9 : f.r 9 = vint n
  n4 : Hb.length < p4
  n5 : Hb.length < p5
  n6 : Hb.length < p6
  c4 : H[p4]? = some (.cells w.cells true 0)
  c5 : H[p5]? = some (.cells p.cells true 0)
  c6 : H[p6]? = some (.cells s.cells true 0)
structure Ok17 (w : Wel) (p : Pas) (s : SkyR) (fr dy : Nat) (n : Int) : Prop where
  ow : welE w = 0
  op : pasOk p
  os : skyOk s
  ofr : (fr : Int) ≤ s.days - 1
  ody : 1 ≤ (dy : Int) ∧ (dy : Int) ≤ s.days - fr
  oe : bearE w p s (fr : Nat) (dy : Nat) = 0
  on : n = bearN w p s (fr : Nat) (dy : Nat)
  nb : 0 ≤ n ∧ n ≤ 40
section
variable {W0 : World} {Post : Value → World → Prop} {h H H0 : List AObj} {K : Value → List AObj → Prop} {n0 : Nat}
variable {Hb : List AObj} {ns : List Int} {f : RG} {w : Wel} {p : Pas} {s : SkyR} {fr dy : Nat} {n : Int} {p4 p5 p6 p14 p15 : Nat}
theorem rest17 (M : M17 Hb ns H f w p s fr dy n p4 p5 p6) (O : Ok17 w p s fr dy n) (r14 : f.r 14 = ptr p14 0) (r15 : f.r 15 = ptr p15 0) (c14 : H[p14]? = some (.cells w.cells true 0)) (c15 : H[p15]? = some (.cells p.cells true 0)) (n14 : Hb.length < p14) (n15 : Hb.length < p15)
    (d1 : p14 ≠ p15) (d2 : p14 ≠ p4) (d3 : p14 ≠ p5) (d4 : p14 ≠ p6) (d5 : p15 ≠ p4) (d6 : p15 ≠ p5) (d7 : p15 ≠ p6) (hK : ∀ h', K (.bool true) h') :
    W prog (J1 prog W0 Post) 128 n0 17 (subC [1, 1, 1, 1, 1, 1, 1, 1, 1] (codeOf f17)) f H (contX pl17 prog (J1 prog W0 Post) 128 n0 17 ct17 [1, 1, 1, 1, 1, 1, 1, 1, 1] (codeOf f17) [] (RetQ prog [.tmp 2] n0 K)) := by
  have hJ := J1.closed prog W0 Post
  rw [s17_5, M.r3, M.r4, M.r5, M.r6, M.r7, M.r8, M.r9, r14, r15, M.ds]
  obtain ⟨b1, b2, b3⟩ := welE_zero O.ow
  have op := O.op
  obtain ⟨f1, f2, f3, f4, f5, f6⟩ := id op
  obtain ⟨g1, g2, g3⟩ := id O.os
  have n4 := M.n4
  have n5 := M.n5
  have n6 := M.n6
  have ody := O.ody
  have ofr := O.ofr
  have nb := O.nb
  have l4 := lt_of_get M.c4
  have l5 := lt_of_get M.c5
  refine ⟨[p4, p5], offI (ldI (v := vint w.now) M.c4 rfl rfl ⟨by simp [RdOk, ptr, ptrBlk], offI (ldI (v := vint w.holds) M.c4 rfl rfl ⟨by simp [RdOk, ptr, ptrBlk], offI (ldI (v := vint p.grass) M.c5 rfl rfl ⟨by simp [RdOk, ptr, ptrBlk], offI (ldI (v := vint p.bears) M.c5 rfl rfl ⟨by simp [RdOk, ptr, ptrBlk], ?_⟩)⟩)⟩)⟩)⟩
  refine amX hJ M.hx (by omega) (by omega) (by omega) fun y1 H1 u1 u2 S1 q1 a1 => ⟨sbTwo S1 l4 l5 (by simp; omega) (by simp; omega), offI ?_⟩
  refine amX hJ a1 (by omega) (by omega) (by omega) fun y2 H2 u3 u4 S2 q2 a2 => ?_
  have T2 := S1.trans S2
  refine qSt (T2.get c14 (by simp; omega)) (by simp [Wel.cells]) rfl rfl fun H3 S3 c3 q3 => offI ?_
  refine qSt (S3.get (T2.get c15 (by simp; omega)) (by simp; omega)) (by simp [Pas.cells]) rfl rfl fun H4 S4 c4 q4 => offI ?_
  have a4 := (a2.same S3 (by simp; omega)).same S4 (by simp; omega)
  refine ldI (v := vint w.fill) (S4.get (S3.get (T2.get M.c4 (by simp; omega)) (by simp; omega)) (by simp; omega)) rfl rfl ?_
  refine amX hJ a4 (by omega) (by omega) (by omega) fun y3 H5 u5 u6 S5 q5 a5 => offI ?_
  have x14 := S5.get (S4.get c3 (by simp; omega)) (by simp; omega)
  refine qSt x14 (by simp [Wel.cells]) rfl rfl fun H6 S6 c6 q6 => ?_
  have c14 : H6[p14]? = some (.cells (⟨y1, w.holds, y3⟩ : Wel).cells true 0) := c6
  have c15 : H6[p15]? = some (.cells ({ p with grass := y2 } : Pas).cells true 0) := S6.get (S5.get c4 (by simp; omega)) (by simp; omega)
  have e6 : H6[p6]? = some (.cells s.cells true 0) := S6.get (S5.get (S4.get (S3.get (T2.get M.c6 (by simp; omega)) (by simp; omega)) (by simp; omega)) (by simp; omega)) (by simp; omega)
  have a6 := a5.same S6 (by simp; omega)
  have k14 := lt_of_get c14
  have k15 := lt_of_get c15
  have k6 := lt_of_get e6
  refine ⟨[p14, p15, p6], load_part (c := (⟨y1, w.holds, y3⟩ : Wel).cells) c14 (by simp [Wel.cells]) rfl rfl ⟨by simp [RdOk, ptr, ptrBlk], load_part (c := ({ p with grass := y2 } : Pas).cells) c15 (by simp [Pas.cells]) rfl rfl ⟨by simp [RdOk, ptr, ptrBlk], load_part (c := s.cells) e6 (by simp [SkyR.cells]) rfl rfl ⟨by simp [RdOk, ptr, ptrBlk], ?_⟩⟩⟩⟩
  refine amX hJ a6 (by omega) (by omega) (by omega) fun y4 H7 u7 u8 S7 q7 a7 => ⟨fun b hb => S7.2 b (by
    simp at hb
    rcases hb with rfl | rfl | rfl <;> omega) (by simp at hb ⊢; rcases hb with rfl | rfl | rfl <;> omega), ?_⟩
  refine good34 hJ fun H8 S8 => ext0 (ext1 (eqlI ?_))
  have hw' : welE (⟨y1, w.holds, y3⟩ : Wel) = 0 := by
    unfold welE
    rw [if_pos ⟨b1, by dsimp only; omega, by dsimp only; omega⟩]
  have G : MoreG ({ p with grass := y2 } : Pas) p := ⟨by dsimp only; omega, rfl, rfl, rfl, rfl, rfl⟩
  have fq : pasOk ({ p with grass := y2 } : Pas) := pasOk_more G op (by dsimp only; omega)
  have e' : bearE (⟨y1, w.holds, y3⟩ : Wel) ({ p with grass := y2 } : Pas) s (fr : Nat) y4 = 0 := bearE_parts hw' fq O.os (by omega) (by omega)
  have mono := bears_mono (x := (⟨y1, w.holds, y3⟩ : Wel)) O.ow op fq G ⟨by dsimp only; omega, by dsimp only; omega, rfl⟩ (by omega : y4 ≤ (dy : Int)) O.oe e'
  rw [e']
  rw [← O.on] at mono
  refine cndI (fun _ => geqI (cndI (fun _ => good19 fun H9 => retL_same (by simp [unk]) (hK _)) fun hx => absurd ?_ hx)) fun hx => absurd rfl hx
  have := O.on
  omega
theorem neqB17 {a b : Bool} {K : Value → Prop} (hk : K (.bool (!(a == b)))) : aBin prog .neq 4 (.bool a) (.bool b) K := by
  have e1 : teq prog 10000 4 (.bool a) (.bool b) = some (a == b) := by kernel_rfl
  have e2 : prog.eqGuardType prog.depth 4 = false := by kernel_rfl
  show aEq prog true 4 (.bool a) (.bool b) K
  unfold aEq
  rw [e1]
  exact ⟨e2, hk⟩
theorem bodyOf17 {F : RG} {nx0 : RG → List AObj → Prop} {k : Nat} (M : M17 Hb ns H F w p s fr dy n p4 p5 p6) (O : Ok17 w p s fr dy n) (r11 : F.r 11 = vint (k : Nat)) (hk : k ≤ 2) (r63 : F.r 63 = .bool (decide (k < 2 ∧ n + k ≤ 40))) (hK : ∀ h', K (.bool true) h')
    (hnx : ∀ F' H', k < 2 → SameX [] H H' → M17 Hb ns H' F' w p s fr dy n p4 p5 p6 → F'.r 11 = vint ((k + 1 : Nat) : Int) → nx0 F' H') :
    W prog (J1 prog W0 Post) 128 n0 17 (subC [1, 1, 1, 1, 1, 1, 1, 0, 1, 0, 0, 0, 1] (codeOf f17)) F H (contX pl17 prog (J1 prog W0 Post) 128 n0 17 ct17 [1, 1, 1, 1, 1, 1, 1, 0, 1, 0, 0, 0, 1] (codeOf f17) [nx0] (RetQ prog [.tmp 2] n0 K)) := by
  have hJ := J1.closed prog W0 Post
  rw [s17_3, r63, M.r4, M.r5, M.r6, M.r7, M.r8, M.r9, r11]
  have g1 := O.os.1
  have ody := O.ody
  have ofr := O.ofr
  have nb := O.nb
  have n4 := M.n4
  have n5 := M.n5
  have n6 := M.n6
  refine cndI (fun hc => ?_) fun hc => ?_
  · obtain ⟨hk2, h40⟩ := hc
    refine load_part (c := w.cells) M.c4 (by simp [Wel.cells]) rfl rfl (load_part (c := p.cells) M.c5 (by simp [Pas.cells]) rfl rfl (load_part (c := s.cells) M.c6 (by simp [SkyR.cells]) rfl rfl (addI (by omega) ?_)))
    refine good65 hJ O.ow O.op O.os (by omega) (by omega) fun H1 S1 => ext0 (ext1 (notI (cnd_false.2 (eqlI (neqB17 (hold.2 ?_))))))
    have key : (!((stayB p s (n + (k : Nat)) (fr : Nat) (dy : Nat) && watB w (n + (k : Nat)) fr dy) == decide ((k : Int) = 0))) = false := by
      by_cases k0 : k = 0
      · subst k0
        have := bears_fed (n := n + (0 : Nat)) O.ow O.op O.oe (by have := O.on; simp; omega)
        rw [Int.toNat_natCast, Int.toNat_natCast] at this
        rw [this.1, this.2]
        rfl
      · have k1 : k = 1 := by omega
        subst k1
        have := bears_more_not (n := n + (1 : Nat)) O.ow O.op O.oe (by have := O.on; omega) (by omega)
        rw [Int.toNat_natCast, Int.toNat_natCast] at this
        rw [this]
        rfl
    rw [s17_4]
    show cnd (.bool _) _ _
    rw [key]
    refine cnd_false.2 ?_
    show aBin prog .add 3 (F.r 11) (vint 1) _
    rw [r11]
    refine addI (by omega) (hnx _ H1 hk2 S1 ⟨M.ds, M.hx.same S1 (by simp), M.r3, M.r4, M.r5, M.r6, M.r7, M.r8, M.r9, M.n4, M.n5, M.n6, S1.get M.c4 (by simp), S1.get M.c5 (by simp), S1.get M.c6 (by simp)⟩ (by show vint _ = vint _; congr 1))
  · have l4 := lt_of_get M.c4
    have l5 := lt_of_get M.c5
    have l6 := lt_of_get M.c6
    refine ⟨[p4, p5], load_part (c := w.cells) M.c4 (by simp [Wel.cells]) rfl rfl ⟨by simp [RdOk, ptr, ptrBlk], load_part (c := p.cells) M.c5 (by simp [Pas.cells]) rfl rfl ⟨by simp [RdOk, ptr, ptrBlk], ?_, ?_⟩⟩⟩
    · refine qAl fun H1 p14 e1 S1 c1 q1 => ⟨sbTwo S1 l4 l5 (by simp) (by simp), qAl fun H2 p15 e2 S2 c2 q2 => ⟨sbTwo (S1.trans S2) l4 l5 (by simp) (by simp), ?_⟩⟩
      refine qStA (c := w.cells) (S2.get c1 (by simp)) rfl rfl rfl fun H3 S3 c3 q3 => ⟨sbTwo ((S1.trans S2).weak0.trans S3) l4 l5 (by simp; omega) (by simp; omega), ?_⟩
      refine qStA (c := p.cells) (S3.get c2 (by simp; omega)) rfl rfl rfl fun H4 S4 c4 q4 => hold.2 ?_
      have T : SameX [] H H4 := ((S1.trans S2).thru S3 (by simp; omega)).thru S4 (by simp; omega)
      exact rest17 (p14 := p14) (p15 := p15) ⟨M.ds, M.hx.same T (by simp), M.r3, M.r4, M.r5, M.r6, M.r7, M.r8, M.r9, M.n4, M.n5, M.n6, T.get M.c4 (by simp), T.get M.c5 (by simp), T.get M.c6 (by simp)⟩ O rfl rfl (S4.get c3 (by simp; omega)) c4 (by omega) (by omega) (by omega) (by omega) (by omega) (by omega) (by omega) (by omega) (by omega) hK
    · refine qAl fun H1 p15 e1 S1 c1 q1 => ⟨sbTwo S1 l4 l5 (by simp) (by simp), qAl fun H2 p14 e2 S2 c2 q2 => ⟨sbTwo (S1.trans S2) l4 l5 (by simp) (by simp), ?_⟩⟩
      refine qStA (c := w.cells) c2 rfl rfl rfl fun H3 S3 c3 q3 => ⟨sbTwo ((S1.trans S2).weak0.trans S3) l4 l5 (by simp; omega) (by simp; omega), ?_⟩
      refine qStA (c := p.cells) (S3.get (S2.get c1 (by simp)) (by simp; omega)) rfl rfl rfl fun H4 S4 c4 q4 => hold.2 ?_
      have T : SameX [] H H4 := ((S1.trans S2).thru S3 (by simp; omega)).thru S4 (by simp; omega)
      exact rest17 (p14 := p14) (p15 := p15) ⟨M.ds, M.hx.same T (by simp), M.r3, M.r4, M.r5, M.r6, M.r7, M.r8, M.r9, M.n4, M.n5, M.n6, T.get M.c4 (by simp), T.get M.c5 (by simp), T.get M.c6 (by simp)⟩ O rfl rfl (S4.get c3 (by simp; omega)) c4 (by omega) (by omega) (by omega) (by omega) (by omega) (by omega) (by omega) (by omega) (by omega) hK
theorem walk17 {nv : Value} {ns : List Int} (sn : Sli h nv 1 ns.length (ns.map vint)) (hln : ns.length < 4611686018427387904) (hK : ∀ h', K (.bool true) h') :
    W prog (J1 prog W0 Post) 128 h.length 17 (codeOf f17) (RG.mk (regs [nv]) []) h (RetQ prog [.tmp 2] h.length K) := by
  have hJ := J1.closed prog W0 Post
  rw [e17]
  refine newX hJ sn hln fun H4 a4 => ?_
  refine good30 hJ a4 (by omega) (by omega) fun w H5 ok5 S5 a5 => ?_
  refine good31 hJ a5 (by omega) fun p H6 ok6 b6 S6 a6 => ?_
  refine good32 hJ a6 (by omega) (by omega) fun s H7 ok7 d7 S7 a7 => ?_
  have lt7 := hxLt a7
  refine qAl fun H8 p14 e8 S8 c8 l8 => qAl fun H9 p15 e9 S9 c9 l9 => qAl fun H10 p16 e10 S10 c10 l10 => ?_
  refine qStA (c := w.cells) ((S9.trans S10).get c8 (by simp)) rfl rfl rfl fun H11 S11 c11 l11 => ?_
  refine qStA (c := p.cells) (S11.get (S10.get c9 (by simp)) (by simp; omega)) rfl rfl rfl fun H12 S12 c12 l12 => ?_
  refine qStA (c := s.cells) (S12.get (S11.get c10 (by simp; omega)) (by simp; omega)) rfl rfl rfl fun H13 S13 c13 l13 => ?_
  have a13 := (((((a7.same S8 (by simp)).same S9 (by simp)).same S10 (by simp)).same S11 (by simp; omega)).same S12 (by simp; omega)).same S13 (by simp; omega)
  obtain ⟨q1, q2, q3⟩ := id ok7
  refine offI (ldI (v := vint s.days) c13 rfl rfl (subI (by omega) ?_))
  refine upX hJ a13 (by omega) (by omega) fun fr H14 x1 x2 S14 l14 a14 => ?_
  have d16 := S14.get c13 (by simp; omega)
  refine offI (ldI (v := vint s.days) d16 rfl rfl (subI (by omega) ?_))
  refine amX hJ a14 (by omega) (by omega) (by omega) fun dy H15 y1 y2 S15 l15 a15 => ?_
  have d14 := S15.get (S14.get (S13.get (S12.get c11 (by simp; omega)) (by simp; omega)) (by simp; omega)) (by simp; omega)
  have d15 := S15.get (S14.get (S13.get c12 (by simp; omega)) (by simp; omega)) (by simp; omega)
  have d16 := S15.get d16 (by simp; omega)
  refine load_part (c := w.cells) d14 (by simp [Wel.cells]) rfl rfl (load_part (c := p.cells) d15 (by simp [Pas.cells]) rfl rfl (load_part (c := s.cells) d16 (by simp [SkyR.cells]) rfl rfl ?_))
  refine good34 hJ fun H16 S16 => ext0 (ext1 ?_)
  obtain ⟨fr, rfl⟩ := Int.eq_ofNat_of_zero_le x1
  obtain ⟨dy, rfl⟩ := Int.eq_ofNat_of_zero_le (by omega : (0 : Int) ≤ dy)
  have hw : welE w = 0 := by
    have := ok5.holds
    have := ok5.now
    have := ok5.fill
    unfold welE
    rw [if_pos ⟨by omega, by omega, by omega⟩]
  have e0 : bearE w p s (fr : Nat) (dy : Nat) = 0 := bearE_parts hw ok6 ok7 (by omega) (by omega)
  have nb := bears_bd e0
  obtain ⟨n, hn⟩ : ∃ n, n = bearN w p s (fr : Nat) (dy : Nat) := ⟨_, rfl⟩
  rw [e0, ← hn]
  rw [← hn] at nb
  refine neqI (cndI (fun hx => absurd rfl hx) fun _ => lssI (cndI (fun hx => absurd hx (by omega)) fun _ => gtrI (hold.2 ?_)))
  rw [s17_1]
  show cnd (.bool (decide (n > 40))) _ _
  refine cndI (fun hx => absurd hx (by omega)) fun _ => ?_
  have O : Ok17 w p s fr dy n := ⟨hw, ok6, ok7, by omega, by omega, e0, hn, by omega⟩
  refine l17_2 hJ (fun k : Nat => 2 - k) (fun k F H => k ≤ 2 ∧ SameX [] H16 H ∧ M17 h ns H F w p s fr dy n p14 p15 p16 ∧ F.r 11 = vint (k : Nat)) ?_ (s := 0)
    (.inl ⟨by omega, SameX.refl, ⟨rfl, (a15.same S16 (by simp)).mono (by omega), rfl, rfl, rfl, rfl, rfl, rfl, rfl, by omega, by omega, by omega, S16.get d14 (by simp), S16.get d15 (by simp), S16.get d16 (by simp)⟩, rfl⟩)
  rintro k F H ⟨hk, S, M, r11⟩ okc hnc
  rw [s17_2, r11, M.r9]
  refine lssI (cndI (fun hlt => addI (by omega) (leqI (hold.2 ?_))) fun hge => hold.2 ?_)
  · refine bodyOf17 (k := k) ⟨M.ds, M.hx, M.r3, M.r4, M.r5, M.r6, M.r7, M.r8, M.r9, M.n4, M.n5, M.n6, M.c4, M.c5, M.c6⟩ O r11 hk ?_ hK fun F' H' hk2 S' M' r => ⟨k + 1, by dsimp only; omega, .inl ⟨by omega, S.trans S', M', r⟩⟩
    show Value.bool _ = Value.bool _
    congr 1
    rw [decide_eq_decide]
    exact ⟨fun hx => ⟨by omega, hx⟩, fun hx => hx.2⟩
  · refine bodyOf17 (k := k) ⟨M.ds, M.hx, M.r3, M.r4, M.r5, M.r6, M.r7, M.r8, M.r9, M.n4, M.n5, M.n6, M.c4, M.c5, M.c6⟩ O r11 hk ?_ hK fun F' H' hk2 S' M' r => ⟨k + 1, by dsimp only; omega, .inl ⟨by omega, S.trans S', M', r⟩⟩
    show Value.bool false = Value.bool _
    congr 1
    rw [eq_comm, decide_eq_false_iff_not]
    omega
end
end Go.Proofs.Ytindillghipjjaa
namespace Go.Proofs.Ytindillghipjjaa
open Go.Conc
section
variable {P : Program} {W0 : World} {Post : Value → World → Prop} {ρ : Env} {h : List AObj} {FC : Frm} {w : World} {ft : Foot} {f : RG} {a : Act} {b : FB} {K : Value → List AObj → Prop} {n0 : Nat}
theorem leave_top {fn : Func} (hk : b.kind = .normal) (hf : P.funcs[b.fn]? = some fn) (hin : P.inits.idxOf? b.fn = none)
    (hc : ∀ v h' ρ' w' ft' cv, K v h' → HRel ρ' h' FC w' ft' → Env.upto n0 ρ ρ' → n0 ≤ h'.length → VRel h'.length ρ' v cv → Base W0 w' → Post cv w') :
    ∀ (ds : List Nat) (h : List AObj) (w : World) (ft : Foot) (a : Act) (fr : Frame), fr.fn = b.fn → fr.kind = .normal → fr.mode = .returning → fr.tmps = a.tmps → fr.defers = ds.map (fun d => { target := .collected (ρ.blk d), args := #[] }) → RegRel h.length ρ f.r a.tmps → HRel ρ h FC w ft → n0 ≤ h.length →
      takeW ds h (fun h => resW P fn.results.toList f.r h fun vs => K (pack vs) h ∨ ∃ σ h' v, GC n0 σ h h' ∧ pack vs = sub σ v ∧ VOk h'.length v ∧ K v h') → J1 P W0 Post (G fr []) w ft
  | [], h, w, ft, a, fr, e1, e2, e3, e4, e5, hr, H, hn, hq => by
    obtain ⟨fn', tmps, todo, defers, mode, kind, ro⟩ := fr
    simp only at e1 e2 e3 e4 e5
    subst e1 e2 e3 e4 e5
    refine J1.both rfl fun w₁ h₁ hbase => .inr ?_
    have H₁ := H.rely h₁
    have hrun : RunsTo P (EvOk ft) (results fn a.tmps) w₁ fun cv w' => w' = w₁ ∧ ∃ vs, cv = ren ρ (pack vs) ∧ (∀ v ∈ vs, VOk h.length v) ∧ (K (pack vs) h ∨ ∃ σ h' v, GC n0 σ h h' ∧ pack vs = sub σ v ∧ VOk h'.length v ∧ K v h') := by
      unfold results
      have : (fn.results.mapM (resF a.tmps)) = List.toArray <$> fn.results.toList.mapM (resF a.tmps) := by
        rw [Array.mapM_eq_mapM_toList]
      show RunsTo P (EvOk ft) (do
        let vs ← fn.results.mapM (resF a.tmps)
        pure (if h : vs.size = 1 then vs[0] else .tuple vs)) w₁ _
      rw [this]
      refine RunsTo.bind (RunsTo.map (res_run (n := 0) H₁ hr fn.results.toList hq fun vs hvs hok => RunsTo.pure ⟨rfl, vs, ?_, hok, hvs⟩))
      exact pack_ren vs
    obtain ⟨cv, w', es, hr', he, rfl, vs, rfl, hvok, hvs⟩ := hrun #[] (by simp)
    have hes : ∀ e ∈ seen P b.fn es, EvOk ft e := fun e hm => he e (mem_seen hm)
    refine ⟨ren ρ (pack vs), seen P b.fn es, ?_, hes, ?_⟩
    · simp only [G, stepG, unwind, List.map_nil, hf, hr']
      simp [doReturn, GStep.after, hin]
    · rcases hvs with hK | ⟨σ, h', v, g, hp, hok, hK⟩
      · exact hc _ h _ w' ft _ hK H₁ (Env.upto_refl _ _) hn (.inr ⟨pack_ok hvok, rfl⟩) hbase
      · rw [hp, ren_sub]
        exact hc v h' _ w' ft _ hK (g.rel H₁) g.upto g.le (.inr ⟨hok, rfl⟩) hbase
  | d :: ds, h, w, ft, a, fr, e1, e2, e3, e4, e5, hr, H, hn, hq => by
    obtain ⟨fn', tmps, todo, defers, mode, kind, ro⟩ := fr
    simp only at e1 e2 e3 e4 e5
    subst e1 e2 e3 e4 e5
    obtain ⟨hd, hq⟩ := hq
    refine (J1.closed P W0 Post).step rfl fun w₁ h₁ => ?_
    have H₁ := H.rely h₁
    obtain ⟨cv, w', es, hr', he, rfl, H', hst, hsz⟩ := take_run (P := P) H₁ hd (Q := fun l w' => l = [] ∧ HRel ρ (h.set d .dead) FC w' ft ∧ Stays ft w₁ w' ∧ w'.heap.size = w₁.heap.size) (fun w' a1 a2 a3 => ⟨rfl, a1, a2, a3⟩) #[] (by simp)
    have hes : ∀ e ∈ seen P b.fn es, EvOk ft e := fun e hm => he e (mem_seen hm)
    refine ⟨G { fn := b.fn, tmps := a.tmps, todo := todo, defers := ds.map (fun d => { target := .collected (ρ.blk d), args := #[] }), mode := .returning, kind := .normal, roundOf := ro } [], w', seen P b.fn es, ?_, rfl, hst.guar hes, ?_⟩
    · simp only [G, stepG, unwind, List.map_cons, hr']
      simp [GStep.after]
    · rw [hsz, Foot.ext_self]
      exact leave_top hk hf hin hc ds _ w' ft a _ rfl rfl rfl rfl rfl (by rw [List.length_set]; exact hr) H' (by rw [List.length_set]; exact hn) hq
theorem top_of_W (hm : P.follows .mixedOrders = true) {g : FuncId} {fn : Func} (hf : P.funcs[g]? = some fn) {c : Code} (hb : fn.body = some c) (hin : P.inits.idxOf? g = none) {args : List Value} {cargs : Array Value} (ha : args.length ≤ fn.ntmps) (hl : cargs.size = args.length)
    (hr : ∀ i : Nat, VRel h.length ρ (args.getD i unk) (cargs.toList.getD i undef)) (H : HRel ρ h FC w ft)
    (hs : W P (J1 P W0 Post) fn.ntmps h.length g c ⟨regs args, []⟩ h (RetQ P fn.results.toList h.length K))
    (hc : ∀ v h' ρ' w' ft' cv, K v h' → HRel ρ' h' FC w' ft' → Env.upto h.length ρ ρ' → h.length ≤ h'.length → VRel h'.length ρ' v cv → Base W0 w' → Post cv w') : J1 P W0 Post (G (Frame.enter P g cargs .normal) []) w ft := by
  have hJ := J1.closed P W0 Post
  obtain ⟨cargs⟩ := cargs
  simp only at hl hr
  have he : Frame.enter P g ⟨cargs⟩ .normal = FB.at ⟨g, .normal, none⟩ ⟨⟨cargs⟩ ++ Array.replicate (fn.ntmps - cargs.length) undef, []⟩ [.code c] := by
    simp [Frame.enter, FB.at, hf, hb]
  rw [he]
  have A : ActRel h.length ρ fn.ntmps ⟨regs args, []⟩ ⟨⟨cargs⟩ ++ Array.replicate (fn.ntmps - cargs.length) undef, []⟩ := by
    refine ⟨fun t => ?_, by simp at hl ⊢; omega, rfl, by simp⟩
    have := hr t
    have ht : ((⟨cargs⟩ : Array Value) ++ Array.replicate (fn.ntmps - cargs.length) undef).getD t undef = cargs.getD t undef := by
      rw [Array.getD_eq_getD_getElem?, List.getD_eq_getElem?_getD]
      by_cases hx : t < cargs.length
      · rw [Array.getElem?_append_left (by simpa using hx)]
        simp
      · rw [Array.getElem?_append_right (by simp; omega), List.getElem?_eq_none (by omega)]
        simp only [Array.getElem?_replicate]
        split <;> rfl
    rw [ht]
    exact this
  have last : ∀ f' h' ρ' w' ft' a' todo, RetQ P fn.results.toList h.length K .ret f' h' → ActRel h'.length ρ' fn.ntmps f' a' → HRel ρ' h' FC w' ft' → Env.upto h.length ρ ρ' → h.length ≤ h'.length →
      J1 P W0 Post (G { (FB.at ⟨g, .normal, none⟩ a' todo) with mode := .returning } []) w' ft' := by
    intro f' h' ρ' w' ft' a' todo q A' H' hu hl
    exact leave_top (b := ⟨g, .normal, none⟩) (f := f') (n0 := h.length) (ρ := ρ') rfl hf hin (fun v h2 ρ2 w2 ft2 cv k H2 u2 l2 v2 => hc v h2 ρ2 w2 ft2 cv k H2 (Env.upto_trans hu u2) l2 v2) f'.ds h' w' ft' a' _ rfl rfl rfl rfl A'.defers A'.regs H' hl q
  refine W_sound hJ hm c hs ⟨g, .normal, none⟩ _ [] [] (fun jump a w ft => jump = some .ret ∧ ∀ todo, J1 P W0 Post (G { (FB.at ⟨g, .normal, none⟩ a todo) with mode := .returning } []) w ft) ρ FC w ft rfl (by simp) ?_ A H (Nat.le_refl _) ?_
  · rintro jump a w ft todo ⟨rfl, hj⟩ hh
    rcases hh with ⟨_, k, rfl⟩ | ⟨id, k, e, _⟩ | ⟨e, _⟩
    · exact hJ.ctrl rfl rfl (fun w => by simp [G, stepG, stepG.exec, FB.at]) (hj (.code .ret :: k))
    · cases e
    · cases e
  · intro e f' h' ρ' w' ft' a' q A' H' hu hl
    cases e with
    | normal => exact hJ.ctrl rfl rfl (fun w => by simp [G, stepG, stepG.exec, FB.at]) (last f' h' ρ' w' ft' a' [] q A' H' hu hl)
    | ret => exact ⟨rfl, fun todo => last f' h' ρ' w' ft' a' todo q A' H' hu hl⟩
    | exit id => exact q.elim
    | goto l => exact q.elim
    | panic l => exact q.elim
    | outgrown => exact q.elim
theorem run_of_J1 {g : Goroutine} {w : World} {ft : Foot} (h : J1 P W0 Post g w ft) (hb : ∀ b, ft.rd b → b < w.heap.size) (hs : ∀ b, ft.wr b → ft.rd b) (hw : W0 = w) : Ends P Post (solo g w) #[] := by
  rw [solo_eq_crowd]
  exact h #[g] w none #[] (fun _ => 0) hb hs (RelyW.refl _ _) (by subst hw; exact ⟨rfl, rfl, rfl, Nat.le_refl _⟩) rfl (leavers_one P g) (past_nil.mono (Nat.zero_le _))
end
end Go.Proofs.Ytindillghipjjaa
namespace Go.Proofs.Ytindillghipjjaa
open Go.Conc Go.RowKit
def idEnv : Env := ⟨fun b => b, fun _ => 0⟩
def startFt (w : World) : Foot := ⟨fun b => b < w.heap.size, fun _ => False⟩
def startFC (w : World) : Frm := ⟨fun b => w.heap[b]?, fun _ => False⟩
def Fine (n : Nat) (v : Value) : Prop := VOk n v ∧ one v = true ∧ ren idEnv v = v
open Classical in
noncomputable def clean (n : Nat) (v : Value) : Value := if Fine n v then v else unk
noncomputable def absO (n : Nat) : Obj → AObj
  | .cells c _ _ => .cells (c.toList.map (clean n)) false 0
  | _ => .dead
noncomputable def absH (w : World) : List AObj := w.heap.toList.map (absO w.heap.size)
section
variable {w w' : World} {n : Nat}
theorem clean_fine {v : Value} (h : Fine n v) : clean n v = v := by simp [clean, h]
theorem absH_len : (absH w).length = w.heap.size := by simp [absH]
theorem absH_get {b : Nat} : (absH w)[b]? = (w.heap[b]?).map (absO w.heap.size) := by simp [absH]
theorem absO_wrt (x : Obj) : (absO n x).wrt = false := by cases x <;> rfl
theorem start_rel (w : World) : HRel idEnv (absH w) (startFC w) w (startFt w) where
  obj := fun b o hb => by
    rw [absH_get] at hb
    obtain ⟨x, hx, rfl⟩ := Option.map_eq_some_iff.1 hb
    show ORel (absH w).length idEnv b (absO w.heap.size x) w.heap[b]?
    rw [absH_len, hx]
    cases x with
    | cells c ty fr =>
      refine ⟨fun i v hv => ?_, fun _ => by simp, fun hz => absurd rfl hz, fun e => by cases e⟩
      rw [List.getElem?_map] at hv
      obtain ⟨u, hu, rfl⟩ := Option.map_eq_some_iff.1 hv
      by_cases hf : Fine w.heap.size u
      · rw [clean_fine hf]
        exact .inr ⟨hf.1, hf.2.1, by rw [hf.2.2]; simpa using hu⟩
      · exact .inl ⟨by simp [clean, hf], rfl⟩
    | _ => trivial
  inj := fun b b' o o' _ _ _ _ e => e
  rd := fun b o hb _ => by
    have : b < (absH w).length := (List.getElem?_eq_some_iff.1 hb).1
    rw [absH_len] at this
    exact this
  wr := fun b o hb hw => by
    rw [absH_get] at hb
    obtain ⟨x, hx, rfl⟩ := Option.map_eq_some_iff.1 hb
    rw [absO_wrt] at hw
    cases hw
  lt := fun b hb => hb
  sub := fun b hb => hb.elim
  kept := fun b o hb => by
    refine ⟨hb, ?_, fun a oa ha hw => ?_⟩
    · exact (Array.getElem?_eq_some_iff.1 hb).1
    · rw [absH_get] at ha
      obtain ⟨x, hx, rfl⟩ := Option.map_eq_some_iff.1 ha
      rw [absO_wrt] at hw
      cases hw
  keptW := fun b hb => hb.elim
theorem absH_cell {b o : Nat} {v : Value} (hc : w.cell? ⟨b, o, none⟩ = some v) (hf : Fine w.heap.size v) : ∃ c, (absH w)[b]? = some (.cells c false 0) ∧ c[o]? = some v := by
  unfold World.cell? at hc
  simp only at hc
  split at hc
  · rename_i c ty fr hx
    refine ⟨c.toList.map (clean w.heap.size), by rw [absH_get, hx]; rfl, ?_⟩
    have hc' : c[o]? = some v := by simpa using hc
    rw [List.getElem?_map, Array.getElem?_toList, hc']
    simp [clean_fine hf]
  · cases hc
theorem below_of {ρ' : Env} {h' : List AObj} {ft' : Foot} (H : HRel ρ' h' (startFC w) w' ft') (B : Base w w') : Below w.heap.size w w' :=
  ⟨B.os, B.tape, B.output, B.size, fun k hk => by
    have : (startFC w).ob k = some w.heap[k] := by simp [startFC, hk]
    rw [(H.kept k _ this).1, Array.getElem?_eq_getElem hk]⟩
end
end Go.Proofs.Ytindillghipjjaa
namespace Go.Proofs.Ytindillghipjjaa
open Go.Conc Go.ChangeShapes Go.WideShapes Go.ChangeAt Go.RowKit Go.Proofs.Try
set_option maxRecDepth 100000
theorem own : ownKnob prog.godebug = none := by kernel_rfl
theorem laidOut : laidOutB prog = true := by kernel_rfl
def ArgOk (W : World) (v : Value) : Prop := VOk W.heap.size v ∧ ren idEnv v = v
theorem law_run1 {g : FuncId} {fn : Func} {c : Code} (hf : prog.funcs[g]? = some fn) (hb : fn.body = some c) (hin : prog.inits.idxOf? g = none) (W₀ : World) (args : List Value) (ha : args.length ≤ fn.ntmps) (hok : ∀ v ∈ args, ArgOk W₀ v)
    (walk : ∀ Post, W prog (J1 prog W₀ Post) fn.ntmps (absH W₀).length g c ⟨regs args, []⟩ (absH W₀) (RetQ prog fn.results.toList (absH W₀).length fun v _ => v = .bool true)) :
    Ends prog (fun v w' => v = .bool true ∧ Below W₀.heap.size W₀ w') (solo (G (Frame.enter prog g ⟨args⟩ .normal) []) W₀) #[] := by
  refine run_of_J1 (W0 := W₀) (ft := startFt W₀) (top_of_W mixed hf hb hin ha rfl (fun i => ?_) (start_rel W₀) (walk _) ?_) (fun b hb => hb) (fun b hb => hb.elim) rfl
  · show VRel (absH W₀).length idEnv (args.getD i unk) (args.getD i undef)
    simp only [List.getD_eq_getElem?_getD]
    cases hi : args[i]? with
    | none => exact .inl rfl
    | some v =>
      obtain ⟨h1, h2⟩ := hok v (List.mem_of_getElem? hi)
      exact .inr ⟨by rw [absH_len]; exact h1, h2.symm⟩
  · intro v h' ρ' w' ft' cv hv H' _ _ hcv hB
    subst hv
    refine ⟨?_, below_of H' hB⟩
    rcases hcv with e | ⟨_, e⟩
    · cases e
    · rw [e]
      rfl
section
variable {H : Type} {enc : TypeId × Value → H}
theorem arg_ints {t e : TypeId} (ht : prog.underlying t = some (.slice e)) (he : prog.underlying e = some (.int .i64)) (hc : prog.cellsOf e = 1) {W : World} {base : Nat} {v : Value} {d : DataW H} {ps : List MemPlace}
    (hval : Value.okWide prog W .any base t v) (hd : DataW.Trod enc prog W 0 (fun _ => true) true t v d ps) :
    ∃ zs : List Int, Sli (absH W) v 1 zs.length (zs.map vint) ∧ ArgOk W v ∧ (zs = [] ∨ ∃ es sp, d = .slice es sp ∧ zs.length ≤ es.length + sp.length) := by
  obtain ⟨a0, len, cap, rfl⟩ := okWide_slice ht hval
  obtain ⟨fuel, hf⟩ := hd
  rcases open_ints ht he hc hf with ⟨hcs, hx⟩ | ⟨a, len', cap', zs, hcs, _, hl, hm, hz, hx, hcell, hwz⟩
  · simp [Value.cells] at hcs
    obtain ⟨rfl, rfl, rfl⟩ := hcs
    exact ⟨[], sli_nil, ⟨by simp [VOk], by simp [ren]⟩, .inl rfl⟩
  · simp [Value.cells] at hcs
    obtain ⟨rfl, rfl, rfl⟩ := hcs
    simp only [Prod.mk.injEq] at hx
    obtain ⟨rfl, rfl⟩ := hx
    simp only [if_true] at hz
    simp only [Value.okWide, ht, Cell.okWide, Cell.ok, World.has] at hval
    obtain ⟨_, _, _, hspot, row, cells, hshape, _⟩ := hval
    obtain ⟨b, o, spot⟩ := a
    simp only at hspot hshape
    subst hspot
    have hb : b < W.heap.size := by
      unfold World.shape? at hshape
      split at hshape
      · rename_i h
        exact (Array.getElem?_eq_some_iff.1 h).1
      · cases hshape
    have hlen : (zs.take len).length = len := by simp; omega
    have hcell' : ∀ i, i < zs.length → W.cell? ⟨b, o + i, none⟩ = some (vint (zs.getD i 0)) := by
      intro i hi
      have := hcell i hi
      unfold Addr.add at this
      by_cases h0 : i = 0
      · subst h0; simpa using this
      · simpa [h0] using this
    have hmax : cap < fz := by
      simp only [maxLen] at hm
      unfold fz
      omega
    refine ⟨zs.take len, ?_, ⟨by simp only [VOk, AddrOk]; exact ⟨hb, trivial⟩, ?_⟩, .inr ⟨_, _, rfl, ?_⟩⟩
    · refine ⟨some ⟨b, o, none⟩, cap, by rw [hlen], ⟨by simp, kn_ints _⟩, .inr ⟨b, o, rfl, ?_⟩⟩
      rw [hlen]
      by_cases h0 : len = 0
      · exact .inl h0
      · right
        have fine : ∀ n : Int, Fine W.heap.size (vint n) := fun n => ⟨by simp [VOk], rfl, by simp [ren]⟩
        obtain ⟨c, hc1, hc2⟩ := absH_cell (hcell' 0 (by omega)) (fine _)
        refine ⟨c, false, 0, hc1, ?_⟩
        apply List.ext_getElem?
        intro i
        rw [Nat.mul_one]
        by_cases hi : i < len
        · obtain ⟨c', hc1', hc2'⟩ := absH_cell (hcell' i (by omega)) (fine _)
          rw [hc1] at hc1'
          cases hc1'
          rw [List.getElem?_take, if_pos hi, List.getElem?_drop, hc2']
          have hzi : i < zs.length := by omega
          simp [hi, hzi]
        · rw [List.getElem?_take, if_neg hi, List.getElem?_eq_none (by simp; omega)]
    · have hnf : ¬ fz ≤ cap := by omega
      simp [ren, renAddr, renCap, idEnv, hnf]
    · simp only [lits, List.length_map, List.length_take, List.length_drop]
      omega
end
theorem trodAll_cons {H : Type} {enc : TypeId × Value → H} {P : Program} {w : World} {base : Nat} {spare : Nat → Bool} {held : Bool} {t : TypeId} {ts : List TypeId} {vs : List Value} {ds : List (DataW H)} {ps : List MemPlace}
    (h : DataW.TrodAll enc P w base spare held (t :: ts) vs ds ps) : ∃ v vs' d ds' p q, vs = v :: vs' ∧ ds = d :: ds' ∧ ps = p ++ q ∧ DataW.Trod enc P w base spare held t v d p ∧ DataW.TrodAll enc P w base spare held ts vs' ds' q := by
  match vs, ds, h with
  | v :: vs, d :: ds, ⟨p, q, h1, h2, h3⟩ => exact ⟨v, vs, d, ds, p, q, rfl, rfl, h3, h1, h2⟩
theorem trodAll_nil {H : Type} {enc : TypeId × Value → H} {P : Program} {w : World} {base : Nat} {spare : Nat → Bool} {held : Bool} {vs : List Value} {ds : List (DataW H)} {ps : List MemPlace}
    (h : DataW.TrodAll enc P w base spare held [] vs ds ps) : vs = [] ∧ ds = [] ∧ ps = [] := by
  match vs, ds, h with
  | [], [], h => exact ⟨rfl, rfl, h⟩
theorem trodAll_mkc {H : Type} {enc : TypeId × Value → H} {P : Program} {w : World} {base : Nat} {spare : Nat → Bool} {held : Bool} {t : TypeId} {ts : List TypeId} {v : Value} {vs : List Value} {d : DataW H} {ds : List (DataW H)} {p q : List MemPlace}
    (h1 : DataW.Trod enc P w base spare held t v d p) (h2 : DataW.TrodAll enc P w base spare held ts vs ds q) : DataW.TrodAll enc P w base spare held (t :: ts) (v :: vs) (d :: ds) (p ++ q) := ⟨p, q, h1, h2, rfl⟩
instance : Inhabited Dro := ⟨⟨0, 0⟩⟩
theorem lifted17 (os : Os) (started : os.Started) (H : Type) (enc : TypeId × Value → H) :
    ReturnsInLeavingWide {} checked os 17 .any (Rows.wellBorneSpec.pre6 enc prog f17 Rows.wellBorneRow.domain false) (Rows.wellBorneSpec.post enc prog f17 false true false false) := by
  refine returnsInLeavingWide_of_change_sized (C := checked) own started at17
    (ChangeSpec.witness6 (enc := enc) (C := checked) false ⟨#[], #[.slice none 0 0], []⟩ 8 (by kernel_rfl) (by kernel_rfl) (by kernel_rfl) (by kernel_rfl)) ?_
  intro W base args ds gs before hval0 hW _ hsz0 _
  have hsz : (DataW.weightsEach prog (f17.params.toList ++ Rows.wellBorneSpec.plain.varTypes prog) (ds ++ gs)).all (· ≤ reachBytes) = true := hsz0
  clear hsz0
  have hval : ∀ (j : Nat) t v, f17.params[j]? = some t → args[j]? = some v → Value.okWide prog W .any base t v := hval0
  have hW' := hW
  obtain ⟨p, q, hA0, hV, rfl, _, _⟩ := hW
  have hA : DataW.TrodAll enc prog W 0 (fun _ => true) true f17.params.toList args.toList ds p := hA0
  have hps : f17.params = #[27] := by kernel_rfl
  rw [hps] at hA hval hsz
  obtain ⟨args⟩ := args
  have r0 : DataW.TrodAll enc prog W 0 (fun _ => true) true [27] args ds p := hA
  obtain ⟨v0, vs0, d0, ds0, p0, q0, hv0, hd0, hp0, h0, r1⟩ := trodAll_cons r0
  obtain ⟨hvn, hdn, hpn⟩ := trodAll_nil r1
  subst hvn hdn hpn
  subst hv0 hd0 hp0
  obtain ⟨rfl, rfl⟩ := trodVars_none hV
  have u3 : prog.underlying 3 = some (.int .i64) := by kernel_rfl
  have u27 : prog.underlying 27 = some (.slice 3) := by kernel_rfl
  have u4 : prog.underlying 4 = some .bool := by kernel_rfl
  have c3 : prog.cellsOf 3 = 1 := by kernel_rfl
  have b3 : prog.bytesOf 3 = 8 := by kernel_rfl
  have hlt : ∀ x ∈ p0 ++ [], x.block < W.heap.size := fun x hx => by simpa using hW'.lt x (by simpa using hx)
  have hargs : ∀ (W' : World), Below W.heap.size W W' → DataW.TrodAll enc prog W' 0 (fun b => decide (b < W.heap.size)) true [27] [v0] [d0] (p0 ++ []) := fun W' hn =>
    trodAll_mkc (Below.trod laidOut (by kernel_rfl) (of_decide_eq_true (by kernel_rfl)) h0 hn fun x hx => hlt x (by simp [hx])) (rfl)
  obtain ⟨ns0, sn0, ok0, hbig0⟩ := arg_ints u27 u3 c3 (hval 0 27 v0 rfl rfl) h0
  have hln0 : ns0.length < 4611686018427387904 := by
    rcases hbig0 with rfl | ⟨es, sp, rfl, hle⟩
    · simp
    · have := sized_slice hsz (j := 0) (t := 27) (e := 3) rfl rfl u27
      rw [b3] at this
      simp only [reachBytes] at this
      omega
  obtain ⟨M, last, o, w', t', r1, r2, r3, r4⟩ := law_run1 (g := 17) (fn := f17) at17 body17 (by kernel_rfl) W [v0] (Nat.le_of_ble_eq_true (by kernel_rfl : Nat.ble 1 f17.ntmps = true))
    (by
      intro v hv
      simp only [List.mem_cons, List.not_mem_nil, or_false] at hv
      rcases hv with rfl
      · exact ok0)
    (fun Post => walk17 (K := fun v _ => v = .bool true) sn0 hln0 fun _ => rfl)
  refine ⟨M, last, o, w', t', r1, r2, r3, r4.mono fun v hF => ?_⟩
  obtain ⟨rfl, hbelow⟩ := hF
  refine ⟨_, _, _, [], _, [], hW', ?_, hargs _ hbelow, by rfl, hbelow.frame _, fun h => by cases h⟩
  exact trodAll_mk1 (shut_bool u4 true)
theorem wellBorne_holds : Rows.WellBorneSaid :=
  OpenClaim.holds_of_wide_leaving 17 f17 rfl rfl rfl rfl rfl rfl rfl ⟨rfl, rfl, rfl, rfl, rfl⟩ rfl rfl rfl rfl rfl (by kernel_rfl) at17 (by kernel_rfl)
    (of_decide_eq_true (by kernel_rfl)) (by unfold Func.isWrapper; first | (rw [if_pos (by decide +kernel)]; kernel_rfl) | (rw [if_neg (by decide +kernel)]; exact ⟨rfl, rfl⟩))
    (fun os started H enc _ => lifted17 os started H enc)
#print axioms wellBorne_holds
end Go.Proofs.Ytindillghipjjaa
