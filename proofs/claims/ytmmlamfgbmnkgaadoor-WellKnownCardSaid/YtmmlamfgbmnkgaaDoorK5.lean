/- Parts of the proof, 5. No conditions. -/
import Derived.Test.YtmmlamfgbmnkgaaDoorK2
import Derived.Test.YtmmlamfgbmnkgaaDoorK3
import Derived.Test.YtmmlamfgbmnkgaaDoorK4
namespace Go.Proofs.YtmmlamfgbmnkgaaDoor
open Go.Conc Go.Proofs.Tryd
set_option maxRecDepth 100000
set_option maxHeartbeats 4000000
set_option linter.unusedVariables false
section
variable {main : Bool} {J : JT} {n0 : Nat} {h : List AObj} {K : Value → List AObj → Prop}
theorem at3 : prog.funcs[3]? = some f3 := by kernel_rfl
theorem body3 : f3.body = some (codeOf f3) := by kernel_rfl
def pl3 : Plans := [(2, false, .take 0 (.take 1 (.take 2 (.take 3 (.take 4 (.take 5 (.last 6 true (.take 7 (.last 8 true (.take 9 (.take 10 (.last 11 true (.take 12 (.take 13 (.last 14 true (.take 15 (.take 16 (.last 17 false (.fin))))))))))))))))))),
 (14, false, .take 1 (.take 2 (.take 3 (.take 4 (.last 0 true (.last 5 false (.take 6 (.take 7 (.take 8 (.take 9 (.take 10 (.fin)))))))))))),
 (15, false, .take 1 (.take 2 (.take 3 (.take 4 (.last 0 true (.last 5 false (.take 6 (.take 7 (.take 8 (.take 9 (.take 10 (.fin))))))))))))]
def ct3 : Cuts := .bin (.go) (.bin (.go) (.bin (.go) (.bin (.bin (.go) (.cut (.go))) (.bin (.go) (.bin (.go) (.bin (.bin (.go) (.cut (.go))) (.bin (.go) (.bin (.go) (.bin (.bin (.go) (.un (.un (.bin (.go) (.bin (.un (.bin (.go) (.bin (.go) (.bin (.go) (.cut (.go)))))) (.go)))))) (.bin (.go) (.bin (.go) (.bin (.go) (.bin (.go) (.bin (.go) (.bin (.bin (.go) (.cut (.go))) (.bin (.go) (.bin (.go) (.cut (.bin (.go) (.bin (.go) (.bin (.go) (.cut (.bin (.go) (.bin (.go) (.cut (.go))))))))))))))))))))))))))
theorem pok3 : plansOk prog pl3 (codeOf f3) = true := by kernel_rfl
theorem e3 : W prog J 317 h.length 3 (codeOf f3) (RG.mk (regs []) []) h (RetQ prog [.tmp 0] h.length K) =
(Good prog J 4 [] h fun v1 h2 =>
Good prog J 4 [] h2 fun v3 h4 =>
Good prog J 4 [] h4 fun v5 h6 =>
Good prog J 4 [] h6 fun v7 h8 =>
Good prog J 4 [] h8 fun v9 h10 =>
aAlloc [(vint 0), (vint 0), (vint 0), (Value.slice none 0 0)] h10 fun v11 h12 =>
aAlloc [(vint 0), (vint 0), (vint 0), (Value.slice none 0 0)] h12 fun v13 h14 =>
aAlloc [(vint 0), (vint 0), (vint 0), (Value.slice none 0 0)] h14 fun v15 h16 =>
aAlloc [(vint 0), (vint 0), (vint 0), (Value.slice none 0 0)] h16 fun v17 h18 =>
aAlloc [(vint 0), (vint 0), (vint 0), (Value.slice none 0 0)] h18 fun v19 h20 =>
aStore 4 v11 v1 h20 fun h21 =>
aStore 4 v13 v3 h21 fun h22 =>
aStore 4 v15 v5 h22 fun h23 =>
aStore 4 v17 v7 h23 fun h24 =>
aStore 4 v19 v9 h24 fun h25 =>
(∃ B, aOff v15 3 fun v26 =>
aLoad false 1 v26 h25 fun v27 =>
RdOk (some B) (ptrBlk v26) ∧ (aOff v19 3 fun v28 =>
aLoad false 1 v28 h25 fun v29 =>
RdOk (some B) (ptrBlk v28) ∧ (aOff v11 0 fun v30 =>
aOff v30 0 fun v31 =>
aStore 1 v31 (vint 11) h25 fun h32 =>
SameB (some B) h25 h32 ∧ (aOff v13 3 fun v33 =>
aStore 1 v33 (Value.slice none 0 0) h32 fun h34 =>
SameB (some B) h25 h34 ∧ (aIdx 2 v27 (vint 1) fun v35 =>
aOff v35 0 fun v36 =>
aStore 1 v36 (vint 0) h34 fun h37 =>
SameB (some B) h25 h37 ∧ (aOff v17 0 fun v38 =>
aOff v38 2 fun v39 =>
aStore 1 v39 (vint 2) h37 fun h40 =>
SameB (some B) h25 h40 ∧ (aIdx 2 v29 (vint 1) fun v41 =>
aOff v41 0 fun v42 =>
aStore 1 v42 (vint 11) h40 fun h43 =>
Good prog J 5 [] h43 fun v44 h45 =>
aUn .not v44 fun v46 =>
cnd v46
(Hold (W prog J 317 h.length 3 (subC [1, 1, 1, 0, 1] (codeOf f3)) (RG.p (RG.p (RG.p (RG.p (RG.p (RG.p (RG.p (RG.p (RG.p (RG.p (RG.p (RG.p (RG.p (RG.p (RG.p (RG.p (RG.p (RG.p (RG.p (RG.p (RG.p (RG.p (RG.p (RG.p (RG.p (RG.p (RG.p (RG.p (RG.p (RG.p (RG.p (RG.p (RG.p (RG.p (RG.p (RG.p (RG.p (RG.p (RG.p (RG.p (RG.p (RG.p (RG.p (RG.p (RG.p (RG.p (RG.p (RG.p (RG.p (RG.p (RG.mk (regs []) []) 0 (Value.bool false)) 32 v1) 33 v3) 34 v5) 35 v7) 36 v9) 1 v11) 2 v13) 3 v15) 4 v17) 5 v19) 37 v26) 38 v27) 39 v28) 40 v29) 41 v30) 42 v31) 43 v33) 44 v35) 45 v36) 46 v38) 47 v39) 48 v41) 49 v42) 50 v44) 51 v46) 52 v46) 52 (Value.bool true)) 53 undef) 54 undef) 55 undef) 56 (Value.bool true)) 57 (Value.bool true)) 57 (Value.bool true)) 58 undef) 59 undef) 60 undef) 61 (Value.bool true)) 62 (Value.bool true)) 62 (Value.bool true)) 63 undef) 64 undef) 65 undef) 66 (Value.bool true)) 67 (Value.bool true)) 67 (Value.bool true)) 68 undef) 69 undef) 70 undef) 71 (Value.bool true)) h45 (contX pl3 prog J 317 h.length 3 ct3 [1, 1, 1, 0, 1] (codeOf f3) [] (RetQ prog [.tmp 0] h.length K))))
(Good prog J 4 [] h45 fun v47 h48 =>
Good prog J 6 [v47] h48 fun v49 h50 =>
aBin prog .neq 31 v49 (vint 0) fun v51 =>
cnd v51
(Hold (W prog J 317 h.length 3 (subC [1, 1, 1, 0, 1] (codeOf f3)) (RG.p (RG.p (RG.p (RG.p (RG.p (RG.p (RG.p (RG.p (RG.p (RG.p (RG.p (RG.p (RG.p (RG.p (RG.p (RG.p (RG.p (RG.p (RG.p (RG.p (RG.p (RG.p (RG.p (RG.p (RG.p (RG.p (RG.p (RG.p (RG.p (RG.p (RG.p (RG.p (RG.p (RG.p (RG.p (RG.p (RG.p (RG.p (RG.p (RG.p (RG.p (RG.p (RG.p (RG.p (RG.p (RG.p (RG.p (RG.p (RG.p (RG.p (RG.mk (regs []) []) 0 (Value.bool false)) 32 v1) 33 v3) 34 v5) 35 v7) 36 v9) 1 v11) 2 v13) 3 v15) 4 v17) 5 v19) 37 v26) 38 v27) 39 v28) 40 v29) 41 v30) 42 v31) 43 v33) 44 v35) 45 v36) 46 v38) 47 v39) 48 v41) 49 v42) 50 v44) 51 v46) 52 v46) 52 (Value.bool false)) 53 v47) 54 v49) 55 v51) 56 v51) 57 v51) 57 (Value.bool true)) 58 undef) 59 undef) 60 undef) 61 (Value.bool true)) 62 (Value.bool true)) 62 (Value.bool true)) 63 undef) 64 undef) 65 undef) 66 (Value.bool true)) 67 (Value.bool true)) 67 (Value.bool true)) 68 undef) 69 undef) 70 undef) 71 (Value.bool true)) h50 (contX pl3 prog J 317 h.length 3 ct3 [1, 1, 1, 0, 1] (codeOf f3) [] (RetQ prog [.tmp 0] h.length K))))
(aLoad true 4 v11 h50 fun v52 =>
Good prog J 6 [v52] h50 fun v53 h54 =>
aBin prog .neq 31 v53 (vint 1) fun v55 =>
cnd v55
(Hold (W prog J 317 h.length 3 (subC [1, 1, 1, 0, 1] (codeOf f3)) (RG.p (RG.p (RG.p (RG.p (RG.p (RG.p (RG.p (RG.p (RG.p (RG.p (RG.p (RG.p (RG.p (RG.p (RG.p (RG.p (RG.p (RG.p (RG.p (RG.p (RG.p (RG.p (RG.p (RG.p (RG.p (RG.p (RG.p (RG.p (RG.p (RG.p (RG.p (RG.p (RG.p (RG.p (RG.p (RG.p (RG.p (RG.p (RG.p (RG.p (RG.p (RG.p (RG.p (RG.p (RG.p (RG.p (RG.p (RG.p (RG.p (RG.p (RG.mk (regs []) []) 0 (Value.bool false)) 32 v1) 33 v3) 34 v5) 35 v7) 36 v9) 1 v11) 2 v13) 3 v15) 4 v17) 5 v19) 37 v26) 38 v27) 39 v28) 40 v29) 41 v30) 42 v31) 43 v33) 44 v35) 45 v36) 46 v38) 47 v39) 48 v41) 49 v42) 50 v44) 51 v46) 52 v46) 52 (Value.bool false)) 53 v47) 54 v49) 55 v51) 56 v51) 57 v51) 57 (Value.bool false)) 58 v52) 59 v53) 60 v55) 61 v55) 62 v55) 62 (Value.bool true)) 63 undef) 64 undef) 65 undef) 66 (Value.bool true)) 67 (Value.bool true)) 67 (Value.bool true)) 68 undef) 69 undef) 70 undef) 71 (Value.bool true)) h54 (contX pl3 prog J 317 h.length 3 ct3 [1, 1, 1, 0, 1] (codeOf f3) [] (RetQ prog [.tmp 0] h.length K))))
(aLoad true 4 v13 h54 fun v56 =>
Good prog J 6 [v56] h54 fun v57 h58 =>
aBin prog .neq 31 v57 (vint 7) fun v59 =>
cnd v59
(Hold (W prog J 317 h.length 3 (subC [1, 1, 1, 0, 1] (codeOf f3)) (RG.p (RG.p (RG.p (RG.p (RG.p (RG.p (RG.p (RG.p (RG.p (RG.p (RG.p (RG.p (RG.p (RG.p (RG.p (RG.p (RG.p (RG.p (RG.p (RG.p (RG.p (RG.p (RG.p (RG.p (RG.p (RG.p (RG.p (RG.p (RG.p (RG.p (RG.p (RG.p (RG.p (RG.p (RG.p (RG.p (RG.p (RG.p (RG.p (RG.p (RG.p (RG.p (RG.p (RG.p (RG.p (RG.p (RG.p (RG.p (RG.p (RG.p (RG.mk (regs []) []) 0 (Value.bool false)) 32 v1) 33 v3) 34 v5) 35 v7) 36 v9) 1 v11) 2 v13) 3 v15) 4 v17) 5 v19) 37 v26) 38 v27) 39 v28) 40 v29) 41 v30) 42 v31) 43 v33) 44 v35) 45 v36) 46 v38) 47 v39) 48 v41) 49 v42) 50 v44) 51 v46) 52 v46) 52 (Value.bool false)) 53 v47) 54 v49) 55 v51) 56 v51) 57 v51) 57 (Value.bool false)) 58 v52) 59 v53) 60 v55) 61 v55) 62 v55) 62 (Value.bool false)) 63 v56) 64 v57) 65 v59) 66 v59) 67 v59) 67 (Value.bool true)) 68 undef) 69 undef) 70 undef) 71 (Value.bool true)) h58 (contX pl3 prog J 317 h.length 3 ct3 [1, 1, 1, 0, 1] (codeOf f3) [] (RetQ prog [.tmp 0] h.length K))))
(aLoad true 4 v15 h58 fun v60 =>
Good prog J 6 [v60] h58 fun v61 h62 =>
aBin prog .neq 31 v61 (vint 1) fun v63 =>
Hold (W prog J 317 h.length 3 (subC [1, 1, 1, 0, 1] (codeOf f3)) (RG.p (RG.p (RG.p (RG.p (RG.p (RG.p (RG.p (RG.p (RG.p (RG.p (RG.p (RG.p (RG.p (RG.p (RG.p (RG.p (RG.p (RG.p (RG.p (RG.p (RG.p (RG.p (RG.p (RG.p (RG.p (RG.p (RG.p (RG.p (RG.p (RG.p (RG.p (RG.p (RG.p (RG.p (RG.p (RG.p (RG.p (RG.p (RG.p (RG.p (RG.p (RG.p (RG.p (RG.p (RG.p (RG.p (RG.p (RG.p (RG.p (RG.p (RG.mk (regs []) []) 0 (Value.bool false)) 32 v1) 33 v3) 34 v5) 35 v7) 36 v9) 1 v11) 2 v13) 3 v15) 4 v17) 5 v19) 37 v26) 38 v27) 39 v28) 40 v29) 41 v30) 42 v31) 43 v33) 44 v35) 45 v36) 46 v38) 47 v39) 48 v41) 49 v42) 50 v44) 51 v46) 52 v46) 52 (Value.bool false)) 53 v47) 54 v49) 55 v51) 56 v51) 57 v51) 57 (Value.bool false)) 58 v52) 59 v53) 60 v55) 61 v55) 62 v55) 62 (Value.bool false)) 63 v56) 64 v57) 65 v59) 66 v59) 67 v59) 67 (Value.bool false)) 68 v60) 69 v61) 70 v63) 71 v63) h62 (contX pl3 prog J 317 h.length 3 ct3 [1, 1, 1, 0, 1] (codeOf f3) [] (RetQ prog [.tmp 0] h.length K))))))))))))))) := top_eq pok3 ct3 (by kernel_rfl)
theorem g3 (hJ : Closed prog main J) (hs : heapOk h → W prog J 317 h.length 3 (codeOf f3) (RG.mk (regs []) []) h (RetQ prog [.tmp 0] h.length K)) : Good prog J 3 [] h K :=
 good_of_W hJ mixed at3 body3 (by kernel_rfl) (Nat.le_of_ble_eq_true rfl) hs
theorem s3_1 {f : RG} : W prog J 317 n0 3 (subC [1, 1, 1, 0, 1] (codeOf f3)) f h (contX pl3 prog J 317 n0 3 ct3 [1, 1, 1, 0, 1] (codeOf f3) [] (RetQ prog [.tmp 0] n0 K)) =
(cnd (f.r 71)
(retL n0 K f.ds [(Value.bool false)] h)
(Good prog J 4 [] h fun v1 h2 =>
(((2 * 1 : Nat) ≤ 16777216 ∧ (2 : Nat) ≤ 16777216 ∧ List.length [(vint 0)] = 1) ∧ aFill (zrep [(vint 0)] 2) [(0, 1, (vint 0)), (1, 1, (vint 1))] fun c3 =>
aNewS 2 c3 h2 fun v4 h5 =>
Good prog J 7 [v1, v4, (vint 4)] h5 fun v6 h7 =>
aExt v6 0 fun v8 =>
aExt v6 1 fun v9 =>
Good prog J 4 [] h7 fun v10 h11 =>
(((2 * 1 : Nat) ≤ 16777216 ∧ (2 : Nat) ≤ 16777216 ∧ List.length [(vint 0)] = 1) ∧ aFill (zrep [(vint 0)] 2) [(0, 1, (vint 0)), (1, 1, (vint 1))] fun c12 =>
aNewS 2 c12 h11 fun v13 h14 =>
Good prog J 8 [v10, v13, (vint 4)] h14 fun v15 h16 =>
aExt v15 0 fun v17 =>
aExt v15 1 fun v18 =>
aBin prog .neq 31 v9 (vint 0) fun v19 =>
cnd v19
(Hold (W prog J 317 n0 3 (subC [1, 1, 1, 1, 1, 1, 0, 1] (codeOf f3)) (RG.p (RG.p (RG.p (RG.p (RG.p (RG.p (RG.p (RG.p (RG.p (RG.p (RG.p (RG.p (RG.p (RG.p (RG.p (RG.p (RG.p (RG.p (RG.p (RG.p (RG.p (RG.p (RG.p (RG.p (RG.p (RG.p (RG.p (RG.p (RG.p (RG.p (RG.p (RG.p (RG.p (RG.p (RG.p (RG.p (RG.p f 73 v1) 74 v4) 75 v6) 72 v6) 76 v8) 77 v9) 6 v8) 7 v9) 79 v10) 80 v13) 81 v15) 78 v15) 82 v17) 83 v18) 8 v17) 9 v18) 84 v9) 85 v19) 86 v19) 86 (Value.bool true)) 87 undef) 88 undef) 89 (Value.bool true)) 90 (Value.bool true)) 90 (Value.bool true)) 91 undef) 92 undef) 93 undef) 94 undef) 95 (Value.bool true)) 96 (Value.bool true)) 96 (Value.bool true)) 97 undef) 98 undef) 99 undef) 100 undef) 101 (Value.bool true)) h16 (contX pl3 prog J 317 n0 3 ct3 [1, 1, 1, 1, 1, 1, 0, 1] (codeOf f3) [] (RetQ prog [.tmp 0] n0 K))))
(aBin prog .neq 31 v18 (vint 0) fun v20 =>
cnd v20
(Hold (W prog J 317 n0 3 (subC [1, 1, 1, 1, 1, 1, 0, 1] (codeOf f3)) (RG.p (RG.p (RG.p (RG.p (RG.p (RG.p (RG.p (RG.p (RG.p (RG.p (RG.p (RG.p (RG.p (RG.p (RG.p (RG.p (RG.p (RG.p (RG.p (RG.p (RG.p (RG.p (RG.p (RG.p (RG.p (RG.p (RG.p (RG.p (RG.p (RG.p (RG.p (RG.p (RG.p (RG.p (RG.p (RG.p (RG.p f 73 v1) 74 v4) 75 v6) 72 v6) 76 v8) 77 v9) 6 v8) 7 v9) 79 v10) 80 v13) 81 v15) 78 v15) 82 v17) 83 v18) 8 v17) 9 v18) 84 v9) 85 v19) 86 v19) 86 (Value.bool false)) 87 v18) 88 v20) 89 v20) 90 v20) 90 (Value.bool true)) 91 undef) 92 undef) 93 undef) 94 undef) 95 (Value.bool true)) 96 (Value.bool true)) 96 (Value.bool true)) 97 undef) 98 undef) 99 undef) 100 undef) 101 (Value.bool true)) h16 (contX pl3 prog J 317 n0 3 ct3 [1, 1, 1, 1, 1, 1, 0, 1] (codeOf f3) [] (RetQ prog [.tmp 0] n0 K))))
((((4 * 1 : Nat) ≤ 16777216 ∧ (4 : Nat) ≤ 16777216 ∧ List.length [(vint 0)] = 1) ∧ aFill (zrep [(vint 0)] 4) [(0, 1, (vint 5)), (1, 1, (vint 3)), (2, 1, (vint 3)), (3, 1, (vint 3))] fun c21 =>
aNewS 4 c21 h16 fun v22 h23 =>
Good prog J 9 [v8, v22] h23 fun v24 h25 =>
aUn .not v24 fun v26 =>
cnd v26
(Hold (W prog J 317 n0 3 (subC [1, 1, 1, 1, 1, 1, 0, 1] (codeOf f3)) (RG.p (RG.p (RG.p (RG.p (RG.p (RG.p (RG.p (RG.p (RG.p (RG.p (RG.p (RG.p (RG.p (RG.p (RG.p (RG.p (RG.p (RG.p (RG.p (RG.p (RG.p (RG.p (RG.p (RG.p (RG.p (RG.p (RG.p (RG.p (RG.p (RG.p (RG.p (RG.p (RG.p (RG.p (RG.p (RG.p (RG.p f 73 v1) 74 v4) 75 v6) 72 v6) 76 v8) 77 v9) 6 v8) 7 v9) 79 v10) 80 v13) 81 v15) 78 v15) 82 v17) 83 v18) 8 v17) 9 v18) 84 v9) 85 v19) 86 v19) 86 (Value.bool false)) 87 v18) 88 v20) 89 v20) 90 v20) 90 (Value.bool false)) 91 v8) 92 v22) 93 v24) 94 v26) 95 v26) 96 v26) 96 (Value.bool true)) 97 undef) 98 undef) 99 undef) 100 undef) 101 (Value.bool true)) h25 (contX pl3 prog J 317 n0 3 ct3 [1, 1, 1, 1, 1, 1, 0, 1] (codeOf f3) [] (RetQ prog [.tmp 0] n0 K))))
((((2 * 1 : Nat) ≤ 16777216 ∧ (2 : Nat) ≤ 16777216 ∧ List.length [(vint 0)] = 1) ∧ aFill (zrep [(vint 0)] 2) [(0, 1, (vint 2)), (1, 1, (vint 3))] fun c27 =>
aNewS 2 c27 h25 fun v28 h29 =>
Good prog J 9 [v17, v28] h29 fun v30 h31 =>
aUn .not v30 fun v32 =>
Hold (W prog J 317 n0 3 (subC [1, 1, 1, 1, 1, 1, 0, 1] (codeOf f3)) (RG.p (RG.p (RG.p (RG.p (RG.p (RG.p (RG.p (RG.p (RG.p (RG.p (RG.p (RG.p (RG.p (RG.p (RG.p (RG.p (RG.p (RG.p (RG.p (RG.p (RG.p (RG.p (RG.p (RG.p (RG.p (RG.p (RG.p (RG.p (RG.p (RG.p (RG.p (RG.p (RG.p (RG.p (RG.p (RG.p (RG.p f 73 v1) 74 v4) 75 v6) 72 v6) 76 v8) 77 v9) 6 v8) 7 v9) 79 v10) 80 v13) 81 v15) 78 v15) 82 v17) 83 v18) 8 v17) 9 v18) 84 v9) 85 v19) 86 v19) 86 (Value.bool false)) 87 v18) 88 v20) 89 v20) 90 v20) 90 (Value.bool false)) 91 v8) 92 v22) 93 v24) 94 v26) 95 v26) 96 v26) 96 (Value.bool false)) 97 v17) 98 v28) 99 v30) 100 v32) 101 v32) h31 (contX pl3 prog J 317 n0 3 ct3 [1, 1, 1, 1, 1, 1, 0, 1] (codeOf f3) [] (RetQ prog [.tmp 0] n0 K)))))))))))) := sub_eq pok3 ct3 (by kernel_rfl)
theorem s3_2 {f : RG} : W prog J 317 n0 3 (subC [1, 1, 1, 1, 1, 1, 0, 1] (codeOf f3)) f h (contX pl3 prog J 317 n0 3 ct3 [1, 1, 1, 1, 1, 1, 0, 1] (codeOf f3) [] (RetQ prog [.tmp 0] n0 K)) =
(cnd (f.r 101)
(retL n0 K f.ds [(Value.bool false)] h)
((((3 * 1 : Nat) ≤ 16777216 ∧ (3 : Nat) ≤ 16777216 ∧ List.length [(vint 0)] = 1) ∧ aFill (zrep [(vint 0)] 3) [(0, 1, (vint 0)), (1, 1, (vint 1)), (2, 1, (vint (-1)))] fun c1 =>
aNewS 3 c1 h fun v2 h3 =>
(((3 * 1 : Nat) ≤ 16777216 ∧ (3 : Nat) ≤ 16777216 ∧ List.length [(vint 0)] = 1) ∧ aFill (zrep [(vint 0)] 3) [(0, 1, (vint 0)), (1, 1, (vint 0)), (2, 1, (vint 1))] fun c4 =>
aNewS 3 c4 h3 fun v5 h6 =>
(((1 * 1 : Nat) ≤ 16777216 ∧ (1 : Nat) ≤ 16777216 ∧ List.length [(vint 0)] = 1) ∧ aFill (zrep [(vint 0)] 1) [(0, 1, (vint 1))] fun c7 =>
aNewS 1 c7 h6 fun v8 h9 =>
(((3 * 1 : Nat) ≤ 16777216 ∧ (3 : Nat) ≤ 16777216 ∧ List.length [(Value.slice none 0 0)] = 1) ∧ aFill (zrep [(Value.slice none 0 0)] 3) [(0, 1, v2), (1, 1, v5), (2, 1, v8)] fun c10 =>
aNewS 3 c10 h9 fun v11 h12 =>
(((2 * 1 : Nat) ≤ 16777216 ∧ (2 : Nat) ≤ 16777216 ∧ List.length [(vint 0)] = 1) ∧ aFill (zrep [(vint 0)] 2) [(0, 1, (vint 3)), (1, 1, (vint 3))] fun c13 =>
aNewS 2 c13 h12 fun v14 h15 =>
(((2 * 1 : Nat) ≤ 16777216 ∧ (2 : Nat) ≤ 16777216 ∧ List.length [(vint 0)] = 1) ∧ aFill (zrep [(vint 0)] 2) [(0, 1, (vint 2)), (1, 1, (vint 3))] fun c16 =>
aNewS 2 c16 h15 fun v17 h18 =>
(((2 * 1 : Nat) ≤ 16777216 ∧ (2 : Nat) ≤ 16777216 ∧ List.length [(vint 0)] = 1) ∧ aFill (zrep [(vint 0)] 2) [(0, 1, (vint 0)), (1, 1, (vint 1))] fun c19 =>
aNewS 2 c19 h18 fun v20 h21 =>
(((3 * 1 : Nat) ≤ 16777216 ∧ (3 : Nat) ≤ 16777216 ∧ List.length [(Value.slice none 0 0)] = 1) ∧ aFill (zrep [(Value.slice none 0 0)] 3) [(0, 1, v14), (1, 1, v17), (2, 1, v20)] fun c22 =>
aNewS 3 c22 h21 fun v23 h24 =>
(((1 * 1 : Nat) ≤ 16777216 ∧ (1 : Nat) ≤ 16777216 ∧ List.length [(vint 0)] = 1) ∧ aFill (zrep [(vint 0)] 1) [(0, 1, (vint 0))] fun c25 =>
aNewS 1 c25 h24 fun v26 h27 =>
(((3 * 1 : Nat) ≤ 16777216 ∧ (3 : Nat) ≤ 16777216 ∧ List.length [(Value.slice none 0 0)] = 1) ∧ aFill (zrep [(Value.slice none 0 0)] 3) [(0, 1, (Value.slice none 0 0)), (1, 1, (Value.slice none 0 0)), (2, 1, v26)] fun c28 =>
aNewS 3 c28 h27 fun v29 h30 =>
Sem J 317 n0 3 (subC [1, 1, 1, 1, 1, 1, 1, 1, 1, 0, 1, 0] (codeOf f3)) (RG.p (RG.p (RG.p (RG.p (RG.p (RG.p (RG.p (RG.p (RG.p (RG.p (RG.p (RG.p (RG.p (RG.p f 102 v2) 103 v5) 104 v8) 105 v11) 106 v14) 107 v17) 108 v20) 109 v23) 10 v11) 11 v23) 110 v26) 111 v29) 12 v29) 13 (vint 0)) h30 (contX pl3 prog J 317 n0 3 ct3 [1, 1, 1, 1, 1, 1, 1, 1, 1, 0, 1, 0] (codeOf f3) [] (RetQ prog [.tmp 0] n0 K)))))))))))))) := sub_eq pok3 ct3 (by kernel_rfl)
theorem s3_3 {f : RG} {nx0 : RG → List AObj → Prop} : W prog J 317 n0 3 (subC [1, 1, 1, 1, 1, 1, 1, 1, 1, 0, 1, 0, 0] (codeOf f3)) f h (thenK nx0 (contX pl3 prog J 317 n0 3 ct3 [1, 1, 1, 1, 1, 1, 1, 1, 1, 0, 1, 0] (codeOf f3) [] (RetQ prog [.tmp 0] n0 K))) =
(aLenS (f.r 10) fun v1 =>
aBin prog .lss 3 (f.r 13) v1 fun v2 =>
cnd v2
((∃ B, aIdx 1 (f.r 10) (f.r 13) fun v3 =>
aLoad false 1 v3 h fun v4 =>
RdOk (some B) (ptrBlk v3) ∧ (Good prog J 4 [] h fun v5 h6 =>
SameB (some B) h h6 ∧ (Good prog J 10 [v5, v4] h6 fun v7 h8 =>
aExt v7 0 fun v9 =>
aExt v7 1 fun v10 =>
(∃ B, aIdx 1 (f.r 10) (f.r 13) fun v11 =>
aLoad false 1 v11 h8 fun v12 =>
RdOk (some B) (ptrBlk v11) ∧ (Good prog J 4 [] h8 fun v13 h14 =>
SameB (some B) h8 h14 ∧ (Good prog J 11 [v13, v12] h14 fun v15 h16 =>
aExt v15 0 fun v17 =>
aExt v15 1 fun v18 =>
aBin prog .neq 31 v10 (vint 0) fun v19 =>
cnd v19
(Hold (W prog J 317 n0 3 (subC [1, 1, 1, 1, 1, 1, 1, 1, 1, 0, 1, 0, 0, 1, 0, 0, 1, 1, 1] (codeOf f3)) (RG.p (RG.p (RG.p (RG.p (RG.p (RG.p (RG.p (RG.p (RG.p (RG.p (RG.p (RG.p (RG.p (RG.p (RG.p (RG.p (RG.p (RG.p (RG.p (RG.p (RG.p (RG.p (RG.p (RG.p (RG.p (RG.p (RG.p (RG.p (RG.p (RG.p (RG.p (RG.p (RG.p (RG.p (RG.p (RG.p (RG.p (RG.p (RG.p (RG.p (RG.p (RG.p (RG.p (RG.p (RG.p (RG.p (RG.p (RG.p (RG.p (RG.p (RG.p (RG.p (RG.p f 112 (f.r 13)) 113 (f.r 10)) 114 v1) 115 v2) 120 (f.r 10)) 121 (f.r 13)) 122 v3) 123 v4) 119 v5) 124 v7) 118 v7) 125 v9) 126 v10) 14 v9) 15 v10) 129 (f.r 10)) 130 (f.r 13)) 131 v11) 132 v12) 128 v13) 133 v15) 127 v15) 134 v17) 135 v18) 16 v17) 17 v18) 136 v10) 137 v19) 138 v19) 138 (Value.bool true)) 139 undef) 140 undef) 141 (Value.bool true)) 142 (Value.bool true)) 142 (Value.bool true)) 143 undef) 144 undef) 145 undef) 146 undef) 147 undef) 148 undef) 149 undef) 150 (Value.bool true)) 151 (Value.bool true)) 151 (Value.bool true)) 152 undef) 153 undef) 154 undef) 155 undef) 156 undef) 157 undef) 158 undef) 159 (Value.bool true)) h16 (contX pl3 prog J 317 n0 3 ct3 [1, 1, 1, 1, 1, 1, 1, 1, 1, 0, 1, 0, 0, 1, 0, 0, 1, 1, 1] (codeOf f3) [nx0] (RetQ prog [.tmp 0] n0 K))))
(aBin prog .neq 31 v18 (vint 0) fun v20 =>
cnd v20
(Hold (W prog J 317 n0 3 (subC [1, 1, 1, 1, 1, 1, 1, 1, 1, 0, 1, 0, 0, 1, 0, 0, 1, 1, 1] (codeOf f3)) (RG.p (RG.p (RG.p (RG.p (RG.p (RG.p (RG.p (RG.p (RG.p (RG.p (RG.p (RG.p (RG.p (RG.p (RG.p (RG.p (RG.p (RG.p (RG.p (RG.p (RG.p (RG.p (RG.p (RG.p (RG.p (RG.p (RG.p (RG.p (RG.p (RG.p (RG.p (RG.p (RG.p (RG.p (RG.p (RG.p (RG.p (RG.p (RG.p (RG.p (RG.p (RG.p (RG.p (RG.p (RG.p (RG.p (RG.p (RG.p (RG.p (RG.p (RG.p (RG.p (RG.p f 112 (f.r 13)) 113 (f.r 10)) 114 v1) 115 v2) 120 (f.r 10)) 121 (f.r 13)) 122 v3) 123 v4) 119 v5) 124 v7) 118 v7) 125 v9) 126 v10) 14 v9) 15 v10) 129 (f.r 10)) 130 (f.r 13)) 131 v11) 132 v12) 128 v13) 133 v15) 127 v15) 134 v17) 135 v18) 16 v17) 17 v18) 136 v10) 137 v19) 138 v19) 138 (Value.bool false)) 139 v18) 140 v20) 141 v20) 142 v20) 142 (Value.bool true)) 143 undef) 144 undef) 145 undef) 146 undef) 147 undef) 148 undef) 149 undef) 150 (Value.bool true)) 151 (Value.bool true)) 151 (Value.bool true)) 152 undef) 153 undef) 154 undef) 155 undef) 156 undef) 157 undef) 158 undef) 159 (Value.bool true)) h16 (contX pl3 prog J 317 n0 3 ct3 [1, 1, 1, 1, 1, 1, 1, 1, 1, 0, 1, 0, 0, 1, 0, 0, 1, 1, 1] (codeOf f3) [nx0] (RetQ prog [.tmp 0] n0 K))))
(aIdx 1 (f.r 11) (f.r 13) fun v21 =>
aLoad false 1 v21 h16 fun v22 =>
Good prog J 9 [v9, v22] h16 fun v23 h24 =>
aUn .not v23 fun v25 =>
cnd v25
(Hold (W prog J 317 n0 3 (subC [1, 1, 1, 1, 1, 1, 1, 1, 1, 0, 1, 0, 0, 1, 0, 0, 1, 1, 1] (codeOf f3)) (RG.p (RG.p (RG.p (RG.p (RG.p (RG.p (RG.p (RG.p (RG.p (RG.p (RG.p (RG.p (RG.p (RG.p (RG.p (RG.p (RG.p (RG.p (RG.p (RG.p (RG.p (RG.p (RG.p (RG.p (RG.p (RG.p (RG.p (RG.p (RG.p (RG.p (RG.p (RG.p (RG.p (RG.p (RG.p (RG.p (RG.p (RG.p (RG.p (RG.p (RG.p (RG.p (RG.p (RG.p (RG.p (RG.p (RG.p (RG.p (RG.p (RG.p (RG.p (RG.p (RG.p f 112 (f.r 13)) 113 (f.r 10)) 114 v1) 115 v2) 120 (f.r 10)) 121 (f.r 13)) 122 v3) 123 v4) 119 v5) 124 v7) 118 v7) 125 v9) 126 v10) 14 v9) 15 v10) 129 (f.r 10)) 130 (f.r 13)) 131 v11) 132 v12) 128 v13) 133 v15) 127 v15) 134 v17) 135 v18) 16 v17) 17 v18) 136 v10) 137 v19) 138 v19) 138 (Value.bool false)) 139 v18) 140 v20) 141 v20) 142 v20) 142 (Value.bool false)) 143 v9) 144 (f.r 11)) 145 (f.r 13)) 146 v21) 147 v22) 148 v23) 149 v25) 150 v25) 151 v25) 151 (Value.bool true)) 152 undef) 153 undef) 154 undef) 155 undef) 156 undef) 157 undef) 158 undef) 159 (Value.bool true)) h24 (contX pl3 prog J 317 n0 3 ct3 [1, 1, 1, 1, 1, 1, 1, 1, 1, 0, 1, 0, 0, 1, 0, 0, 1, 1, 1] (codeOf f3) [nx0] (RetQ prog [.tmp 0] n0 K))))
(aIdx 1 (f.r 12) (f.r 13) fun v26 =>
aLoad false 1 v26 h24 fun v27 =>
Good prog J 9 [v17, v27] h24 fun v28 h29 =>
aUn .not v28 fun v30 =>
Hold (W prog J 317 n0 3 (subC [1, 1, 1, 1, 1, 1, 1, 1, 1, 0, 1, 0, 0, 1, 0, 0, 1, 1, 1] (codeOf f3)) (RG.p (RG.p (RG.p (RG.p (RG.p (RG.p (RG.p (RG.p (RG.p (RG.p (RG.p (RG.p (RG.p (RG.p (RG.p (RG.p (RG.p (RG.p (RG.p (RG.p (RG.p (RG.p (RG.p (RG.p (RG.p (RG.p (RG.p (RG.p (RG.p (RG.p (RG.p (RG.p (RG.p (RG.p (RG.p (RG.p (RG.p (RG.p (RG.p (RG.p (RG.p (RG.p (RG.p (RG.p (RG.p (RG.p (RG.p (RG.p (RG.p (RG.p (RG.p (RG.p (RG.p f 112 (f.r 13)) 113 (f.r 10)) 114 v1) 115 v2) 120 (f.r 10)) 121 (f.r 13)) 122 v3) 123 v4) 119 v5) 124 v7) 118 v7) 125 v9) 126 v10) 14 v9) 15 v10) 129 (f.r 10)) 130 (f.r 13)) 131 v11) 132 v12) 128 v13) 133 v15) 127 v15) 134 v17) 135 v18) 16 v17) 17 v18) 136 v10) 137 v19) 138 v19) 138 (Value.bool false)) 139 v18) 140 v20) 141 v20) 142 v20) 142 (Value.bool false)) 143 v9) 144 (f.r 11)) 145 (f.r 13)) 146 v21) 147 v22) 148 v23) 149 v25) 150 v25) 151 v25) 151 (Value.bool false)) 152 v17) 153 (f.r 12)) 154 (f.r 13)) 155 v26) 156 v27) 157 v28) 158 v30) 159 v30) h29 (contX pl3 prog J 317 n0 3 ct3 [1, 1, 1, 1, 1, 1, 1, 1, 1, 0, 1, 0, 0, 1, 0, 0, 1, 1, 1] (codeOf f3) [nx0] (RetQ prog [.tmp 0] n0 K)))))))))))))
(Good prog J 4 [] h fun v31 h32 =>
(((4 * 1 : Nat) ≤ 16777216 ∧ (4 : Nat) ≤ 16777216 ∧ List.length [(vint 0)] = 1) ∧ aFill (zrep [(vint 0)] 4) [(0, 1, (vint 0)), (1, 1, (vint (-1))), (2, 1, (vint 1)), (3, 1, (vint (-1)))] fun c33 =>
aNewS 4 c33 h32 fun v34 h35 =>
Good prog J 11 [v31, v34] h35 fun v36 h37 =>
aExt v36 0 fun v38 =>
aExt v36 1 fun v39 =>
Good prog J 4 [] h37 fun v40 h41 =>
(((3 * 1 : Nat) ≤ 16777216 ∧ (3 : Nat) ≤ 16777216 ∧ List.length [(vint 0)] = 1) ∧ aFill (zrep [(vint 0)] 3) [(0, 1, (vint 0)), (1, 1, (vint 1)), (2, 1, (vint (-1)))] fun c42 =>
aNewS 3 c42 h41 fun v43 h44 =>
Good prog J 12 [v40, v43] h44 fun v45 h46 =>
aExt v45 0 fun v47 =>
aExt v45 1 fun v48 =>
aLoad true 4 (f.r 4) h46 fun v49 =>
Good prog J 13 [v49] h46 fun v50 h51 =>
aExt v50 0 fun v52 =>
aExt v50 1 fun v53 =>
Good prog J 4 [] h51 fun v54 h55 =>
Good prog J 14 [v54] h55 fun v56 h57 =>
aExt v56 0 fun v58 =>
aExt v56 1 fun v59 =>
Good prog J 4 [] h57 fun v60 h61 =>
Good prog J 15 [v60] h61 fun v62 h63 =>
aExt v62 0 fun v64 =>
aExt v62 1 fun v65 =>
aBin prog .neq 31 v39 (vint 0) fun v66 =>
cnd v66
(Hold (W prog J 317 n0 3 (subC [1, 1, 1, 1, 1, 1, 1, 1, 1, 1, 1, 1, 1, 1, 1, 0, 1] (codeOf f3)) (RG.p (RG.p (RG.p (RG.p (RG.p (RG.p (RG.p (RG.p (RG.p (RG.p (RG.p (RG.p (RG.p (RG.p (RG.p (RG.p (RG.p (RG.p (RG.p (RG.p (RG.p (RG.p (RG.p (RG.p (RG.p (RG.p (RG.p (RG.p (RG.p (RG.p (RG.p (RG.p (RG.p (RG.p (RG.p (RG.p (RG.p (RG.p (RG.p (RG.p (RG.p (RG.p (RG.p (RG.p (RG.p (RG.p (RG.p (RG.p (RG.p (RG.p (RG.p (RG.p (RG.p (RG.p (RG.p (RG.p (RG.p (RG.p (RG.p (RG.p (RG.p (RG.p (RG.p (RG.p (RG.p (RG.p (RG.p (RG.p (RG.p (RG.p (RG.p (RG.p (RG.p (RG.p (RG.p (RG.p (RG.p (RG.p (RG.p f 112 (f.r 13)) 113 (f.r 10)) 114 v1) 115 v2) 161 v31) 162 v34) 163 v36) 160 v36) 164 v38) 165 v39) 18 v38) 7 v39) 167 v40) 168 v43) 169 v45) 166 v45) 170 v47) 171 v48) 9 v48) 173 v49) 174 v50) 172 v50) 175 v52) 176 v53) 19 v52) 20 v53) 178 v54) 179 v56) 177 v56) 180 v58) 181 v59) 21 v58) 22 v59) 183 v60) 184 v62) 182 v62) 185 v64) 186 v65) 23 v64) 24 v65) 187 v39) 188 v66) 189 v66) 189 (Value.bool true)) 190 undef) 191 undef) 192 (Value.bool true)) 193 (Value.bool true)) 193 (Value.bool true)) 194 undef) 195 undef) 196 (Value.bool true)) 197 (Value.bool true)) 197 (Value.bool true)) 198 undef) 199 undef) 200 (Value.bool true)) 201 (Value.bool true)) 201 (Value.bool true)) 202 undef) 203 undef) 204 (Value.bool true)) 205 (Value.bool true)) 205 (Value.bool true)) 206 undef) 207 undef) 208 (Value.bool true)) 209 (Value.bool true)) 209 (Value.bool true)) 210 undef) 211 undef) 212 (Value.bool true)) 213 (Value.bool true)) 213 (Value.bool true)) 214 undef) 215 undef) 216 undef) 217 undef) 218 (Value.bool true)) h63 (contX pl3 prog J 317 n0 3 ct3 [1, 1, 1, 1, 1, 1, 1, 1, 1, 1, 1, 1, 1, 1, 1, 0, 1] (codeOf f3) [] (RetQ prog [.tmp 0] n0 K))))
(aBin prog .neq 31 v48 (vint 11) fun v67 =>
cnd v67
(Hold (W prog J 317 n0 3 (subC [1, 1, 1, 1, 1, 1, 1, 1, 1, 1, 1, 1, 1, 1, 1, 0, 1] (codeOf f3)) (RG.p (RG.p (RG.p (RG.p (RG.p (RG.p (RG.p (RG.p (RG.p (RG.p (RG.p (RG.p (RG.p (RG.p (RG.p (RG.p (RG.p (RG.p (RG.p (RG.p (RG.p (RG.p (RG.p (RG.p (RG.p (RG.p (RG.p (RG.p (RG.p (RG.p (RG.p (RG.p (RG.p (RG.p (RG.p (RG.p (RG.p (RG.p (RG.p (RG.p (RG.p (RG.p (RG.p (RG.p (RG.p (RG.p (RG.p (RG.p (RG.p (RG.p (RG.p (RG.p (RG.p (RG.p (RG.p (RG.p (RG.p (RG.p (RG.p (RG.p (RG.p (RG.p (RG.p (RG.p (RG.p (RG.p (RG.p (RG.p (RG.p (RG.p (RG.p (RG.p (RG.p (RG.p (RG.p (RG.p (RG.p (RG.p (RG.p f 112 (f.r 13)) 113 (f.r 10)) 114 v1) 115 v2) 161 v31) 162 v34) 163 v36) 160 v36) 164 v38) 165 v39) 18 v38) 7 v39) 167 v40) 168 v43) 169 v45) 166 v45) 170 v47) 171 v48) 9 v48) 173 v49) 174 v50) 172 v50) 175 v52) 176 v53) 19 v52) 20 v53) 178 v54) 179 v56) 177 v56) 180 v58) 181 v59) 21 v58) 22 v59) 183 v60) 184 v62) 182 v62) 185 v64) 186 v65) 23 v64) 24 v65) 187 v39) 188 v66) 189 v66) 189 (Value.bool false)) 190 v48) 191 v67) 192 v67) 193 v67) 193 (Value.bool true)) 194 undef) 195 undef) 196 (Value.bool true)) 197 (Value.bool true)) 197 (Value.bool true)) 198 undef) 199 undef) 200 (Value.bool true)) 201 (Value.bool true)) 201 (Value.bool true)) 202 undef) 203 undef) 204 (Value.bool true)) 205 (Value.bool true)) 205 (Value.bool true)) 206 undef) 207 undef) 208 (Value.bool true)) 209 (Value.bool true)) 209 (Value.bool true)) 210 undef) 211 undef) 212 (Value.bool true)) 213 (Value.bool true)) 213 (Value.bool true)) 214 undef) 215 undef) 216 undef) 217 undef) 218 (Value.bool true)) h63 (contX pl3 prog J 317 n0 3 ct3 [1, 1, 1, 1, 1, 1, 1, 1, 1, 1, 1, 1, 1, 1, 1, 0, 1] (codeOf f3) [] (RetQ prog [.tmp 0] n0 K))))
(aBin prog .neq 31 v53 (vint 11) fun v68 =>
cnd v68
(Hold (W prog J 317 n0 3 (subC [1, 1, 1, 1, 1, 1, 1, 1, 1, 1, 1, 1, 1, 1, 1, 0, 1] (codeOf f3)) (RG.p (RG.p (RG.p (RG.p (RG.p (RG.p (RG.p (RG.p (RG.p (RG.p (RG.p (RG.p (RG.p (RG.p (RG.p (RG.p (RG.p (RG.p (RG.p (RG.p (RG.p (RG.p (RG.p (RG.p (RG.p (RG.p (RG.p (RG.p (RG.p (RG.p (RG.p (RG.p (RG.p (RG.p (RG.p (RG.p (RG.p (RG.p (RG.p (RG.p (RG.p (RG.p (RG.p (RG.p (RG.p (RG.p (RG.p (RG.p (RG.p (RG.p (RG.p (RG.p (RG.p (RG.p (RG.p (RG.p (RG.p (RG.p (RG.p (RG.p (RG.p (RG.p (RG.p (RG.p (RG.p (RG.p (RG.p (RG.p (RG.p (RG.p (RG.p (RG.p (RG.p (RG.p (RG.p (RG.p (RG.p (RG.p (RG.p f 112 (f.r 13)) 113 (f.r 10)) 114 v1) 115 v2) 161 v31) 162 v34) 163 v36) 160 v36) 164 v38) 165 v39) 18 v38) 7 v39) 167 v40) 168 v43) 169 v45) 166 v45) 170 v47) 171 v48) 9 v48) 173 v49) 174 v50) 172 v50) 175 v52) 176 v53) 19 v52) 20 v53) 178 v54) 179 v56) 177 v56) 180 v58) 181 v59) 21 v58) 22 v59) 183 v60) 184 v62) 182 v62) 185 v64) 186 v65) 23 v64) 24 v65) 187 v39) 188 v66) 189 v66) 189 (Value.bool false)) 190 v48) 191 v67) 192 v67) 193 v67) 193 (Value.bool false)) 194 v53) 195 v68) 196 v68) 197 v68) 197 (Value.bool true)) 198 undef) 199 undef) 200 (Value.bool true)) 201 (Value.bool true)) 201 (Value.bool true)) 202 undef) 203 undef) 204 (Value.bool true)) 205 (Value.bool true)) 205 (Value.bool true)) 206 undef) 207 undef) 208 (Value.bool true)) 209 (Value.bool true)) 209 (Value.bool true)) 210 undef) 211 undef) 212 (Value.bool true)) 213 (Value.bool true)) 213 (Value.bool true)) 214 undef) 215 undef) 216 undef) 217 undef) 218 (Value.bool true)) h63 (contX pl3 prog J 317 n0 3 ct3 [1, 1, 1, 1, 1, 1, 1, 1, 1, 1, 1, 1, 1, 1, 1, 0, 1] (codeOf f3) [] (RetQ prog [.tmp 0] n0 K))))
(aBin prog .neq 31 v59 (vint 0) fun v69 =>
cnd v69
(Hold (W prog J 317 n0 3 (subC [1, 1, 1, 1, 1, 1, 1, 1, 1, 1, 1, 1, 1, 1, 1, 0, 1] (codeOf f3)) (RG.p (RG.p (RG.p (RG.p (RG.p (RG.p (RG.p (RG.p (RG.p (RG.p (RG.p (RG.p (RG.p (RG.p (RG.p (RG.p (RG.p (RG.p (RG.p (RG.p (RG.p (RG.p (RG.p (RG.p (RG.p (RG.p (RG.p (RG.p (RG.p (RG.p (RG.p (RG.p (RG.p (RG.p (RG.p (RG.p (RG.p (RG.p (RG.p (RG.p (RG.p (RG.p (RG.p (RG.p (RG.p (RG.p (RG.p (RG.p (RG.p (RG.p (RG.p (RG.p (RG.p (RG.p (RG.p (RG.p (RG.p (RG.p (RG.p (RG.p (RG.p (RG.p (RG.p (RG.p (RG.p (RG.p (RG.p (RG.p (RG.p (RG.p (RG.p (RG.p (RG.p (RG.p (RG.p (RG.p (RG.p (RG.p (RG.p f 112 (f.r 13)) 113 (f.r 10)) 114 v1) 115 v2) 161 v31) 162 v34) 163 v36) 160 v36) 164 v38) 165 v39) 18 v38) 7 v39) 167 v40) 168 v43) 169 v45) 166 v45) 170 v47) 171 v48) 9 v48) 173 v49) 174 v50) 172 v50) 175 v52) 176 v53) 19 v52) 20 v53) 178 v54) 179 v56) 177 v56) 180 v58) 181 v59) 21 v58) 22 v59) 183 v60) 184 v62) 182 v62) 185 v64) 186 v65) 23 v64) 24 v65) 187 v39) 188 v66) 189 v66) 189 (Value.bool false)) 190 v48) 191 v67) 192 v67) 193 v67) 193 (Value.bool false)) 194 v53) 195 v68) 196 v68) 197 v68) 197 (Value.bool false)) 198 v59) 199 v69) 200 v69) 201 v69) 201 (Value.bool true)) 202 undef) 203 undef) 204 (Value.bool true)) 205 (Value.bool true)) 205 (Value.bool true)) 206 undef) 207 undef) 208 (Value.bool true)) 209 (Value.bool true)) 209 (Value.bool true)) 210 undef) 211 undef) 212 (Value.bool true)) 213 (Value.bool true)) 213 (Value.bool true)) 214 undef) 215 undef) 216 undef) 217 undef) 218 (Value.bool true)) h63 (contX pl3 prog J 317 n0 3 ct3 [1, 1, 1, 1, 1, 1, 1, 1, 1, 1, 1, 1, 1, 1, 1, 0, 1] (codeOf f3) [] (RetQ prog [.tmp 0] n0 K))))
(aBin prog .neq 31 v65 (vint 0) fun v70 =>
cnd v70
(Hold (W prog J 317 n0 3 (subC [1, 1, 1, 1, 1, 1, 1, 1, 1, 1, 1, 1, 1, 1, 1, 0, 1] (codeOf f3)) (RG.p (RG.p (RG.p (RG.p (RG.p (RG.p (RG.p (RG.p (RG.p (RG.p (RG.p (RG.p (RG.p (RG.p (RG.p (RG.p (RG.p (RG.p (RG.p (RG.p (RG.p (RG.p (RG.p (RG.p (RG.p (RG.p (RG.p (RG.p (RG.p (RG.p (RG.p (RG.p (RG.p (RG.p (RG.p (RG.p (RG.p (RG.p (RG.p (RG.p (RG.p (RG.p (RG.p (RG.p (RG.p (RG.p (RG.p (RG.p (RG.p (RG.p (RG.p (RG.p (RG.p (RG.p (RG.p (RG.p (RG.p (RG.p (RG.p (RG.p (RG.p (RG.p (RG.p (RG.p (RG.p (RG.p (RG.p (RG.p (RG.p (RG.p (RG.p (RG.p (RG.p (RG.p (RG.p (RG.p (RG.p (RG.p (RG.p f 112 (f.r 13)) 113 (f.r 10)) 114 v1) 115 v2) 161 v31) 162 v34) 163 v36) 160 v36) 164 v38) 165 v39) 18 v38) 7 v39) 167 v40) 168 v43) 169 v45) 166 v45) 170 v47) 171 v48) 9 v48) 173 v49) 174 v50) 172 v50) 175 v52) 176 v53) 19 v52) 20 v53) 178 v54) 179 v56) 177 v56) 180 v58) 181 v59) 21 v58) 22 v59) 183 v60) 184 v62) 182 v62) 185 v64) 186 v65) 23 v64) 24 v65) 187 v39) 188 v66) 189 v66) 189 (Value.bool false)) 190 v48) 191 v67) 192 v67) 193 v67) 193 (Value.bool false)) 194 v53) 195 v68) 196 v68) 197 v68) 197 (Value.bool false)) 198 v59) 199 v69) 200 v69) 201 v69) 201 (Value.bool false)) 202 v65) 203 v70) 204 v70) 205 v70) 205 (Value.bool true)) 206 undef) 207 undef) 208 (Value.bool true)) 209 (Value.bool true)) 209 (Value.bool true)) 210 undef) 211 undef) 212 (Value.bool true)) 213 (Value.bool true)) 213 (Value.bool true)) 214 undef) 215 undef) 216 undef) 217 undef) 218 (Value.bool true)) h63 (contX pl3 prog J 317 n0 3 ct3 [1, 1, 1, 1, 1, 1, 1, 1, 1, 1, 1, 1, 1, 1, 1, 0, 1] (codeOf f3) [] (RetQ prog [.tmp 0] n0 K))))
(aBin prog .neq 3 v58 (vint 3) fun v71 =>
cnd v71
(Hold (W prog J 317 n0 3 (subC [1, 1, 1, 1, 1, 1, 1, 1, 1, 1, 1, 1, 1, 1, 1, 0, 1] (codeOf f3)) (RG.p (RG.p (RG.p (RG.p (RG.p (RG.p (RG.p (RG.p (RG.p (RG.p (RG.p (RG.p (RG.p (RG.p (RG.p (RG.p (RG.p (RG.p (RG.p (RG.p (RG.p (RG.p (RG.p (RG.p (RG.p (RG.p (RG.p (RG.p (RG.p (RG.p (RG.p (RG.p (RG.p (RG.p (RG.p (RG.p (RG.p (RG.p (RG.p (RG.p (RG.p (RG.p (RG.p (RG.p (RG.p (RG.p (RG.p (RG.p (RG.p (RG.p (RG.p (RG.p (RG.p (RG.p (RG.p (RG.p (RG.p (RG.p (RG.p (RG.p (RG.p (RG.p (RG.p (RG.p (RG.p (RG.p (RG.p (RG.p (RG.p (RG.p (RG.p (RG.p (RG.p (RG.p (RG.p (RG.p (RG.p (RG.p (RG.p f 112 (f.r 13)) 113 (f.r 10)) 114 v1) 115 v2) 161 v31) 162 v34) 163 v36) 160 v36) 164 v38) 165 v39) 18 v38) 7 v39) 167 v40) 168 v43) 169 v45) 166 v45) 170 v47) 171 v48) 9 v48) 173 v49) 174 v50) 172 v50) 175 v52) 176 v53) 19 v52) 20 v53) 178 v54) 179 v56) 177 v56) 180 v58) 181 v59) 21 v58) 22 v59) 183 v60) 184 v62) 182 v62) 185 v64) 186 v65) 23 v64) 24 v65) 187 v39) 188 v66) 189 v66) 189 (Value.bool false)) 190 v48) 191 v67) 192 v67) 193 v67) 193 (Value.bool false)) 194 v53) 195 v68) 196 v68) 197 v68) 197 (Value.bool false)) 198 v59) 199 v69) 200 v69) 201 v69) 201 (Value.bool false)) 202 v65) 203 v70) 204 v70) 205 v70) 205 (Value.bool false)) 206 v58) 207 v71) 208 v71) 209 v71) 209 (Value.bool true)) 210 undef) 211 undef) 212 (Value.bool true)) 213 (Value.bool true)) 213 (Value.bool true)) 214 undef) 215 undef) 216 undef) 217 undef) 218 (Value.bool true)) h63 (contX pl3 prog J 317 n0 3 ct3 [1, 1, 1, 1, 1, 1, 1, 1, 1, 1, 1, 1, 1, 1, 1, 0, 1] (codeOf f3) [] (RetQ prog [.tmp 0] n0 K))))
(aBin prog .neq 3 v64 (vint 6) fun v72 =>
cnd v72
(Hold (W prog J 317 n0 3 (subC [1, 1, 1, 1, 1, 1, 1, 1, 1, 1, 1, 1, 1, 1, 1, 0, 1] (codeOf f3)) (RG.p (RG.p (RG.p (RG.p (RG.p (RG.p (RG.p (RG.p (RG.p (RG.p (RG.p (RG.p (RG.p (RG.p (RG.p (RG.p (RG.p (RG.p (RG.p (RG.p (RG.p (RG.p (RG.p (RG.p (RG.p (RG.p (RG.p (RG.p (RG.p (RG.p (RG.p (RG.p (RG.p (RG.p (RG.p (RG.p (RG.p (RG.p (RG.p (RG.p (RG.p (RG.p (RG.p (RG.p (RG.p (RG.p (RG.p (RG.p (RG.p (RG.p (RG.p (RG.p (RG.p (RG.p (RG.p (RG.p (RG.p (RG.p (RG.p (RG.p (RG.p (RG.p (RG.p (RG.p (RG.p (RG.p (RG.p (RG.p (RG.p (RG.p (RG.p (RG.p (RG.p (RG.p (RG.p (RG.p (RG.p (RG.p (RG.p f 112 (f.r 13)) 113 (f.r 10)) 114 v1) 115 v2) 161 v31) 162 v34) 163 v36) 160 v36) 164 v38) 165 v39) 18 v38) 7 v39) 167 v40) 168 v43) 169 v45) 166 v45) 170 v47) 171 v48) 9 v48) 173 v49) 174 v50) 172 v50) 175 v52) 176 v53) 19 v52) 20 v53) 178 v54) 179 v56) 177 v56) 180 v58) 181 v59) 21 v58) 22 v59) 183 v60) 184 v62) 182 v62) 185 v64) 186 v65) 23 v64) 24 v65) 187 v39) 188 v66) 189 v66) 189 (Value.bool false)) 190 v48) 191 v67) 192 v67) 193 v67) 193 (Value.bool false)) 194 v53) 195 v68) 196 v68) 197 v68) 197 (Value.bool false)) 198 v59) 199 v69) 200 v69) 201 v69) 201 (Value.bool false)) 202 v65) 203 v70) 204 v70) 205 v70) 205 (Value.bool false)) 206 v58) 207 v71) 208 v71) 209 v71) 209 (Value.bool false)) 210 v64) 211 v72) 212 v72) 213 v72) 213 (Value.bool true)) 214 undef) 215 undef) 216 undef) 217 undef) 218 (Value.bool true)) h63 (contX pl3 prog J 317 n0 3 ct3 [1, 1, 1, 1, 1, 1, 1, 1, 1, 1, 1, 1, 1, 1, 1, 0, 1] (codeOf f3) [] (RetQ prog [.tmp 0] n0 K))))
((((1 * 1 : Nat) ≤ 16777216 ∧ (1 : Nat) ≤ 16777216 ∧ List.length [(vint 0)] = 1) ∧ aFill (zrep [(vint 0)] 1) [(0, 1, (vint 0))] fun c73 =>
aNewS 1 c73 h63 fun v74 h75 =>
Good prog J 9 [v38, v74] h75 fun v76 h77 =>
aUn .not v76 fun v78 =>
Hold (W prog J 317 n0 3 (subC [1, 1, 1, 1, 1, 1, 1, 1, 1, 1, 1, 1, 1, 1, 1, 0, 1] (codeOf f3)) (RG.p (RG.p (RG.p (RG.p (RG.p (RG.p (RG.p (RG.p (RG.p (RG.p (RG.p (RG.p (RG.p (RG.p (RG.p (RG.p (RG.p (RG.p (RG.p (RG.p (RG.p (RG.p (RG.p (RG.p (RG.p (RG.p (RG.p (RG.p (RG.p (RG.p (RG.p (RG.p (RG.p (RG.p (RG.p (RG.p (RG.p (RG.p (RG.p (RG.p (RG.p (RG.p (RG.p (RG.p (RG.p (RG.p (RG.p (RG.p (RG.p (RG.p (RG.p (RG.p (RG.p (RG.p (RG.p (RG.p (RG.p (RG.p (RG.p (RG.p (RG.p (RG.p (RG.p (RG.p (RG.p (RG.p (RG.p (RG.p (RG.p (RG.p (RG.p (RG.p (RG.p (RG.p (RG.p (RG.p (RG.p (RG.p (RG.p f 112 (f.r 13)) 113 (f.r 10)) 114 v1) 115 v2) 161 v31) 162 v34) 163 v36) 160 v36) 164 v38) 165 v39) 18 v38) 7 v39) 167 v40) 168 v43) 169 v45) 166 v45) 170 v47) 171 v48) 9 v48) 173 v49) 174 v50) 172 v50) 175 v52) 176 v53) 19 v52) 20 v53) 178 v54) 179 v56) 177 v56) 180 v58) 181 v59) 21 v58) 22 v59) 183 v60) 184 v62) 182 v62) 185 v64) 186 v65) 23 v64) 24 v65) 187 v39) 188 v66) 189 v66) 189 (Value.bool false)) 190 v48) 191 v67) 192 v67) 193 v67) 193 (Value.bool false)) 194 v53) 195 v68) 196 v68) 197 v68) 197 (Value.bool false)) 198 v59) 199 v69) 200 v69) 201 v69) 201 (Value.bool false)) 202 v65) 203 v70) 204 v70) 205 v70) 205 (Value.bool false)) 206 v58) 207 v71) 208 v71) 209 v71) 209 (Value.bool false)) 210 v64) 211 v72) 212 v72) 213 v72) 213 (Value.bool false)) 214 v38) 215 v74) 216 v76) 217 v78) 218 v78) h77 (contX pl3 prog J 317 n0 3 ct3 [1, 1, 1, 1, 1, 1, 1, 1, 1, 1, 1, 1, 1, 1, 1, 0, 1] (codeOf f3) [] (RetQ prog [.tmp 0] n0 K))))))))))))))) := sub_eq pok3 ct3 (by kernel_rfl)
theorem l3_3 (hJ : Closed prog main J) {S : Type} (μ : S → Nat) (I : S → RG → List AObj → Prop) (hI : ∀ s f h, I s f h → heapOk h → n0 ≤ h.length → W prog J 317 n0 3 (subC [1, 1, 1, 1, 1, 1, 1, 1, 1, 0, 1, 0, 0] (codeOf f3)) f h (thenK (Nx n0 μ I s) (contX pl3 prog J 317 n0 3 ct3 [1, 1, 1, 1, 1, 1, 1, 1, 1, 0, 1, 0] (codeOf f3) [] (RetQ prog [.tmp 0] n0 K))))
 {s : S} {f : RG} (hi : Gets n0 I s f h) : Sem J 317 n0 3 (subC [1, 1, 1, 1, 1, 1, 1, 1, 1, 0, 1, 0] (codeOf f3)) f h (contX pl3 prog J 317 n0 3 ct3 [1, 1, 1, 1, 1, 1, 1, 1, 1, 0, 1, 0] (codeOf f3) [] (RetQ prog [.tmp 0] n0 K)) :=
 loop_rule hJ mixed (b := subC [1, 1, 1, 1, 1, 1, 1, 1, 1, 0, 1, 0, 0] (codeOf f3)) (by kernel_rfl) μ I hI hi
theorem s3_4 {f : RG} {nx0 : RG → List AObj → Prop} : W prog J 317 n0 3 (subC [1, 1, 1, 1, 1, 1, 1, 1, 1, 0, 1, 0, 0, 1, 0, 0, 1, 1, 1] (codeOf f3)) f h (contX pl3 prog J 317 n0 3 ct3 [1, 1, 1, 1, 1, 1, 1, 1, 1, 0, 1, 0, 0, 1, 0, 0, 1, 1, 1] (codeOf f3) [nx0] (RetQ prog [.tmp 0] n0 K)) =
(cnd (f.r 159)
(retL n0 K f.ds [(Value.bool false)] h)
(aBin prog .add 3 (f.r 13) (vint 1) fun v1 =>
nx0 (RG.p (RG.p (RG.p f 116 (f.r 13)) 117 v1) 13 v1) h)) := sub_eq pok3 ct3 (by kernel_rfl)
theorem s3_5 {f : RG} : W prog J 317 n0 3 (subC [1, 1, 1, 1, 1, 1, 1, 1, 1, 1, 1, 1, 1, 1, 1, 0, 1] (codeOf f3)) f h (contX pl3 prog J 317 n0 3 ct3 [1, 1, 1, 1, 1, 1, 1, 1, 1, 1, 1, 1, 1, 1, 1, 0, 1] (codeOf f3) [] (RetQ prog [.tmp 0] n0 K)) =
(cnd (f.r 218)
(retL n0 K f.ds [(Value.bool false)] h)
(Good prog J 4 [] h fun v1 h2 =>
(((3 * 1 : Nat) ≤ 16777216 ∧ (3 : Nat) ≤ 16777216 ∧ List.length [(vint 0)] = 1) ∧ aFill (zrep [(vint 0)] 3) [(0, 1, (vint 0)), (1, 1, (vint 1)), (2, 1, (vint (-1)))] fun c3 =>
aNewS 3 c3 h2 fun v4 h5 =>
Good prog J 16 [v1, v4] h5 fun v6 h7 =>
aExt v6 0 fun v8 =>
aExt v6 1 fun v9 =>
Good prog J 4 [] h7 fun v10 h11 =>
(((2 * 1 : Nat) ≤ 16777216 ∧ (2 : Nat) ≤ 16777216 ∧ List.length [(vint 0)] = 1) ∧ aFill (zrep [(vint 0)] 2) [(0, 1, (vint 0)), (1, 1, (vint 1))] fun c12 =>
aNewS 2 c12 h11 fun v13 h14 =>
Good prog J 16 [v10, v13] h14 fun v15 h16 =>
aExt v15 0 fun v17 =>
aExt v15 1 fun v18 =>
Hold (W prog J 317 n0 3 (subC [1, 1, 1, 1, 1, 1, 1, 1, 1, 1, 1, 1, 1, 1, 1, 1, 1, 1] (codeOf f3)) (RG.p (RG.p (RG.p (RG.p (RG.p (RG.p (RG.p (RG.p (RG.p (RG.p (RG.p (RG.p (RG.p (RG.p (RG.p f 220 v1) 221 v4) 222 v6) 219 v6) 223 v8) 224 v9) 25 v8) 7 v9) 226 v10) 227 v13) 228 v15) 225 v15) 229 v17) 230 v18) 9 v18) h16 (contX pl3 prog J 317 n0 3 ct3 [1, 1, 1, 1, 1, 1, 1, 1, 1, 1, 1, 1, 1, 1, 1, 1, 1, 1] (codeOf f3) [] (RetQ prog [.tmp 0] n0 K))))))) := sub_eq pok3 ct3 (by kernel_rfl)
theorem s3_6 {f : RG} : W prog J 317 n0 3 (subC [1, 1, 1, 1, 1, 1, 1, 1, 1, 1, 1, 1, 1, 1, 1, 1, 1, 1] (codeOf f3)) f h (contX pl3 prog J 317 n0 3 ct3 [1, 1, 1, 1, 1, 1, 1, 1, 1, 1, 1, 1, 1, 1, 1, 1, 1, 1] (codeOf f3) [] (RetQ prog [.tmp 0] n0 K)) =
(Good prog J 4 [] h fun v1 h2 =>
(((2 * 1 : Nat) ≤ 16777216 ∧ (2 : Nat) ≤ 16777216 ∧ List.length [(vint 0)] = 1) ∧ aFill (zrep [(vint 0)] 2) [(0, 1, (vint 0)), (1, 1, (vint 0))] fun c3 =>
aNewS 2 c3 h2 fun v4 h5 =>
Good prog J 17 [v1, v4] h5 fun v6 h7 =>
aExt v6 0 fun v8 =>
aExt v6 1 fun v9 =>
aExt v6 2 fun v10 =>
aLoad true 4 (f.r 5) h7 fun v11 =>
(((2 * 1 : Nat) ≤ 16777216 ∧ (2 : Nat) ≤ 16777216 ∧ List.length [(vint 0)] = 1) ∧ aFill (zrep [(vint 0)] 2) [(0, 1, (vint 0)), (1, 1, (vint 0))] fun c12 =>
aNewS 2 c12 h7 fun v13 h14 =>
Good prog J 17 [v11, v13] h14 fun v15 h16 =>
aExt v15 0 fun v17 =>
aExt v15 1 fun v18 =>
aExt v15 2 fun v19 =>
Good prog J 4 [] h16 fun v20 h21 =>
aField true 3 0 v20 fun v22 =>
Good prog J 19 [] h21 fun v23 h24 =>
Good prog J 20 [] h24 fun v25 h26 =>
Good prog J 18 [v22, v23, v25, (vint 2), (vint 1)] h26 fun v27 h28 =>
aExt v27 0 fun v29 =>
aExt v27 1 fun v30 =>
Hold (W prog J 317 n0 3 (subC [1, 1, 1, 1, 1, 1, 1, 1, 1, 1, 1, 1, 1, 1, 1, 1, 1, 1, 1, 1, 1] (codeOf f3)) (RG.p (RG.p (RG.p (RG.p (RG.p (RG.p (RG.p (RG.p (RG.p (RG.p (RG.p (RG.p (RG.p (RG.p (RG.p (RG.p (RG.p (RG.p (RG.p (RG.p (RG.p (RG.p (RG.p (RG.p (RG.p (RG.p (RG.p (RG.p f 232 v1) 233 v4) 234 v6) 231 v6) 235 v8) 236 v9) 237 v10) 26 v8) 27 v9) 20 v10) 239 v11) 240 v13) 241 v15) 238 v15) 242 v17) 243 v18) 244 v19) 22 v19) 246 v20) 247 v22) 248 v23) 249 v25) 250 v27) 245 v27) 251 v29) 252 v30) 21 v29) 24 v30) h28 (contX pl3 prog J 317 n0 3 ct3 [1, 1, 1, 1, 1, 1, 1, 1, 1, 1, 1, 1, 1, 1, 1, 1, 1, 1, 1, 1, 1] (codeOf f3) [] (RetQ prog [.tmp 0] n0 K)))))) := sub_eq pok3 ct3 (by kernel_rfl)
theorem s3_7 {f : RG} : W prog J 317 n0 3 (subC [1, 1, 1, 1, 1, 1, 1, 1, 1, 1, 1, 1, 1, 1, 1, 1, 1, 1, 1, 1, 1] (codeOf f3)) f h (contX pl3 prog J 317 n0 3 ct3 [1, 1, 1, 1, 1, 1, 1, 1, 1, 1, 1, 1, 1, 1, 1, 1, 1, 1, 1, 1, 1] (codeOf f3) [] (RetQ prog [.tmp 0] n0 K)) =
(Good prog J 4 [] h fun v1 h2 =>
aField true 3 0 v1 fun v3 =>
Good prog J 19 [] h2 fun v4 h5 =>
Good prog J 20 [] h5 fun v6 h7 =>
Good prog J 18 [v3, v4, v6, (vint 3), (vint 1)] h7 fun v8 h9 =>
aExt v8 0 fun v10 =>
aExt v8 1 fun v11 =>
Good prog J 4 [] h9 fun v12 h13 =>
Good prog J 21 [v12] h13 fun v14 h15 =>
aExt v14 0 fun v16 =>
aExt v14 1 fun v17 =>
Hold (W prog J 317 n0 3 (subC [1, 1, 1, 1, 1, 1, 1, 1, 1, 1, 1, 1, 1, 1, 1, 1, 1, 1, 1, 1, 1, 1, 1] (codeOf f3)) (RG.p (RG.p (RG.p (RG.p (RG.p (RG.p (RG.p (RG.p (RG.p (RG.p (RG.p (RG.p (RG.p (RG.p (RG.p (RG.p (RG.p f 254 v1) 255 v3) 256 v4) 257 v6) 258 v8) 253 v8) 259 v10) 260 v11) 28 v10) 29 v11) 262 v12) 263 v14) 261 v14) 264 v16) 265 v17) 30 v16) 31 v17) h15 (contX pl3 prog J 317 n0 3 ct3 [1, 1, 1, 1, 1, 1, 1, 1, 1, 1, 1, 1, 1, 1, 1, 1, 1, 1, 1, 1, 1, 1, 1] (codeOf f3) [] (RetQ prog [.tmp 0] n0 K)))) := sub_eq pok3 ct3 (by kernel_rfl)
theorem s3_8 {f : RG} : W prog J 317 n0 3 (subC [1, 1, 1, 1, 1, 1, 1, 1, 1, 1, 1, 1, 1, 1, 1, 1, 1, 1, 1, 1, 1, 1, 1] (codeOf f3)) f h (contX pl3 prog J 317 n0 3 ct3 [1, 1, 1, 1, 1, 1, 1, 1, 1, 1, 1, 1, 1, 1, 1, 1, 1, 1, 1, 1, 1, 1, 1] (codeOf f3) [] (RetQ prog [.tmp 0] n0 K)) =
(aBin prog .eql 31 (f.r 7) (vint 0) fun v1 =>
cnd v1
(aBin prog .eql 31 (f.r 9) (vint 9) fun v2 =>
cnd v2
(aBin prog .eql 31 (f.r 20) (vint 0) fun v3 =>
cnd v3
(aBin prog .eql 31 (f.r 22) (vint 11) fun v4 =>
cnd v4
(aBin prog .eql 31 (f.r 24) (vint 0) fun v5 =>
cnd v5
(aBin prog .eql 31 (f.r 29) (vint 3) fun v6 =>
cnd v6
(aBin prog .eql 31 (f.r 31) (vint 0) fun v7 =>
cnd v7
(aBin prog .eql 3 (f.r 27) (vint 1) fun v8 =>
cnd v8
(aBin prog .eql 3 (f.r 21) (vint 10) fun v9 =>
cnd v9
((((2 * 1 : Nat) ≤ 16777216 ∧ (2 : Nat) ≤ 16777216 ∧ List.length [(vint 0)] = 1) ∧ aFill (zrep [(vint 0)] 2) [(0, 1, (vint 0)), (1, 1, (vint 1))] fun c10 =>
aNewS 2 c10 h fun v11 h12 =>
(((2 * 1 : Nat) ≤ 16777216 ∧ (2 : Nat) ≤ 16777216 ∧ List.length [(vint 0)] = 1) ∧ aFill (zrep [(vint 0)] 2) [(0, 1, (vint 0)), (1, 1, (vint 2))] fun c13 =>
aNewS 2 c13 h12 fun v14 h15 =>
(((2 * 1 : Nat) ≤ 16777216 ∧ (2 : Nat) ≤ 16777216 ∧ List.length [(vint 0)] = 1) ∧ aFill (zrep [(vint 0)] 2) [(0, 1, (vint 1)), (1, 1, (vint 2))] fun c16 =>
aNewS 2 c16 h15 fun v17 h18 =>
(((3 * 1 : Nat) ≤ 16777216 ∧ (3 : Nat) ≤ 16777216 ∧ List.length [(Value.slice none 0 0)] = 1) ∧ aFill (zrep [(Value.slice none 0 0)] 3) [(0, 1, v11), (1, 1, v14), (2, 1, v17)] fun c19 =>
aNewS 3 c19 h18 fun v20 h21 =>
Good prog J 22 [(f.r 25), v20] h21 fun v22 h23 =>
cnd v22
((((2 * 1 : Nat) ≤ 16777216 ∧ (2 : Nat) ≤ 16777216 ∧ List.length [(vint 0)] = 1) ∧ aFill (zrep [(vint 0)] 2) [(0, 1, (vint 0)), (1, 1, (vint 1))] fun c24 =>
aNewS 2 c24 h23 fun v25 h26 =>
Good prog J 9 [(f.r 26), v25] h26 fun v27 h28 =>
cnd v27
(aBin prog .eql 9 (f.r 30) (Value.string { data := #[119, 101, 108, 108, 32, 54, 47, 49, 48, 32, 43, 51, 10, 102, 108, 111, 99, 107, 32, 45, 52, 32, 64, 51, 10, 102, 108, 111, 99, 107, 32, 45, 53, 32, 64, 52, 10, 116, 114, 111, 117, 103, 104, 10] }) fun v29 =>
retL n0 K f.ds [v29] h28)
(retL n0 K f.ds [(Value.bool false)] h28)))
(retL n0 K f.ds [(Value.bool false)] h23))))))
(retL n0 K f.ds [(Value.bool false)] h))
(retL n0 K f.ds [(Value.bool false)] h))
(retL n0 K f.ds [(Value.bool false)] h))
(retL n0 K f.ds [(Value.bool false)] h))
(retL n0 K f.ds [(Value.bool false)] h))
(retL n0 K f.ds [(Value.bool false)] h))
(retL n0 K f.ds [(Value.bool false)] h))
(retL n0 K f.ds [(Value.bool false)] h))
(retL n0 K f.ds [(Value.bool false)] h)) := sub_eq pok3 ct3 (by kernel_rfl)
end
section
variable {main : Bool} {J : JT} {n0 : Nat} {h : List AObj} {K : Value → List AObj → Prop}
theorem at21 : prog.funcs[21]? = some f21 := by kernel_rfl
theorem body21 : f21.body = some (codeOf f21) := by kernel_rfl
def pl21 : Plans := [(5, false, .take 0 (.take 1 (.take 2 (.take 3 (.take 7 (.take 8 (.take 9 (.take 10 (.take 14 (.take 15 (.take 16 (.take 17 (.last 4 true (.take 5 (.take 6 (.last 11 true (.take 12 (.take 13 (.last 18 true (.take 19 (.take 20 (.take 21 (.fin))))))))))))))))))))))),
 (9, false, .take 0 (.take 1 (.take 2 (.take 3 (.take 7 (.take 8 (.take 9 (.last 4 true (.take 5 (.take 6 (.last 10 true (.take 11 (.take 12 (.take 13 (.take 14 (.fin))))))))))))))))]
def ct21 : Cuts := .go
theorem pok21 : plansOk prog pl21 (codeOf f21) = true := by kernel_rfl
theorem e21 {a0 : Value} : W prog J 59 h.length 21 (codeOf f21) (RG.mk (regs [a0]) []) h (RetQ prog [.tmp 2, .tmp 3] h.length K) =
(aBox a0 h fun v1 h2 =>
aLoad true 4 v1 h2 fun v3 =>
Good prog J 6 [v3] h2 fun v4 h5 =>
aBin prog .neq 31 v4 (vint 0) fun v6 =>
cnd v6
(retL h.length K [] [(Value.string { data := #[] }), v4] h5)
((∃ B, aOff v1 0 fun v7 =>
aOff v7 0 fun v8 =>
aLoad false 1 v8 h5 fun v9 =>
RdOk (some B) (ptrBlk v8) ∧ (aOff v1 0 fun v10 =>
aOff v10 1 fun v11 =>
aLoad false 1 v11 h5 fun v12 =>
RdOk (some B) (ptrBlk v11) ∧ (aOff v1 0 fun v13 =>
aOff v13 2 fun v14 =>
aLoad false 1 v14 h5 fun v15 =>
RdOk (some B) (ptrBlk v14) ∧ (callV prog (Good prog J) (Value.func (.func 46) #[] #[]) [v9] h5 fun v16 h17 =>
SameB (some B) h5 h17 ∧ (aBin prog .add 9 (Value.string { data := #[119, 101, 108, 108, 32] }) v16 fun v18 =>
aBin prog .add 9 v18 (Value.string { data := #[47] }) fun v19 =>
callV prog (Good prog J) (Value.func (.func 46) #[] #[]) [v12] h17 fun v20 h21 =>
SameB (some B) h5 h21 ∧ (aBin prog .add 9 v19 v20 fun v22 =>
aBin prog .add 9 v22 (Value.string { data := #[32, 43] }) fun v23 =>
callV prog (Good prog J) (Value.func (.func 46) #[] #[]) [v15] h21 fun v24 h25 =>
SameB (some B) h5 h25 ∧ (aBin prog .add 9 v23 v24 fun v26 =>
aBin prog .add 9 v26 (Value.string { data := #[10] }) fun v27 =>
aOff v1 3 fun v28 =>
aLoad false 1 v28 h25 fun v29 =>
aLenS v29 fun v30 =>
Sem J 59 h.length 21 (subC [1, 1, 1, 1, 0, 1, 0] (codeOf f21)) (RG.p (RG.p (RG.p (RG.p (RG.p (RG.p (RG.p (RG.p (RG.p (RG.p (RG.p (RG.p (RG.p (RG.p (RG.p (RG.p (RG.p (RG.p (RG.p (RG.p (RG.p (RG.p (RG.p (RG.p (RG.p (RG.p (RG.p (RG.p (RG.p (RG.p (RG.p (RG.p (RG.p (RG.p (RG.p (RG.mk (regs [a0]) []) 1 v1) 2 (Value.string { data := #[] })) 3 (vint 0)) 9 v3) 10 v4) 4 v4) 11 v4) 12 v6) 5 (Value.func (.func 46) #[] #[])) 14 (Value.func (.func 46) #[] #[])) 15 v7) 16 v8) 17 v9) 21 (Value.func (.func 46) #[] #[])) 22 v10) 23 v11) 24 v12) 28 (Value.func (.func 46) #[] #[])) 29 v13) 30 v14) 31 v15) 18 v16) 19 v18) 20 v19) 25 v20) 26 v22) 27 v23) 32 v24) 33 v26) 34 v27) 6 v27) 35 v28) 36 v29) 37 v30) 38 (vint 0)) h25 (contX pl21 prog J 59 h.length 21 ct21 [1, 1, 1, 1, 0, 1, 0] (codeOf f21) [] (RetQ prog [.tmp 2, .tmp 3] h.length K))))))))))) := top_eq pok21 ct21 (by kernel_rfl)
theorem g21 (hJ : Closed prog main J) {a0 : Value} (hs : heapOk h → W prog J 59 h.length 21 (codeOf f21) (RG.mk (regs [a0]) []) h (RetQ prog [.tmp 2, .tmp 3] h.length K)) : Good prog J 21 [a0] h K :=
 good_of_W hJ mixed at21 body21 (by kernel_rfl) (Nat.le_of_ble_eq_true rfl) hs
theorem s21_1 {f : RG} {nx0 : RG → List AObj → Prop} : W prog J 59 n0 21 (subC [1, 1, 1, 1, 0, 1, 0, 0] (codeOf f21)) f h (thenK nx0 (contX pl21 prog J 59 n0 21 ct21 [1, 1, 1, 1, 0, 1, 0] (codeOf f21) [] (RetQ prog [.tmp 2, .tmp 3] n0 K))) =
(aBin prog .lss 3 (f.r 38) (f.r 37) fun v1 =>
cnd v1
(aIdx 2 (f.r 36) (f.r 38) fun v2 =>
aLoad true 2 v2 h fun v3 =>
aAlloc [(vint 0), (vint 0)] h fun v4 h5 =>
aStore 2 v4 v3 h5 fun h6 =>
(∃ B, aOff v4 0 fun v7 =>
aLoad false 1 v7 h6 fun v8 =>
RdOk (some B) (ptrBlk v7) ∧ (aOff v4 1 fun v9 =>
aLoad false 1 v9 h6 fun v10 =>
RdOk (some B) (ptrBlk v9) ∧ (callV prog (Good prog J) (f.r 5) [v8] h6 fun v11 h12 =>
SameB (some B) h6 h12 ∧ (aBin prog .add 9 (Value.string { data := #[102, 108, 111, 99, 107, 32, 45] }) v11 fun v13 =>
aBin prog .add 9 v13 (Value.string { data := #[32, 64] }) fun v14 =>
callV prog (Good prog J) (f.r 5) [v10] h12 fun v15 h16 =>
SameB (some B) h6 h16 ∧ (aBin prog .add 9 v14 v15 fun v17 =>
aBin prog .add 9 v17 (Value.string { data := #[10] }) fun v18 =>
aBin prog .add 9 (f.r 6) v18 fun v19 =>
aBin prog .add 3 (f.r 38) (vint 1) fun v20 =>
nx0 (RG.p (RG.p (RG.p (RG.p (RG.p (RG.p (RG.p (RG.p (RG.p (RG.p (RG.p (RG.p (RG.p (RG.p (RG.p (RG.p (RG.p (RG.p (RG.p (RG.p (RG.p f 39 v1) 40 v2) 41 v3) 8 v4) 42 (f.r 6)) 43 (f.r 5)) 44 v7) 45 v8) 49 (f.r 5)) 50 v9) 51 v10) 46 v11) 47 v13) 48 v14) 52 v15) 53 v17) 54 v18) 55 v19) 6 v19) 56 v20) 38 v20) h16))))))
(aBin prog .add 9 (f.r 6) (Value.string { data := #[116, 114, 111, 117, 103, 104, 10] }) fun v21 =>
retL n0 K f.ds [v21, (vint 0)] h)) := sub_eq pok21 ct21 (by kernel_rfl)
theorem l21_1 (hJ : Closed prog main J) {S : Type} (μ : S → Nat) (I : S → RG → List AObj → Prop) (hI : ∀ s f h, I s f h → heapOk h → n0 ≤ h.length → W prog J 59 n0 21 (subC [1, 1, 1, 1, 0, 1, 0, 0] (codeOf f21)) f h (thenK (Nx n0 μ I s) (contX pl21 prog J 59 n0 21 ct21 [1, 1, 1, 1, 0, 1, 0] (codeOf f21) [] (RetQ prog [.tmp 2, .tmp 3] n0 K))))
 {s : S} {f : RG} (hi : Gets n0 I s f h) : Sem J 59 n0 21 (subC [1, 1, 1, 1, 0, 1, 0] (codeOf f21)) f h (contX pl21 prog J 59 n0 21 ct21 [1, 1, 1, 1, 0, 1, 0] (codeOf f21) [] (RetQ prog [.tmp 2, .tmp 3] n0 K)) :=
 loop_rule hJ mixed (b := subC [1, 1, 1, 1, 0, 1, 0, 0] (codeOf f21)) (by kernel_rfl) μ I hI hi
end
section
variable {main : Bool} {J : JT} {n0 : Nat} {h : List AObj} {K : Value → List AObj → Prop}
theorem at46 : prog.funcs[46]? = some f46 := by kernel_rfl
theorem body46 : f46.body = some (codeOf f46) := by kernel_rfl
def pl46 : Plans := []
def ct46 : Cuts := .go
theorem pok46 : plansOk prog pl46 (codeOf f46) = true := by kernel_rfl
theorem e46 {a0 : Value} : W prog J 5 h.length 46 (codeOf f46) (RG.mk (regs [a0]) []) h (RetQ prog [.tmp 2] h.length K) =
(Good prog J 57 [a0] h fun v1 h2 =>
retL h.length K [] [v1] h2) := top_eq pok46 ct46 (by kernel_rfl)
theorem g46 (hJ : Closed prog main J) {a0 : Value} (hs : heapOk h → W prog J 5 h.length 46 (codeOf f46) (RG.mk (regs [a0]) []) h (RetQ prog [.tmp 2] h.length K)) : Good prog J 46 [a0] h K :=
 good_of_W hJ mixed at46 body46 (by kernel_rfl) (Nat.le_of_ble_eq_true rfl) hs
theorem at57 : prog.funcs[57]? = some f57 := by kernel_rfl
theorem body57 : f57.body = some (codeOf f57) := by kernel_rfl
def pl57 : Plans := []
def ct57 : Cuts := .go
theorem pok57 : plansOk prog pl57 (codeOf f57) = true := by kernel_rfl
theorem e57 {a0 : Value} : W prog J 5 h.length 57 (codeOf f57) (RG.mk (regs [a0]) []) h (RetQ prog [.tmp 2] h.length K) =
(Good prog J 64 [a0, (vint 10)] h fun v1 h2 =>
retL h.length K [] [v1] h2) := top_eq pok57 ct57 (by kernel_rfl)
theorem g57 (hJ : Closed prog main J) {a0 : Value} (hs : heapOk h → W prog J 5 h.length 57 (codeOf f57) (RG.mk (regs [a0]) []) h (RetQ prog [.tmp 2] h.length K)) : Good prog J 57 [a0] h K :=
 good_of_W hJ mixed at57 body57 (by kernel_rfl) (Nat.le_of_ble_eq_true rfl) hs
theorem at64 : prog.funcs[64]? = some f64 := by kernel_rfl
theorem body64 : f64.body = some (codeOf f64) := by kernel_rfl
def pl64 : Plans := []
def ct64 : Cuts := .bin (.go) (.bin (.bin (.go) (.bin (.bin (.bin (.go) (.cut (.go))) (.bin (.go) (.bin (.go) (.bin (.go) (.cut (.go)))))) (.go))) (.go))
theorem pok64 : plansOk prog pl64 (codeOf f64) = true := by kernel_rfl
theorem e64 {a0 a1 : Value} : W prog J 54 h.length 64 (codeOf f64) (RG.mk (regs [a0, a1]) []) h (RetQ prog [.tmp 4] h.length K) =
(aBin prog .eql 3 a1 (vint 10) fun v1 =>
cnd v1
(aBin prog .leq 2 (vint 0) a0 fun v2 =>
cnd v2
(aBin prog .lss 2 a0 (vint 100) fun v3 =>
Hold (W prog J 54 h.length 64 (subC [1, 0, 1, 0, 0, 1] (codeOf f64)) (RG.p (RG.p (RG.p (RG.p (RG.p (RG.p (RG.p (RG.p (RG.p (RG.p (RG.mk (regs [a0, a1]) []) 4 (Value.string { data := #[] })) 10 a1) 11 v1) 12 a0) 13 v2) 14 v2) 14 (Value.bool true)) 15 a0) 16 v3) 17 v3) h (contX pl64 prog J 54 h.length 64 ct64 [1, 0, 1, 0, 0, 1] (codeOf f64) [] (RetQ prog [.tmp 4] h.length K))))
(Hold (W prog J 54 h.length 64 (subC [1, 0, 1, 0, 0, 1] (codeOf f64)) (RG.p (RG.p (RG.p (RG.p (RG.p (RG.p (RG.p (RG.p (RG.p (RG.p (RG.mk (regs [a0, a1]) []) 4 (Value.string { data := #[] })) 10 a1) 11 v1) 12 a0) 13 v2) 14 v2) 14 (Value.bool false)) 15 undef) 16 undef) 17 (Value.bool false)) h (contX pl64 prog J 54 h.length 64 ct64 [1, 0, 1, 0, 0, 1] (codeOf f64) [] (RetQ prog [.tmp 4] h.length K)))))
(aConvI .u64 a0 fun v4 =>
aBin prog .lss 2 a0 (vint 0) fun v5 =>
Good prog J 71 [(Value.slice none 0 0), v4, a1, v5, (Value.bool false)] h fun v6 h7 =>
aExt v6 0 fun v8 =>
aExt v6 1 fun v9 =>
retL h.length K [] [v9] h7)) := top_eq pok64 ct64 (by kernel_rfl)
theorem g64 (hJ : Closed prog main J) {a0 a1 : Value} (hs : heapOk h → W prog J 54 h.length 64 (codeOf f64) (RG.mk (regs [a0, a1]) []) h (RetQ prog [.tmp 4] h.length K)) : Good prog J 64 [a0, a1] h K :=
 good_of_W hJ mixed at64 body64 (by kernel_rfl) (Nat.le_of_ble_eq_true rfl) hs
theorem s64_1 {f : RG} : W prog J 54 n0 64 (subC [1, 0, 1, 0, 0, 1] (codeOf f64)) f h (contX pl64 prog J 54 n0 64 ct64 [1, 0, 1, 0, 0, 1] (codeOf f64) [] (RetQ prog [.tmp 4] n0 K)) =
(cnd (f.r 17)
(Good prog J 68 [(f.r 0)] h fun v1 h2 =>
retL n0 K f.ds [v1] h2)
(aAlloc [(Value.int .u8 0), (Value.int .u8 0), (Value.int .u8 0), (Value.int .u8 0), (Value.int .u8 0), (Value.int .u8 0), (Value.int .u8 0), (Value.int .u8 0), (Value.int .u8 0), (Value.int .u8 0), (Value.int .u8 0), (Value.int .u8 0), (Value.int .u8 0), (Value.int .u8 0), (Value.int .u8 0), (Value.int .u8 0), (Value.int .u8 0), (Value.int .u8 0), (Value.int .u8 0), (Value.int .u8 0), (Value.int .u8 0), (Value.int .u8 0), (Value.int .u8 0), (Value.int .u8 0)] h fun v3 h4 =>
aConvI .u64 (f.r 0) fun v5 =>
aBin prog .lss 2 (f.r 0) (vint 0) fun v6 =>
cnd v6
(aUn .neg v5 fun v7 =>
Hold (W prog J 54 n0 64 (subC [1, 0, 1, 0, 1, 1, 1, 1] (codeOf f64)) (RG.p (RG.p (RG.p (RG.p (RG.p (RG.p (RG.p (RG.p (RG.p f 5 v3) 20 (f.r 0)) 21 v5) 6 v5) 22 (f.r 0)) 23 v6) 24 v5) 25 v7) 6 v7) h4 (contX pl64 prog J 54 n0 64 ct64 [1, 0, 1, 0, 1, 1, 1, 1] (codeOf f64) [] (RetQ prog [.tmp 4] n0 K))))
(Hold (W prog J 54 n0 64 (subC [1, 0, 1, 0, 1, 1, 1, 1] (codeOf f64)) (RG.p (RG.p (RG.p (RG.p (RG.p (RG.p f 5 v3) 20 (f.r 0)) 21 v5) 6 v5) 22 (f.r 0)) 23 v6) h4 (contX pl64 prog J 54 n0 64 ct64 [1, 0, 1, 0, 1, 1, 1, 1] (codeOf f64) [] (RetQ prog [.tmp 4] n0 K)))))) := sub_eq pok64 ct64 (by kernel_rfl)
theorem at68 : prog.funcs[68]? = some f68 := by kernel_rfl
theorem body68 : f68.body = some (codeOf f68) := by kernel_rfl
def pl68 : Plans := []
def ct68 : Cuts := .go
theorem pok68 : plansOk prog pl68 (codeOf f68) = true := by kernel_rfl
theorem e68 {a0 : Value} : W prog J 15 h.length 68 (codeOf f68) (RG.mk (regs [a0]) []) h (RetQ prog [.tmp 2] h.length K) =
(aBin prog .lss 3 a0 (vint 10) fun v1 =>
cnd v1
(aBin prog .add 3 a0 (vint 1) fun v2 =>
aSlStr (Value.string { data := #[48, 49, 50, 51, 52, 53, 54, 55, 56, 57, 97, 98, 99, 100, 101, 102, 103, 104, 105, 106, 107, 108, 109, 110, 111, 112, 113, 114, 115, 116, 117, 118, 119, 120, 121, 122] }) (some a0) (some v2) fun v3 =>
retL h.length K [] [v3] h)
(aBin prog .mul 3 a0 (vint 2) fun v4 =>
aBin prog .mul 3 a0 (vint 2) fun v5 =>
aBin prog .add 3 v5 (vint 2) fun v6 =>
aSlStr (Value.string { data := #[48, 48, 48, 49, 48, 50, 48, 51, 48, 52, 48, 53, 48, 54, 48, 55, 48, 56, 48, 57, 49, 48, 49, 49, 49, 50, 49, 51, 49, 52, 49, 53, 49, 54, 49, 55, 49, 56, 49, 57, 50, 48, 50, 49, 50, 50, 50, 51, 50, 52, 50, 53, 50, 54, 50, 55, 50, 56, 50, 57, 51, 48, 51, 49, 51, 50, 51, 51, 51, 52, 51, 53, 51, 54, 51, 55, 51, 56, 51, 57, 52, 48, 52, 49, 52, 50, 52, 51, 52, 52, 52, 53, 52, 54, 52, 55, 52, 56, 52, 57, 53, 48, 53, 49, 53, 50, 53, 51, 53, 52, 53, 53, 53, 54, 53, 55, 53, 56, 53, 57, 54, 48, 54, 49, 54, 50, 54, 51, 54, 52, 54, 53, 54, 54, 54, 55, 54, 56, 54, 57, 55, 48, 55, 49, 55, 50, 55, 51, 55, 52, 55, 53, 55, 54, 55, 55, 55, 56, 55, 57, 56, 48, 56, 49, 56, 50, 56, 51, 56, 52, 56, 53, 56, 54, 56, 55, 56, 56, 56, 57, 57, 48, 57, 49, 57, 50, 57, 51, 57, 52, 57, 53, 57, 54, 57, 55, 57, 56, 57, 57] }) (some v4) (some v6) fun v7 =>
retL h.length K [] [v7] h)) := top_eq pok68 ct68 (by kernel_rfl)
theorem g68 (hJ : Closed prog main J) {a0 : Value} (hs : heapOk h → W prog J 15 h.length 68 (codeOf f68) (RG.mk (regs [a0]) []) h (RetQ prog [.tmp 2] h.length K)) : Good prog J 68 [a0] h K :=
 good_of_W hJ mixed at68 body68 (by kernel_rfl) (Nat.le_of_ble_eq_true rfl) hs
end
section
variable {main : Bool} {J : JT} {n0 : Nat} {h : List AObj} {K : Value → List AObj → Prop}
theorem at56 : prog.funcs[56]? = some f56 := by kernel_rfl
theorem body56 : f56.body = some (codeOf f56) := by kernel_rfl
def pl56 : Plans := [(14, false, .take 0 (.take 1 (.take 2 (.take 3 (.take 4 (.take 5 (.take 6 (.take 7 (.take 8 (.last 9 true (.take 10 (.take 11 (.take 12 (.take 13 (.take 14 (.fin))))))))))))))))]
def ct56 : Cuts := .go
theorem pok56 : plansOk prog pl56 (codeOf f56) = true := by kernel_rfl
theorem e56 {a0 a1 a2 a3 a4 : Value} : W prog J 60 h.length 56 (codeOf f56) (RG.mk (regs [a0, a1, a2, a3, a4]) []) h (RetQ prog [.tmp 10] h.length K) =
(aBox a0 h fun v1 h2 =>
aBox a1 h2 fun v3 h4 =>
aBox a3 h4 fun v5 h6 =>
aBox a4 h6 fun v7 h8 =>
aOff v3 0 fun v9 =>
aLoad false 1 v9 h8 fun v10 =>
((List.length [(vint 0)] = 1 ∧ (8 : Nat) ≤ 1024) ∧ aMkS [(vint 0)] v10 v10 h8 fun v11 h12 =>
aAlloc [(Value.slice none 0 0)] h12 fun v13 h14 =>
aStore 1 v13 v11 h14 fun h15 =>
aLoad false 1 v7 h15 fun v16 =>
Sem J 60 h.length 56 (subC [1, 0, 1, 0, 1, 0] (codeOf f56)) (RG.p (RG.p (RG.p (RG.p (RG.p (RG.p (RG.p (RG.p (RG.p (RG.p (RG.p (RG.mk (regs [a0, a1, a2, a3, a4]) []) 5 v1) 6 v3) 8 v5) 9 v7) 10 (Value.bool false)) 19 v9) 20 v10) 21 v11) 11 v13) 22 v16) 23 (vint 0)) h15 (contX pl56 prog J 60 h.length 56 ct56 [1, 0, 1, 0, 1, 0] (codeOf f56) [] (RetQ prog [.tmp 10] h.length K)))) := top_eq pok56 ct56 (by kernel_rfl)
theorem g56 (hJ : Closed prog main J) {a0 a1 a2 a3 a4 : Value} (hs : heapOk h → W prog J 60 h.length 56 (codeOf f56) (RG.mk (regs [a0, a1, a2, a3, a4]) []) h (RetQ prog [.tmp 10] h.length K)) : Good prog J 56 [a0, a1, a2, a3, a4] h K :=
 good_of_W hJ mixed at56 body56 (by kernel_rfl) (Nat.le_of_ble_eq_true rfl) hs
theorem s56_1 {f : RG} {nx0 : RG → List AObj → Prop} : W prog J 60 n0 56 (subC [1, 0, 1, 0, 1, 0, 0] (codeOf f56)) f h (thenK nx0 (contX pl56 prog J 60 n0 56 ct56 [1, 0, 1, 0, 1, 0] (codeOf f56) [] (RetQ prog [.tmp 10] n0 K))) =
(aBin prog .lss 3 (f.r 23) (f.r 22) fun v1 =>
cnd v1
(aLoad false 1 (f.r 11) h fun v2 =>
aLoad false 1 (f.r 8) h fun v3 =>
aBin prog .add 3 v3 (f.r 23) fun v4 =>
aIdx 1 v2 v4 fun v5 =>
aStore 1 v5 (f.r 2) h fun h6 =>
aBin prog .add 3 (f.r 23) (vint 1) fun v7 =>
nx0 (RG.p (RG.p (RG.p (RG.p (RG.p (RG.p (RG.p (RG.p (RG.p (RG.p (RG.p f 24 v1) 25 (f.r 23)) 12 (f.r 23)) 26 v2) 27 v3) 28 (f.r 23)) 29 v4) 30 (f.r 2)) 31 v5) 32 v7) 23 v7) h6)
(aAlloc [(Value.bool false)] h fun v8 h9 =>
aStore 1 v8 (Value.bool true) h9 fun h10 =>
aLoad true 3 (f.r 6) h10 fun v11 =>
Good prog J 61 [v11] h10 fun v12 h13 =>
Sem J 60 n0 56 (subC [1, 0, 1, 1, 1, 1, 0, 1, 0] (codeOf f56)) (RG.p (RG.p (RG.p (RG.p f 24 v1) 13 v8) 33 v11) 34 v12) h13 (contX pl56 prog J 60 n0 56 ct56 [1, 0, 1, 1, 1, 1, 0, 1, 0] (codeOf f56) [] (RetQ prog [.tmp 10] n0 K)))) := sub_eq pok56 ct56 (by kernel_rfl)
theorem l56_1 (hJ : Closed prog main J) {S : Type} (μ : S → Nat) (I : S → RG → List AObj → Prop) (hI : ∀ s f h, I s f h → heapOk h → n0 ≤ h.length → W prog J 60 n0 56 (subC [1, 0, 1, 0, 1, 0, 0] (codeOf f56)) f h (thenK (Nx n0 μ I s) (contX pl56 prog J 60 n0 56 ct56 [1, 0, 1, 0, 1, 0] (codeOf f56) [] (RetQ prog [.tmp 10] n0 K))))
 {s : S} {f : RG} (hi : Gets n0 I s f h) : Sem J 60 n0 56 (subC [1, 0, 1, 0, 1, 0] (codeOf f56)) f h (contX pl56 prog J 60 n0 56 ct56 [1, 0, 1, 0, 1, 0] (codeOf f56) [] (RetQ prog [.tmp 10] n0 K)) :=
 loop_rule hJ mixed (b := subC [1, 0, 1, 0, 1, 0, 0] (codeOf f56)) (by kernel_rfl) μ I hI hi
theorem a56_2 {f : RG} {fr : FuncId} {Q : QT} : W prog J 60 n0 fr (subC [1, 0, 1, 1, 1, 1, 0, 1, 0, 0] (codeOf f56)) f h Q =
(Q .normal (RG.p f 14 (f.r 35)) h) := sub_eq pok56 ct56 (by kernel_rfl)
theorem b56_2 {f : RG} {fr : FuncId} {Q : QT} : W prog J 60 n0 fr (subC [1, 0, 1, 1, 1, 1, 0, 1, 0, 1] (codeOf f56)) f h Q =
(aLoad true 6 (f.r 5) h fun v1 =>
Good prog J 62 [v1] h fun v2 h3 =>
aLoad false 1 (f.r 8) h3 fun v4 =>
aLoad false 1 (f.r 9) h3 fun v5 =>
aBin prog .add 3 v4 v5 fun v6 =>
Sem J 60 n0 fr (subC [1, 0, 1, 1, 1, 1, 0, 1, 0, 1, 0, 1, 1, 0] (codeOf f56)) (RG.p (RG.p (RG.p (RG.p (RG.p (RG.p (RG.p f 36 v1) 37 v2) 15 v2) 38 v4) 39 v5) 40 v6) 41 (vint 0)) h3 (contX pl56 prog J 60 n0 fr .go [0, 1, 1, 0] (subC [1, 0, 1, 1, 1, 1, 0, 1, 0, 1] (codeOf f56)) [] Q)) := sub_eq pok56 ct56 (by kernel_rfl)
theorem c56_2x2 {f : RG} : (contX pl56 prog J 60 n0 56 ct56 [1, 0, 1, 1, 1, 1, 0, 1, 0] (codeOf f56) [] (RetQ prog [.tmp 10] n0 K)) (.exit 2) f h =
(aLoad false 1 (f.r 13) h fun v1 =>
retL n0 K f.ds [v1] h) := by kernel_rfl
theorem c56_2 {f : RG} : (contX pl56 prog J 60 n0 56 ct56 [1, 0, 1, 1, 1, 1, 0, 1, 0] (codeOf f56) [] (RetQ prog [.tmp 10] n0 K)) .normal f h =
(aLoad false 1 (f.r 13) h fun v1 =>
retL n0 K f.ds [v1] h) := by kernel_rfl
theorem l56_2 (hJ : Closed prog main J) {f : RG} {g : FuncId} {first cap : List Value} (hx : ev f.r ((Go.Operand.tmp 34)) = .func (.func g) ⟨first⟩ ⟨cap⟩) (hg : g < prog.funcs.size)
 (hs : Good prog J g (first ++ [.func (.yield (h.length + 1)) ⟨[]⟩ ⟨[]⟩] ++ cap) (h ++ [.deferred] ++ [.loop .ready none 56 f.r 60 #[35] (subC [1, 0, 1, 1, 1, 1, 0, 1, 0, 0] (codeOf f56)) (subC [1, 0, 1, 1, 1, 1, 0, 1, 0, 1] (codeOf f56)) h.length]) (endQ h.length f (contX pl56 prog J 60 n0 56 ct56 [1, 0, 1, 1, 1, 1, 0, 1, 0] (codeOf f56) [] (RetQ prog [.tmp 10] n0 K)))) (hcall : callable prog g = true := by kernel_rfl) : Sem J 60 n0 56 (subC [1, 0, 1, 1, 1, 1, 0, 1, 0] (codeOf f56)) f h (contX pl56 prog J 60 n0 56 ct56 [1, 0, 1, 1, 1, 1, 0, 1, 0] (codeOf f56) [] (RetQ prog [.tmp 10] n0 K)) :=
 Sem_range hJ (by decide) (fop := (Go.Operand.tmp 34)) (params := #[35]) (assign := subC [1, 0, 1, 1, 1, 1, 0, 1, 0, 0] (codeOf f56)) (body := subC [1, 0, 1, 1, 1, 1, 0, 1, 0, 1] (codeOf f56)) hx hg hs hcall
theorem s56_3 {f : RG} {fr : FuncId} {Q : QT} {nx0 : RG → List AObj → Prop} : W prog J 60 n0 fr (subC [1, 0, 1, 1, 1, 1, 0, 1, 0, 1, 0, 1, 1, 0, 0] (codeOf f56)) f h (thenK nx0 (contX pl56 prog J 60 n0 fr .go [0, 1, 1, 0] (subC [1, 0, 1, 1, 1, 1, 0, 1, 0, 1] (codeOf f56)) [] Q)) =
(aBin prog .lss 3 (f.r 41) (f.r 40) fun v1 =>
cnd v1
((∃ B, aLoad false 1 (f.r 11) h fun v2 =>
RdOk (some B) (ptrBlk (f.r 11)) ∧ (aIdx 1 v2 (f.r 41) fun v3 =>
aLoad false 1 v3 h fun v4 =>
RdOk (some B) (ptrBlk v3) ∧ (aIdxStr (f.r 14) (f.r 41) fun v5 =>
aBin prog .eql 5 v5 (Value.int .u8 119) fun v6 =>
Good prog J 63 [(f.r 15), v4, v6] h fun v7 h8 =>
SameB (some B) h h8 ∧ (aExt v7 0 fun v9 =>
aExt v7 1 fun v10 =>
cnd v9
(aStore 1 (f.r 13) (Value.bool false) h8 fun h11 =>
Q (.exit 2) (RG.p (RG.p (RG.p (RG.p (RG.p (RG.p (RG.p (RG.p (RG.p (RG.p (RG.p (RG.p (RG.p (RG.p (RG.p (RG.p (RG.p (RG.p (RG.p f 42 v1) 43 (f.r 41)) 16 (f.r 41)) 45 (f.r 15)) 46 v2) 47 (f.r 41)) 48 v3) 49 v4) 50 (f.r 14)) 51 (f.r 41)) 52 v5) 53 v6) 54 v7) 44 v7) 55 v9) 56 v10) 17 v9) 18 v10) 57 v9) h11)
(aBin prog .add 3 (f.r 41) (vint 1) fun v12 =>
nx0 (RG.p (RG.p (RG.p (RG.p (RG.p (RG.p (RG.p (RG.p (RG.p (RG.p (RG.p (RG.p (RG.p (RG.p (RG.p (RG.p (RG.p (RG.p (RG.p (RG.p (RG.p f 42 v1) 43 (f.r 41)) 16 (f.r 41)) 45 (f.r 15)) 46 v2) 47 (f.r 41)) 48 v3) 49 v4) 50 (f.r 14)) 51 (f.r 41)) 52 v5) 53 v6) 54 v7) 44 v7) 55 v9) 56 v10) 17 v9) 18 v10) 57 v9) 58 v12) 41 v12) h8))))))
(Q .normal (RG.p f 42 v1) h)) := sub_eq pok56 ct56 (by kernel_rfl)
theorem l56_3 (hJ : Closed prog main J) {fr : FuncId} {Q : QT} {S : Type} (μ : S → Nat) (I : S → RG → List AObj → Prop) (hI : ∀ s f h, I s f h → heapOk h → n0 ≤ h.length → W prog J 60 n0 fr (subC [1, 0, 1, 1, 1, 1, 0, 1, 0, 1, 0, 1, 1, 0, 0] (codeOf f56)) f h (thenK (Nx n0 μ I s) (contX pl56 prog J 60 n0 fr .go [0, 1, 1, 0] (subC [1, 0, 1, 1, 1, 1, 0, 1, 0, 1] (codeOf f56)) [] Q)))
 {s : S} {f : RG} (hi : Gets n0 I s f h) : Sem J 60 n0 fr (subC [1, 0, 1, 1, 1, 1, 0, 1, 0, 1, 0, 1, 1, 0] (codeOf f56)) f h (contX pl56 prog J 60 n0 fr .go [0, 1, 1, 0] (subC [1, 0, 1, 1, 1, 1, 0, 1, 0, 1] (codeOf f56)) [] Q) :=
 loop_rule hJ mixed (b := subC [1, 0, 1, 1, 1, 1, 0, 1, 0, 1, 0, 1, 1, 0, 0] (codeOf f56)) (by kernel_rfl) μ I hI hi
theorem at42 : prog.funcs[42]? = some f42 := by kernel_rfl
theorem body42 : f42.body = some (codeOf f42) := by kernel_rfl
def pl42 : Plans := [(1, false, .take 0 (.take 2 (.last 1 true (.last 3 true (.last 4 true (.last 5 true (.take 6 (.fin))))))))]
def ct42 : Cuts := .bin (.go) (.bin (.go) (.bin (.go) (.bin (.go) (.bin (.go) (.bin (.un (.un (.bin (.bin (.go) (.cut (.go))) (.go)))) (.go))))))
theorem pok42 : plansOk prog pl42 (codeOf f42) = true := by kernel_rfl
theorem e42 {a0 a1 a2 a3 : Value} : W prog J 48 h.length 42 (codeOf f42) (RG.mk (regs [a0, a1, a2, a3]) []) h (RetQ prog [.tmp 8, .tmp 9] h.length K) =
(aBox a0 h fun v1 h2 =>
aBox a1 h2 fun v3 h4 =>
(∃ B, aLoad true 6 v1 h4 fun v5 =>
RdOk (some B) (ptrBlk v1) ∧ (aLoad true 3 v3 h4 fun v6 =>
RdOk (some B) (ptrBlk v3) ∧ (Good prog J 53 [v5] h4 fun v7 h8 =>
SameB (some B) h4 h8 ∧ (Good prog J 54 [v6] h8 fun v9 h10 =>
SameB (some B) h4 h10 ∧ ((((2 * 1 : Nat) ≤ 16777216 ∧ (2 : Nat) ≤ 16777216 ∧ List.length [(vint 0)] = 1) ∧ aFill (zrep [(vint 0)] 2) [(0, 1, v7), (1, 1, v9)] fun c11 =>
aNewS 2 c11 h10 fun v12 h13 =>
SameB (some B) h4 h13 ∧ (Good prog J 52 [v12] h13 fun v14 h15 =>
SameB (some B) h4 h15 ∧ (aBin prog .neq 31 v14 (vint 0) fun v16 =>
cnd v16
(retL h.length K [] [(vint 0), v14] h15)
(aOff v3 0 fun v17 =>
aLoad false 1 v17 h15 fun v18 =>
aBin prog .sub 3 v18 (vint 1) fun v19 =>
Good prog J 55 [a2, (vint 0), v19] h15 fun v20 h21 =>
aUn .not v20 fun v22 =>
cnd v22
(retL h.length K [] [(vint 0), (vint 3)] h21)
(aOff v3 0 fun v23 =>
aLoad false 1 v23 h21 fun v24 =>
aBin prog .sub 3 v24 a2 fun v25 =>
Good prog J 55 [a3, (vint 1), v25] h21 fun v26 h27 =>
aUn .not v26 fun v28 =>
cnd v28
(retL h.length K [] [(vint 0), (vint 1)] h27)
(Sem J 48 h.length 42 (subC [1, 1, 1, 1, 1, 0, 0] (codeOf f42)) (RG.p (RG.p (RG.p (RG.p (RG.p (RG.p (RG.p (RG.p (RG.p (RG.p (RG.p (RG.p (RG.p (RG.p (RG.p (RG.p (RG.p (RG.p (RG.p (RG.p (RG.p (RG.p (RG.p (RG.p (RG.p (RG.p (RG.p (RG.mk (regs [a0, a1, a2, a3]) []) 4 v1) 5 v3) 8 (vint 0)) 9 (vint 0)) 12 v5) 14 v6) 13 v7) 15 v9) 16 v12) 17 v14) 10 v14) 18 v14) 19 v16) 21 a2) 22 v17) 23 v18) 24 v19) 25 v20) 26 v22) 27 a3) 28 v23) 29 v24) 30 a2) 31 v25) 32 v26) 33 v28) 11 (vint 40)) h27 (contX pl42 prog J 48 h.length 42 ct42 [1, 1, 1, 1, 1, 0, 0] (codeOf f42) [] (RetQ prog [.tmp 8, .tmp 9] h.length K)))))))))))))) := top_eq pok42 ct42 (by kernel_rfl)
theorem g42 (hJ : Closed prog main J) {a0 a1 a2 a3 : Value} (hs : heapOk h → W prog J 48 h.length 42 (codeOf f42) (RG.mk (regs [a0, a1, a2, a3]) []) h (RetQ prog [.tmp 8, .tmp 9] h.length K)) : Good prog J 42 [a0, a1, a2, a3] h K :=
 good_of_W hJ mixed at42 body42 (by kernel_rfl) (Nat.le_of_ble_eq_true rfl) hs
theorem s42_1 {f : RG} {nx0 : RG → List AObj → Prop} : W prog J 48 n0 42 (subC [1, 1, 1, 1, 1, 0, 0, 0] (codeOf f42)) f h (thenK nx0 (contX pl42 prog J 48 n0 42 ct42 [1, 1, 1, 1, 1, 0, 0] (codeOf f42) [] (RetQ prog [.tmp 8, .tmp 9] n0 K))) =
(aBin prog .gtr 3 (f.r 11) (vint 0) fun v1 =>
cnd v1
(aLoad true 6 (f.r 4) h fun v2 =>
aLoad true 3 (f.r 5) h fun v3 =>
Good prog J 56 [v2, v3, (f.r 11), (f.r 2), (f.r 3)] h fun v4 h5 =>
aUn .not v4 fun v6 =>
Hold (W prog J 48 n0 42 (subC [1, 1, 1, 1, 1, 0, 0, 0, 0, 1] (codeOf f42)) (RG.p (RG.p (RG.p (RG.p (RG.p (RG.p (RG.p (RG.p (RG.p (RG.p (RG.p (RG.p f 34 (f.r 11)) 35 v1) 36 v1) 36 (Value.bool true)) 37 v2) 38 v3) 39 (f.r 11)) 40 (f.r 2)) 41 (f.r 3)) 42 v4) 43 v6) 44 v6) h5 (contX pl42 prog J 48 n0 42 ct42 [1, 1, 1, 1, 1, 0, 0, 0, 0, 1] (codeOf f42) [nx0] (RetQ prog [.tmp 8, .tmp 9] n0 K))))
(Hold (W prog J 48 n0 42 (subC [1, 1, 1, 1, 1, 0, 0, 0, 0, 1] (codeOf f42)) (RG.p (RG.p (RG.p (RG.p (RG.p (RG.p (RG.p (RG.p (RG.p (RG.p (RG.p (RG.p f 34 (f.r 11)) 35 v1) 36 v1) 36 (Value.bool false)) 37 undef) 38 undef) 39 undef) 40 undef) 41 undef) 42 undef) 43 undef) 44 (Value.bool false)) h (contX pl42 prog J 48 n0 42 ct42 [1, 1, 1, 1, 1, 0, 0, 0, 0, 1] (codeOf f42) [nx0] (RetQ prog [.tmp 8, .tmp 9] n0 K))))) := sub_eq pok42 ct42 (by kernel_rfl)
theorem l42_1 (hJ : Closed prog main J) {S : Type} (μ : S → Nat) (I : S → RG → List AObj → Prop) (hI : ∀ s f h, I s f h → heapOk h → n0 ≤ h.length → W prog J 48 n0 42 (subC [1, 1, 1, 1, 1, 0, 0, 0] (codeOf f42)) f h (thenK (Nx n0 μ I s) (contX pl42 prog J 48 n0 42 ct42 [1, 1, 1, 1, 1, 0, 0] (codeOf f42) [] (RetQ prog [.tmp 8, .tmp 9] n0 K))))
 {s : S} {f : RG} (hi : Gets n0 I s f h) : Sem J 48 n0 42 (subC [1, 1, 1, 1, 1, 0, 0] (codeOf f42)) f h (contX pl42 prog J 48 n0 42 ct42 [1, 1, 1, 1, 1, 0, 0] (codeOf f42) [] (RetQ prog [.tmp 8, .tmp 9] n0 K)) :=
 loop_rule hJ mixed (b := subC [1, 1, 1, 1, 1, 0, 0, 0] (codeOf f42)) (by kernel_rfl) μ I hI hi
theorem s42_2 {f : RG} {nx0 : RG → List AObj → Prop} : W prog J 48 n0 42 (subC [1, 1, 1, 1, 1, 0, 0, 0, 0, 1] (codeOf f42)) f h (contX pl42 prog J 48 n0 42 ct42 [1, 1, 1, 1, 1, 0, 0, 0, 0, 1] (codeOf f42) [nx0] (RetQ prog [.tmp 8, .tmp 9] n0 K)) =
(cnd (f.r 44)
(aBin prog .sub 3 (f.r 11) (vint 1) fun v1 =>
nx0 (RG.p (RG.p (RG.p f 45 (f.r 11)) 46 v1) 11 v1) h)
(retL n0 K f.ds [(f.r 11), (vint 0)] h)) := sub_eq pok42 ct42 (by kernel_rfl)
end
section
variable {main : Bool} {J : JT} {n0 : Nat} {h : List AObj} {K : Value → List AObj → Prop}
theorem at61 : prog.funcs[61]? = some f61 := by kernel_rfl
theorem body61 : f61.body = some (codeOf f61) := by kernel_rfl
def pl61 : Plans := []
def ct61 : Cuts := .go
theorem pok61 : plansOk prog pl61 (codeOf f61) = true := by kernel_rfl
theorem e61 {a0 : Value} : W prog J 4 h.length 61 (codeOf f61) (RG.mk (regs [a0]) []) h (RetQ prog [.tmp 2] h.length K) =
(aBox a0 h fun v1 h2 =>
aMkF 65 [] [v1] fun v3 =>
retL h.length K [] [v3] h2) := top_eq pok61 ct61 (by kernel_rfl)
theorem g61 (hJ : Closed prog main J) {a0 : Value} (hs : heapOk h → W prog J 4 h.length 61 (codeOf f61) (RG.mk (regs [a0]) []) h (RetQ prog [.tmp 2] h.length K)) : Good prog J 61 [a0] h K :=
 good_of_W hJ mixed at61 body61 (by kernel_rfl) (Nat.le_of_ble_eq_true rfl) hs
theorem at65 : prog.funcs[65]? = some f65 := by kernel_rfl
theorem body65 : f65.body = some (codeOf f65) := by kernel_rfl
def pl65 : Plans := [(3, false, .take 0 (.take 1 (.take 2 (.take 4 (.last 3 true (.last 5 true (.fin)))))))]
def ct65 : Cuts := .go
theorem pok65 : plansOk prog pl65 (codeOf f65) = true := by kernel_rfl
theorem e65 {a0 a1 : Value} : W prog J 11 h.length 65 (codeOf f65) (RG.mk (regs [a0, a1]) []) h (RetQ prog [] h.length K) =
(aBox a0 h fun v1 h2 =>
aAlloc [(Value.nilFunc)] h2 fun v3 h4 =>
aMkF 66 [] [a1, v1, v3] fun v5 =>
aStore 1 v3 v5 h4 fun h6 =>
(∃ B, aLoad false 1 v3 h6 fun v7 =>
RdOk (some B) (ptrBlk v3) ∧ (aOff a1 0 fun v8 =>
aLoad false 1 v8 h6 fun v9 =>
RdOk (some B) (ptrBlk v8) ∧ (aFill [(Value.int .u8 0), (vint 0)] [] fun c10 =>
((List.length [(Value.int .u8 0)] = 1 ∧ (1 : Nat) ≤ 1024) ∧ aMkS [(Value.int .u8 0)] (vint 0) v9 h6 fun v11 h12 =>
SameB (some B) h6 h12 ∧ (callV prog (Good prog J) v7 [v11, (Value.agg ⟨c10⟩)] h12 fun v13 h14 =>
SameB (some B) h6 h14 ∧ (retL h.length K [] [] h14))))))) := top_eq pok65 ct65 (by kernel_rfl)
theorem g65 (hJ : Closed prog main J) {a0 a1 : Value} (hs : heapOk h → W prog J 11 h.length 65 (codeOf f65) (RG.mk (regs [a0, a1]) []) h (RetQ prog [] h.length K)) : Good prog J 65 [a0, a1] h K :=
 good_of_W hJ mixed at65 body65 (by kernel_rfl) (Nat.le_of_ble_eq_true rfl) hs
theorem at66 : prog.funcs[66]? = some f66 := by kernel_rfl
theorem body66 : f66.body = some (codeOf f66) := by kernel_rfl
def pl66 : Plans := [(7, false, .take 0 (.take 1 (.take 2 (.take 3 (.take 4 (.take 7 (.last 5 true (.last 6 true (.last 8 false (.take 9 (.take 10 (.fin))))))))))))]
def ct66 : Cuts := .bin (.go) (.bin (.go) (.bin (.bin (.go) (.un (.un (.bin (.go) (.bin (.go) (.bin (.un (.bin (.go) (.bin (.go) (.bin (.go) (.cut (.go)))))) (.go))))))) (.go)))
theorem pok66 : plansOk prog pl66 (codeOf f66) = true := by kernel_rfl
theorem e66 {a0 a1 a2 a3 a4 : Value} : W prog J 44 h.length 66 (codeOf f66) (RG.mk (regs [a0, a1, a2, a3, a4]) []) h (RetQ prog [.tmp 7] h.length K) =
(aBox a1 h fun v1 h2 =>
aLenS a0 fun v3 =>
aOff a2 0 fun v4 =>
aLoad false 1 v4 h2 fun v5 =>
aBin prog .eql 3 v3 v5 fun v6 =>
cnd v6
(aLoad false 1 a3 h2 fun v7 =>
aB2S a0 h2 fun v8 =>
callV prog (Good prog J) v7 [v8] h2 fun v9 h10 =>
retL h.length K [] [v9] h10)
(aFill [(Value.int .u8 0), (Value.int .u8 0)] [(0, 1, (Value.int .u8 100)), (1, 1, (Value.int .u8 119))] fun c11 =>
Sem J 44 h.length 66 (subC [1, 1, 0, 1, 0] (codeOf f66)) (RG.p (RG.p (RG.p (RG.p (RG.p (RG.p (RG.p (RG.p (RG.p (RG.mk (regs [a0, a1, a2, a3, a4]) []) 6 v1) 7 (Value.bool false)) 12 a0) 13 v3) 14 v4) 15 v5) 16 v6) 21 (Value.agg ⟨c11⟩)) 22 (vint 0)) h2 (contX pl66 prog J 44 h.length 66 ct66 [1, 1, 0, 1, 0] (codeOf f66) [] (RetQ prog [.tmp 7] h.length K)))) := top_eq pok66 ct66 (by kernel_rfl)
theorem g66 (hJ : Closed prog main J) {a0 a1 a2 a3 a4 : Value} (hs : heapOk h → W prog J 44 h.length 66 (codeOf f66) (RG.mk (regs [a0, a1, a2, a3, a4]) []) h (RetQ prog [.tmp 7] h.length K)) : Good prog J 66 [a0, a1, a2, a3, a4] h K :=
 good_of_W hJ mixed at66 body66 (by kernel_rfl) (Nat.le_of_ble_eq_true rfl) hs
theorem s66_1 {f : RG} {nx0 : RG → List AObj → Prop} : W prog J 44 n0 66 (subC [1, 1, 0, 1, 0, 0] (codeOf f66)) f h (thenK nx0 (contX pl66 prog J 44 n0 66 ct66 [1, 1, 0, 1, 0] (codeOf f66) [] (RetQ prog [.tmp 7] n0 K))) =
(aBin prog .lss 3 (f.r 22) (vint 2) fun v1 =>
cnd v1
(aIdxV 2 1 false (f.r 21) (f.r 22) fun v2 =>
aLoad true 2 (f.r 6) h fun v3 =>
aLoad true 3 (f.r 2) h fun v4 =>
Good prog J 67 [v3, v4, v2] h fun v5 h6 =>
aExt v5 0 fun v7 =>
aExt v5 1 fun v8 =>
aAlloc [(Value.int .u8 0), (vint 0)] h6 fun v9 h10 =>
aStore 2 v9 v7 h10 fun h11 =>
(∃ B, cnd v8
(aLoad false 1 (f.r 4) h11 fun v12 =>
RdOk (some B) (ptrBlk (f.r 4)) ∧ (aLoad true 2 v9 h11 fun v13 =>
RdOk (some B) (ptrBlk v9) ∧ ((((1 * 1 : Nat) ≤ 16777216 ∧ (1 : Nat) ≤ 16777216 ∧ List.length [(Value.int .u8 0)] = 1) ∧ aFill (zrep [(Value.int .u8 0)] 1) [(0, 1, v2)] fun c14 =>
aNewS 1 c14 h11 fun v15 h16 =>
SameB (some B) h11 h16 ∧ (((List.length [(Value.int .u8 0)] = 1 ∧ 0 < (1 : Nat) ∧ 0 < (1 : Nat) ∧ (1 : Nat) ≤ 1024) ∧ aApp 1 (f.r 0) v15 h16 fun v17 h18 =>
SameB (some B) h11 h18 ∧ (callV prog (Good prog J) v12 [v17, v13] h18 fun v19 h20 =>
aUn .not v19 fun v21 =>
Hold (W prog J 44 n0 66 (subC [1, 1, 0, 1, 0, 0, 1, 1, 0, 0, 1, 1, 1] (codeOf f66)) (RG.p (RG.p (RG.p (RG.p (RG.p (RG.p (RG.p (RG.p (RG.p (RG.p (RG.p (RG.p (RG.p (RG.p (RG.p (RG.p (RG.p (RG.p (RG.p (RG.p (RG.p (RG.p (RG.p (RG.p f 23 v1) 24 v2) 9 v2) 26 v3) 27 v4) 28 v2) 29 v5) 25 v5) 30 v7) 31 v8) 10 v9) 11 v8) 32 v8) 33 v8) 33 (Value.bool true)) 34 v12) 35 (f.r 0)) 36 v2) 39 v13) 37 v15) 38 v17) 40 v19) 41 v21) 42 v21) h20 (contX pl66 prog J 44 n0 66 ct66 [1, 1, 0, 1, 0, 0, 1, 1, 0, 0, 1, 1, 1] (codeOf f66) [nx0] (RetQ prog [.tmp 7] n0 K))))))))))
(Hold (W prog J 44 n0 66 (subC [1, 1, 0, 1, 0, 0, 1, 1, 0, 0, 1, 1, 1] (codeOf f66)) (RG.p (RG.p (RG.p (RG.p (RG.p (RG.p (RG.p (RG.p (RG.p (RG.p (RG.p (RG.p (RG.p (RG.p (RG.p (RG.p (RG.p (RG.p (RG.p (RG.p (RG.p (RG.p (RG.p (RG.p f 23 v1) 24 v2) 9 v2) 26 v3) 27 v4) 28 v2) 29 v5) 25 v5) 30 v7) 31 v8) 10 v9) 11 v8) 32 v8) 33 v8) 33 (Value.bool false)) 34 undef) 35 undef) 36 undef) 39 undef) 37 undef) 38 undef) 40 undef) 41 undef) 42 (Value.bool false)) h11 (contX pl66 prog J 44 n0 66 ct66 [1, 1, 0, 1, 0, 0, 1, 1, 0, 0, 1, 1, 1] (codeOf f66) [nx0] (RetQ prog [.tmp 7] n0 K))))))
(retL n0 K f.ds [(Value.bool true)] h)) := sub_eq pok66 ct66 (by kernel_rfl)
theorem l66_1 (hJ : Closed prog main J) {S : Type} (μ : S → Nat) (I : S → RG → List AObj → Prop) (hI : ∀ s f h, I s f h → heapOk h → n0 ≤ h.length → W prog J 44 n0 66 (subC [1, 1, 0, 1, 0, 0] (codeOf f66)) f h (thenK (Nx n0 μ I s) (contX pl66 prog J 44 n0 66 ct66 [1, 1, 0, 1, 0] (codeOf f66) [] (RetQ prog [.tmp 7] n0 K))))
 {s : S} {f : RG} (hi : Gets n0 I s f h) : Sem J 44 n0 66 (subC [1, 1, 0, 1, 0] (codeOf f66)) f h (contX pl66 prog J 44 n0 66 ct66 [1, 1, 0, 1, 0] (codeOf f66) [] (RetQ prog [.tmp 7] n0 K)) :=
 loop_rule hJ mixed (b := subC [1, 1, 0, 1, 0, 0] (codeOf f66)) (by kernel_rfl) μ I hI hi
theorem s66_2 {f : RG} {nx0 : RG → List AObj → Prop} : W prog J 44 n0 66 (subC [1, 1, 0, 1, 0, 0, 1, 1, 0, 0, 1, 1, 1] (codeOf f66)) f h (contX pl66 prog J 44 n0 66 ct66 [1, 1, 0, 1, 0, 0, 1, 1, 0, 0, 1, 1, 1] (codeOf f66) [nx0] (RetQ prog [.tmp 7] n0 K)) =
(cnd (f.r 42)
(retL n0 K f.ds [(Value.bool false)] h)
(aBin prog .add 3 (f.r 22) (vint 1) fun v1 =>
nx0 (RG.p (RG.p f 43 v1) 22 v1) h)) := sub_eq pok66 ct66 (by kernel_rfl)
end
section
variable {main : Bool} {J : JT} {n0 : Nat} {h : List AObj} {K : Value → List AObj → Prop}
theorem at55 : prog.funcs[55]? = some f55 := by kernel_rfl
theorem body55 : f55.body = some (codeOf f55) := by kernel_rfl
def pl55 : Plans := []
def ct55 : Cuts := .go
theorem pok55 : plansOk prog pl55 (codeOf f55) = true := by kernel_rfl
theorem e55 {a0 a1 a2 : Value} : W prog J 15 h.length 55 (codeOf f55) (RG.mk (regs [a0, a1, a2]) []) h (RetQ prog [.tmp 6] h.length K) =
(aBin prog .leq 3 a1 a0 fun v1 =>
cnd v1
(aBin prog .leq 3 a0 a2 fun v2 =>
retL h.length K [] [v2] h)
(retL h.length K [] [(Value.bool false)] h)) := top_eq pok55 ct55 (by kernel_rfl)
theorem g55 (hJ : Closed prog main J) {a0 a1 a2 : Value} (hs : heapOk h → W prog J 15 h.length 55 (codeOf f55) (RG.mk (regs [a0, a1, a2]) []) h (RetQ prog [.tmp 6] h.length K)) : Good prog J 55 [a0, a1, a2] h K :=
 good_of_W hJ mixed at55 body55 (by kernel_rfl) (Nat.le_of_ble_eq_true rfl) hs
theorem at53 : prog.funcs[53]? = some f53 := by kernel_rfl
theorem body53 : f53.body = some (codeOf f53) := by kernel_rfl
def pl53 : Plans := []
def ct53 : Cuts := .bin (.go) (.bin (.bin (.go) (.cut (.go))) (.go))
theorem pok53 : plansOk prog pl53 (codeOf f53) = true := by kernel_rfl
theorem e53 {a0 : Value} : W prog J 37 h.length 53 (codeOf f53) (RG.mk (regs [a0]) []) h (RetQ prog [.tmp 2] h.length K) =
(aBox a0 h fun v1 h2 =>
aOff v1 1 fun v3 =>
aLoad false 1 v3 h2 fun v4 =>
Good prog J 55 [v4, (vint 1), (vint 99)] h2 fun v5 h6 =>
cnd v5
(aOff v1 0 fun v7 =>
aLoad false 1 v7 h6 fun v8 =>
aOff v1 1 fun v9 =>
aLoad false 1 v9 h6 fun v10 =>
Good prog J 55 [v8, (vint 0), v10] h6 fun v11 h12 =>
cnd v11
(aOff v1 2 fun v13 =>
aLoad false 1 v13 h12 fun v14 =>
Good prog J 55 [v14, (vint 0), (vint 9)] h12 fun v15 h16 =>
cnd v15
(aOff v1 3 fun v17 =>
aLoad false 1 v17 h16 fun v18 =>
aOff v1 2 fun v19 =>
aLoad false 1 v19 h16 fun v20 =>
Good prog J 55 [v18, v20, (vint 9)] h16 fun v21 h22 =>
cnd v21
(aOff v1 4 fun v23 =>
aLoad false 1 v23 h22 fun v24 =>
aOff v1 1 fun v25 =>
aLoad false 1 v25 h22 fun v26 =>
Good prog J 55 [v24, (vint 0), v26] h22 fun v27 h28 =>
cnd v27
(aOff v1 5 fun v29 =>
aLoad false 1 v29 h28 fun v30 =>
Good prog J 55 [v30, (vint 0), (vint 5)] h28 fun v31 h32 =>
Hold (W prog J 37 h.length 53 (subC [1, 0, 1] (codeOf f53)) (RG.p (RG.p (RG.p (RG.p (RG.p (RG.p (RG.p (RG.p (RG.p (RG.p (RG.p (RG.p (RG.p (RG.p (RG.p (RG.p (RG.p (RG.p (RG.p (RG.p (RG.p (RG.p (RG.p (RG.p (RG.p (RG.p (RG.p (RG.p (RG.p (RG.p (RG.p (RG.p (RG.p (RG.p (RG.p (RG.p (RG.p (RG.p (RG.p (RG.p (RG.p (RG.mk (regs [a0]) []) 1 v1) 2 (vint 0)) 3 v3) 4 v4) 5 v5) 6 v5) 6 (Value.bool true)) 7 v7) 8 v8) 9 v9) 10 v10) 11 v11) 12 v11) 13 v11) 13 (Value.bool true)) 14 v13) 15 v14) 16 v15) 17 v15) 18 v15) 18 (Value.bool true)) 19 v17) 20 v18) 21 v19) 22 v20) 23 v21) 24 v21) 25 v21) 25 (Value.bool true)) 26 v23) 27 v24) 28 v25) 29 v26) 30 v27) 31 v27) 32 v27) 32 (Value.bool true)) 33 v29) 34 v30) 35 v31) 36 v31) h32 (contX pl53 prog J 37 h.length 53 ct53 [1, 0, 1] (codeOf f53) [] (RetQ prog [.tmp 2] h.length K))))
(Hold (W prog J 37 h.length 53 (subC [1, 0, 1] (codeOf f53)) (RG.p (RG.p (RG.p (RG.p (RG.p (RG.p (RG.p (RG.p (RG.p (RG.p (RG.p (RG.p (RG.p (RG.p (RG.p (RG.p (RG.p (RG.p (RG.p (RG.p (RG.p (RG.p (RG.p (RG.p (RG.p (RG.p (RG.p (RG.p (RG.p (RG.p (RG.p (RG.p (RG.p (RG.p (RG.p (RG.p (RG.p (RG.p (RG.p (RG.p (RG.p (RG.mk (regs [a0]) []) 1 v1) 2 (vint 0)) 3 v3) 4 v4) 5 v5) 6 v5) 6 (Value.bool true)) 7 v7) 8 v8) 9 v9) 10 v10) 11 v11) 12 v11) 13 v11) 13 (Value.bool true)) 14 v13) 15 v14) 16 v15) 17 v15) 18 v15) 18 (Value.bool true)) 19 v17) 20 v18) 21 v19) 22 v20) 23 v21) 24 v21) 25 v21) 25 (Value.bool true)) 26 v23) 27 v24) 28 v25) 29 v26) 30 v27) 31 v27) 32 v27) 32 (Value.bool false)) 33 undef) 34 undef) 35 undef) 36 (Value.bool false)) h28 (contX pl53 prog J 37 h.length 53 ct53 [1, 0, 1] (codeOf f53) [] (RetQ prog [.tmp 2] h.length K)))))
(Hold (W prog J 37 h.length 53 (subC [1, 0, 1] (codeOf f53)) (RG.p (RG.p (RG.p (RG.p (RG.p (RG.p (RG.p (RG.p (RG.p (RG.p (RG.p (RG.p (RG.p (RG.p (RG.p (RG.p (RG.p (RG.p (RG.p (RG.p (RG.p (RG.p (RG.p (RG.p (RG.p (RG.p (RG.p (RG.p (RG.p (RG.p (RG.p (RG.p (RG.p (RG.p (RG.p (RG.p (RG.p (RG.p (RG.p (RG.p (RG.p (RG.mk (regs [a0]) []) 1 v1) 2 (vint 0)) 3 v3) 4 v4) 5 v5) 6 v5) 6 (Value.bool true)) 7 v7) 8 v8) 9 v9) 10 v10) 11 v11) 12 v11) 13 v11) 13 (Value.bool true)) 14 v13) 15 v14) 16 v15) 17 v15) 18 v15) 18 (Value.bool true)) 19 v17) 20 v18) 21 v19) 22 v20) 23 v21) 24 v21) 25 v21) 25 (Value.bool false)) 26 undef) 27 undef) 28 undef) 29 undef) 30 undef) 31 (Value.bool false)) 32 (Value.bool false)) 32 (Value.bool false)) 33 undef) 34 undef) 35 undef) 36 (Value.bool false)) h22 (contX pl53 prog J 37 h.length 53 ct53 [1, 0, 1] (codeOf f53) [] (RetQ prog [.tmp 2] h.length K)))))
(Hold (W prog J 37 h.length 53 (subC [1, 0, 1] (codeOf f53)) (RG.p (RG.p (RG.p (RG.p (RG.p (RG.p (RG.p (RG.p (RG.p (RG.p (RG.p (RG.p (RG.p (RG.p (RG.p (RG.p (RG.p (RG.p (RG.p (RG.p (RG.p (RG.p (RG.p (RG.p (RG.p (RG.p (RG.p (RG.p (RG.p (RG.p (RG.p (RG.p (RG.p (RG.p (RG.p (RG.p (RG.p (RG.p (RG.p (RG.p (RG.p (RG.mk (regs [a0]) []) 1 v1) 2 (vint 0)) 3 v3) 4 v4) 5 v5) 6 v5) 6 (Value.bool true)) 7 v7) 8 v8) 9 v9) 10 v10) 11 v11) 12 v11) 13 v11) 13 (Value.bool true)) 14 v13) 15 v14) 16 v15) 17 v15) 18 v15) 18 (Value.bool false)) 19 undef) 20 undef) 21 undef) 22 undef) 23 undef) 24 (Value.bool false)) 25 (Value.bool false)) 25 (Value.bool false)) 26 undef) 27 undef) 28 undef) 29 undef) 30 undef) 31 (Value.bool false)) 32 (Value.bool false)) 32 (Value.bool false)) 33 undef) 34 undef) 35 undef) 36 (Value.bool false)) h16 (contX pl53 prog J 37 h.length 53 ct53 [1, 0, 1] (codeOf f53) [] (RetQ prog [.tmp 2] h.length K)))))
(Hold (W prog J 37 h.length 53 (subC [1, 0, 1] (codeOf f53)) (RG.p (RG.p (RG.p (RG.p (RG.p (RG.p (RG.p (RG.p (RG.p (RG.p (RG.p (RG.p (RG.p (RG.p (RG.p (RG.p (RG.p (RG.p (RG.p (RG.p (RG.p (RG.p (RG.p (RG.p (RG.p (RG.p (RG.p (RG.p (RG.p (RG.p (RG.p (RG.p (RG.p (RG.p (RG.p (RG.p (RG.p (RG.p (RG.p (RG.p (RG.p (RG.mk (regs [a0]) []) 1 v1) 2 (vint 0)) 3 v3) 4 v4) 5 v5) 6 v5) 6 (Value.bool true)) 7 v7) 8 v8) 9 v9) 10 v10) 11 v11) 12 v11) 13 v11) 13 (Value.bool false)) 14 undef) 15 undef) 16 undef) 17 (Value.bool false)) 18 (Value.bool false)) 18 (Value.bool false)) 19 undef) 20 undef) 21 undef) 22 undef) 23 undef) 24 (Value.bool false)) 25 (Value.bool false)) 25 (Value.bool false)) 26 undef) 27 undef) 28 undef) 29 undef) 30 undef) 31 (Value.bool false)) 32 (Value.bool false)) 32 (Value.bool false)) 33 undef) 34 undef) 35 undef) 36 (Value.bool false)) h12 (contX pl53 prog J 37 h.length 53 ct53 [1, 0, 1] (codeOf f53) [] (RetQ prog [.tmp 2] h.length K)))))
(Hold (W prog J 37 h.length 53 (subC [1, 0, 1] (codeOf f53)) (RG.p (RG.p (RG.p (RG.p (RG.p (RG.p (RG.p (RG.p (RG.p (RG.p (RG.p (RG.p (RG.p (RG.p (RG.p (RG.p (RG.p (RG.p (RG.p (RG.p (RG.p (RG.p (RG.p (RG.p (RG.p (RG.p (RG.p (RG.p (RG.p (RG.p (RG.p (RG.p (RG.p (RG.p (RG.p (RG.p (RG.p (RG.p (RG.p (RG.p (RG.p (RG.mk (regs [a0]) []) 1 v1) 2 (vint 0)) 3 v3) 4 v4) 5 v5) 6 v5) 6 (Value.bool false)) 7 undef) 8 undef) 9 undef) 10 undef) 11 undef) 12 (Value.bool false)) 13 (Value.bool false)) 13 (Value.bool false)) 14 undef) 15 undef) 16 undef) 17 (Value.bool false)) 18 (Value.bool false)) 18 (Value.bool false)) 19 undef) 20 undef) 21 undef) 22 undef) 23 undef) 24 (Value.bool false)) 25 (Value.bool false)) 25 (Value.bool false)) 26 undef) 27 undef) 28 undef) 29 undef) 30 undef) 31 (Value.bool false)) 32 (Value.bool false)) 32 (Value.bool false)) 33 undef) 34 undef) 35 undef) 36 (Value.bool false)) h6 (contX pl53 prog J 37 h.length 53 ct53 [1, 0, 1] (codeOf f53) [] (RetQ prog [.tmp 2] h.length K))))) := top_eq pok53 ct53 (by kernel_rfl)
theorem g53 (hJ : Closed prog main J) {a0 : Value} (hs : heapOk h → W prog J 37 h.length 53 (codeOf f53) (RG.mk (regs [a0]) []) h (RetQ prog [.tmp 2] h.length K)) : Good prog J 53 [a0] h K :=
 good_of_W hJ mixed at53 body53 (by kernel_rfl) (Nat.le_of_ble_eq_true rfl) hs
theorem s53_1 {f : RG} : W prog J 37 n0 53 (subC [1, 0, 1] (codeOf f53)) f h (contX pl53 prog J 37 n0 53 ct53 [1, 0, 1] (codeOf f53) [] (RetQ prog [.tmp 2] n0 K)) =
(cnd (f.r 36)
(retL n0 K f.ds [(vint 0)] h)
(retL n0 K f.ds [(vint 1)] h)) := sub_eq pok53 ct53 (by kernel_rfl)
theorem at54 : prog.funcs[54]? = some f54 := by kernel_rfl
theorem body54 : f54.body = some (codeOf f54) := by kernel_rfl
def pl54 : Plans := []
def ct54 : Cuts := .bin (.go) (.bin (.bin (.go) (.cut (.go))) (.go))
theorem pok54 : plansOk prog pl54 (codeOf f54) = true := by kernel_rfl
theorem e54 {a0 : Value} : W prog J 20 h.length 54 (codeOf f54) (RG.mk (regs [a0]) []) h (RetQ prog [.tmp 2] h.length K) =
(aBox a0 h fun v1 h2 =>
aOff v1 0 fun v3 =>
aLoad false 1 v3 h2 fun v4 =>
Good prog J 55 [v4, (vint 1), (vint 8)] h2 fun v5 h6 =>
cnd v5
(aOff v1 1 fun v7 =>
aLoad false 1 v7 h6 fun v8 =>
aOff v1 0 fun v9 =>
aLoad false 1 v9 h6 fun v10 =>
Good prog J 55 [v8, (vint 1), v10] h6 fun v11 h12 =>
cnd v11
(aOff v1 2 fun v13 =>
aLoad false 1 v13 h12 fun v14 =>
aOff v1 0 fun v15 =>
aLoad false 1 v15 h12 fun v16 =>
Good prog J 55 [v14, (vint 1), v16] h12 fun v17 h18 =>
Hold (W prog J 20 h.length 54 (subC [1, 0, 1] (codeOf f54)) (RG.p (RG.p (RG.p (RG.p (RG.p (RG.p (RG.p (RG.p (RG.p (RG.p (RG.p (RG.p (RG.p (RG.p (RG.p (RG.p (RG.p (RG.p (RG.p (RG.p (RG.p (RG.mk (regs [a0]) []) 1 v1) 2 (vint 0)) 3 v3) 4 v4) 5 v5) 6 v5) 6 (Value.bool true)) 7 v7) 8 v8) 9 v9) 10 v10) 11 v11) 12 v11) 13 v11) 13 (Value.bool true)) 14 v13) 15 v14) 16 v15) 17 v16) 18 v17) 19 v17) h18 (contX pl54 prog J 20 h.length 54 ct54 [1, 0, 1] (codeOf f54) [] (RetQ prog [.tmp 2] h.length K))))
(Hold (W prog J 20 h.length 54 (subC [1, 0, 1] (codeOf f54)) (RG.p (RG.p (RG.p (RG.p (RG.p (RG.p (RG.p (RG.p (RG.p (RG.p (RG.p (RG.p (RG.p (RG.p (RG.p (RG.p (RG.p (RG.p (RG.p (RG.p (RG.p (RG.mk (regs [a0]) []) 1 v1) 2 (vint 0)) 3 v3) 4 v4) 5 v5) 6 v5) 6 (Value.bool true)) 7 v7) 8 v8) 9 v9) 10 v10) 11 v11) 12 v11) 13 v11) 13 (Value.bool false)) 14 undef) 15 undef) 16 undef) 17 undef) 18 undef) 19 (Value.bool false)) h12 (contX pl54 prog J 20 h.length 54 ct54 [1, 0, 1] (codeOf f54) [] (RetQ prog [.tmp 2] h.length K)))))
(Hold (W prog J 20 h.length 54 (subC [1, 0, 1] (codeOf f54)) (RG.p (RG.p (RG.p (RG.p (RG.p (RG.p (RG.p (RG.p (RG.p (RG.p (RG.p (RG.p (RG.p (RG.p (RG.p (RG.p (RG.p (RG.p (RG.p (RG.p (RG.p (RG.mk (regs [a0]) []) 1 v1) 2 (vint 0)) 3 v3) 4 v4) 5 v5) 6 v5) 6 (Value.bool false)) 7 undef) 8 undef) 9 undef) 10 undef) 11 undef) 12 (Value.bool false)) 13 (Value.bool false)) 13 (Value.bool false)) 14 undef) 15 undef) 16 undef) 17 undef) 18 undef) 19 (Value.bool false)) h6 (contX pl54 prog J 20 h.length 54 ct54 [1, 0, 1] (codeOf f54) [] (RetQ prog [.tmp 2] h.length K))))) := top_eq pok54 ct54 (by kernel_rfl)
theorem g54 (hJ : Closed prog main J) {a0 : Value} (hs : heapOk h → W prog J 20 h.length 54 (codeOf f54) (RG.mk (regs [a0]) []) h (RetQ prog [.tmp 2] h.length K)) : Good prog J 54 [a0] h K :=
 good_of_W hJ mixed at54 body54 (by kernel_rfl) (Nat.le_of_ble_eq_true rfl) hs
theorem s54_1 {f : RG} : W prog J 20 n0 54 (subC [1, 0, 1] (codeOf f54)) f h (contX pl54 prog J 20 n0 54 ct54 [1, 0, 1] (codeOf f54) [] (RetQ prog [.tmp 2] n0 K)) =
(cnd (f.r 19)
(retL n0 K f.ds [(vint 0)] h)
(retL n0 K f.ds [(vint 1)] h)) := sub_eq pok54 ct54 (by kernel_rfl)
theorem at52 : prog.funcs[52]? = some f52 := by kernel_rfl
theorem body52 : f52.body = some (codeOf f52) := by kernel_rfl
def pl52 : Plans := []
def ct52 : Cuts := .go
theorem pok52 : plansOk prog pl52 (codeOf f52) = true := by kernel_rfl
theorem e52 {a0 : Value} : W prog J 15 h.length 52 (codeOf f52) (RG.mk (regs [a0]) []) h (RetQ prog [.tmp 2] h.length K) =
(aLenS a0 fun v1 =>
Sem J 15 h.length 52 (subC [1, 0, 1, 0] (codeOf f52)) (RG.p (RG.p (RG.p (RG.p (RG.mk (regs [a0]) []) 2 (vint 0)) 5 a0) 6 v1) 7 (vint 0)) h (contX pl52 prog J 15 h.length 52 ct52 [1, 0, 1, 0] (codeOf f52) [] (RetQ prog [.tmp 2] h.length K))) := top_eq pok52 ct52 (by kernel_rfl)
theorem g52 (hJ : Closed prog main J) {a0 : Value} (hs : heapOk h → W prog J 15 h.length 52 (codeOf f52) (RG.mk (regs [a0]) []) h (RetQ prog [.tmp 2] h.length K)) : Good prog J 52 [a0] h K :=
 good_of_W hJ mixed at52 body52 (by kernel_rfl) (Nat.le_of_ble_eq_true rfl) hs
theorem s52_1 {f : RG} {nx0 : RG → List AObj → Prop} : W prog J 15 n0 52 (subC [1, 0, 1, 0, 0] (codeOf f52)) f h (thenK nx0 (contX pl52 prog J 15 n0 52 ct52 [1, 0, 1, 0] (codeOf f52) [] (RetQ prog [.tmp 2] n0 K))) =
(aBin prog .lss 3 (f.r 7) (f.r 6) fun v1 =>
cnd v1
(aIdx 1 (f.r 5) (f.r 7) fun v2 =>
aLoad false 1 v2 h fun v3 =>
aBin prog .neq 31 v3 (vint 0) fun v4 =>
cnd v4
(retL n0 K f.ds [v3] h)
(aBin prog .add 3 (f.r 7) (vint 1) fun v5 =>
nx0 (RG.p (RG.p (RG.p (RG.p (RG.p (RG.p (RG.p (RG.p f 8 v1) 9 v2) 10 v3) 4 v3) 11 v3) 12 v4) 14 v5) 7 v5) h))
(retL n0 K f.ds [(vint 0)] h)) := sub_eq pok52 ct52 (by kernel_rfl)
theorem l52_1 (hJ : Closed prog main J) {S : Type} (μ : S → Nat) (I : S → RG → List AObj → Prop) (hI : ∀ s f h, I s f h → heapOk h → n0 ≤ h.length → W prog J 15 n0 52 (subC [1, 0, 1, 0, 0] (codeOf f52)) f h (thenK (Nx n0 μ I s) (contX pl52 prog J 15 n0 52 ct52 [1, 0, 1, 0] (codeOf f52) [] (RetQ prog [.tmp 2] n0 K))))
 {s : S} {f : RG} (hi : Gets n0 I s f h) : Sem J 15 n0 52 (subC [1, 0, 1, 0] (codeOf f52)) f h (contX pl52 prog J 15 n0 52 ct52 [1, 0, 1, 0] (codeOf f52) [] (RetQ prog [.tmp 2] n0 K)) :=
 loop_rule hJ mixed (b := subC [1, 0, 1, 0, 0] (codeOf f52)) (by kernel_rfl) μ I hI hi
theorem at62 : prog.funcs[62]? = some f62 := by kernel_rfl
theorem body62 : f62.body = some (codeOf f62) := by kernel_rfl
def pl62 : Plans := []
def ct62 : Cuts := .go
theorem pok62 : plansOk prog pl62 (codeOf f62) = true := by kernel_rfl
theorem e62 {a0 : Value} : W prog J 9 h.length 62 (codeOf f62) (RG.mk (regs [a0]) []) h (RetQ prog [.tmp 2] h.length K) =
(aBox a0 h fun v1 h2 =>
aLoad true 6 v1 h2 fun v3 =>
aOff v1 0 fun v4 =>
aLoad false 1 v4 h2 fun v5 =>
aFill [(vint 0), (vint 0)] [(0, 1, v5)] fun c6 =>
aFill [(vint 0), (vint 0), (vint 0), (vint 0), (vint 0), (vint 0), (vint 0), (vint 0)] [(0, 6, v3), (6, 2, (Value.agg ⟨c6⟩))] fun c7 =>
aBox (Value.agg ⟨c7⟩) h2 fun v8 h9 =>
retL h.length K [] [v8] h9) := top_eq pok62 ct62 (by kernel_rfl)
theorem g62 (hJ : Closed prog main J) {a0 : Value} (hs : heapOk h → W prog J 9 h.length 62 (codeOf f62) (RG.mk (regs [a0]) []) h (RetQ prog [.tmp 2] h.length K)) : Good prog J 62 [a0] h K :=
 good_of_W hJ mixed at62 body62 (by kernel_rfl) (Nat.le_of_ble_eq_true rfl) hs
theorem at63 : prog.funcs[63]? = some f63 := by kernel_rfl
theorem body63 : f63.body = some (codeOf f63) := by kernel_rfl
def pl63 : Plans := [(2, true, .take 0 (.take 1 (.take 2 (.take 3 (.take 4 (.take 5 (.take 6 (.take 7 (.take 8 (.take 9 (.take 10 (.take 11 (.take 12 (.take 13 (.take 14 (.take 15 (.last 16 false (.fin)))))))))))))))))),
 (3, true, .take 0 (.take 1 (.take 2 (.take 3 (.take 4 (.take 5 (.take 6 (.take 7 (.take 8 (.take 9 (.take 10 (.take 11 (.take 12 (.take 13 (.take 14 (.take 15 (.fin))))))))))))))))),
 (10, true, .take 0 (.take 1 (.take 2 (.take 3 (.take 4 (.take 5 (.take 6 (.take 7 (.take 8 (.take 9 (.take 10 (.take 11 (.take 12 (.take 13 (.take 14 (.take 15 (.take 16 (.take 17 (.take 18 (.take 19 (.take 20 (.last 21 false (.fin))))))))))))))))))))))),
 (4, true, .take 0 (.take 1 (.take 2 (.take 3 (.take 4 (.take 5 (.take 6 (.take 7 (.take 8 (.take 9 (.take 10 (.take 11 (.take 12 (.take 13 (.take 14 (.take 15 (.take 16 (.take 17 (.take 18 (.take 19 (.take 20 (.last 21 false (.fin)))))))))))))))))))))))]
def ct63 : Cuts := .bin (.go) (.bin (.go) (.bin (.go) (.bin (.go) (.cut (.go)))))
theorem pok63 : plansOk prog pl63 (codeOf f63) = true := by kernel_rfl
theorem e63 {a0 a1 a2 : Value} : W prog J 119 h.length 63 (codeOf f63) (RG.mk (regs [a0, a1, a2]) []) h (RetQ prog [.tmp 6, .tmp 7] h.length K) =
(aNil a0 fun v1 =>
aOff v1 6 fun v2 =>
aOff v2 0 fun v3 =>
aLoad false 1 v3 h fun v4 =>
aBin prog .gtr 3 a1 v4 fun v5 =>
aNil a0 fun v6 =>
aOff v6 6 fun v7 =>
aOff v7 0 fun v8 =>
aLoad false 1 v8 h fun v9 =>
aNil a0 fun v10 =>
aOff v10 6 fun v11 =>
aOff v11 0 fun v12 =>
aLoad false 1 v12 h fun v13 =>
aMin a1 [v13] fun v14 =>
aBin prog .sub 3 v9 v14 fun v15 =>
aNil a0 fun v16 =>
aOff v16 6 fun v17 =>
aOff v17 0 fun v18 =>
aStore 1 v18 v15 h fun h19 =>
aBin prog .gtr 3 a1 (vint 0) fun v20 =>
cnd v20
(aNil a0 fun v21 =>
aOff v21 6 fun v22 =>
aOff v22 0 fun v23 =>
aLoad false 1 v23 h19 fun v24 =>
aNil a0 fun v25 =>
aOff v25 0 fun v26 =>
aOff v26 4 fun v27 =>
aLoad false 1 v27 h19 fun v28 =>
aBin prog .lss 3 v24 v28 fun v29 =>
Hold (W prog J 119 h.length 63 (subC [1, 1, 1, 1] (codeOf f63)) (RG.p (RG.p (RG.p (RG.p (RG.p (RG.p (RG.p (RG.p (RG.p (RG.p (RG.p (RG.p (RG.p (RG.p (RG.p (RG.p (RG.p (RG.p (RG.p (RG.p (RG.p (RG.p (RG.p (RG.p (RG.p (RG.p (RG.p (RG.p (RG.p (RG.p (RG.p (RG.p (RG.p (RG.p (RG.p (RG.p (RG.p (RG.p (RG.p (RG.p (RG.p (RG.p (RG.p (RG.mk (regs [a0, a1, a2]) []) 6 (Value.bool false)) 7 (Value.bool false)) 8 a1) 9 a0) 10 v1) 11 v2) 12 v3) 13 v4) 14 v5) 6 v5) 15 a0) 16 v6) 17 v7) 18 v8) 19 v9) 20 a1) 21 a0) 22 v10) 23 v11) 24 v12) 25 v13) 26 v14) 27 v15) 28 v16) 29 v17) 30 v18) 31 a1) 32 v20) 33 v20) 33 (Value.bool true)) 34 a0) 35 v21) 36 v22) 37 v23) 38 v24) 39 a0) 40 v25) 41 v26) 42 v27) 43 v28) 44 v29) 45 v29) 7 v29) h19 (contX pl63 prog J 119 h.length 63 ct63 [1, 1, 1, 1] (codeOf f63) [] (RetQ prog [.tmp 6, .tmp 7] h.length K))))
(Hold (W prog J 119 h.length 63 (subC [1, 1, 1, 1] (codeOf f63)) (RG.p (RG.p (RG.p (RG.p (RG.p (RG.p (RG.p (RG.p (RG.p (RG.p (RG.p (RG.p (RG.p (RG.p (RG.p (RG.p (RG.p (RG.p (RG.p (RG.p (RG.p (RG.p (RG.p (RG.p (RG.p (RG.p (RG.p (RG.p (RG.p (RG.p (RG.p (RG.p (RG.p (RG.p (RG.p (RG.p (RG.p (RG.p (RG.p (RG.p (RG.p (RG.p (RG.p (RG.mk (regs [a0, a1, a2]) []) 6 (Value.bool false)) 7 (Value.bool false)) 8 a1) 9 a0) 10 v1) 11 v2) 12 v3) 13 v4) 14 v5) 6 v5) 15 a0) 16 v6) 17 v7) 18 v8) 19 v9) 20 a1) 21 a0) 22 v10) 23 v11) 24 v12) 25 v13) 26 v14) 27 v15) 28 v16) 29 v17) 30 v18) 31 a1) 32 v20) 33 v20) 33 (Value.bool false)) 34 undef) 35 undef) 36 undef) 37 undef) 38 undef) 39 undef) 40 undef) 41 undef) 42 undef) 43 undef) 44 undef) 45 (Value.bool false)) 7 (Value.bool false)) h19 (contX pl63 prog J 119 h.length 63 ct63 [1, 1, 1, 1] (codeOf f63) [] (RetQ prog [.tmp 6, .tmp 7] h.length K))))) := top_eq pok63 ct63 (by kernel_rfl)
theorem g63 (hJ : Closed prog main J) {a0 a1 a2 : Value} (hs : heapOk h → W prog J 119 h.length 63 (codeOf f63) (RG.mk (regs [a0, a1, a2]) []) h (RetQ prog [.tmp 6, .tmp 7] h.length K)) : Good prog J 63 [a0, a1, a2] h K :=
 good_of_W hJ mixed at63 body63 (by kernel_rfl) (Nat.le_of_ble_eq_true rfl) hs
theorem s63_1 {f : RG} : W prog J 119 n0 63 (subC [1, 1, 1, 1] (codeOf f63)) f h (contX pl63 prog J 119 n0 63 ct63 [1, 1, 1, 1] (codeOf f63) [] (RetQ prog [.tmp 6, .tmp 7] n0 K)) =
(cnd (f.r 7)
(aNil (f.r 0) fun v1 =>
aOff v1 0 fun v2 =>
aOff v2 5 fun v3 =>
aLoad false 1 v3 h fun v4 =>
aNil (f.r 0) fun v5 =>
aOff v5 6 fun v6 =>
aOff v6 1 fun v7 =>
aStore 1 v7 v4 h fun h8 =>
retL n0 K f.ds [(f.r 6), (f.r 7)] h8)
(aNil (f.r 0) fun v9 =>
aOff v9 6 fun v10 =>
aOff v10 1 fun v11 =>
aLoad false 1 v11 h fun v12 =>
aBin prog .gtr 3 v12 (vint 0) fun v13 =>
cnd v13
(aNil (f.r 0) fun v14 =>
aOff v14 6 fun v15 =>
aOff v15 1 fun v16 =>
aLoad false 1 v16 h fun v17 =>
aBin prog .sub 3 v17 (vint 1) fun v18 =>
aNil (f.r 0) fun v19 =>
aOff v19 6 fun v20 =>
aOff v20 1 fun v21 =>
aStore 1 v21 v18 h fun h22 =>
retL n0 K f.ds [(f.r 6), (f.r 7)] h22)
(cnd (f.r 2)
(aNil (f.r 0) fun v23 =>
aOff v23 0 fun v24 =>
aOff v24 1 fun v25 =>
aLoad false 1 v25 h fun v26 =>
aNil (f.r 0) fun v27 =>
aOff v27 6 fun v28 =>
aOff v28 0 fun v29 =>
aLoad false 1 v29 h fun v30 =>
aNil (f.r 0) fun v31 =>
aOff v31 0 fun v32 =>
aOff v32 3 fun v33 =>
aLoad false 1 v33 h fun v34 =>
aBin prog .add 3 v30 v34 fun v35 =>
aMin v26 [v35] fun v36 =>
aNil (f.r 0) fun v37 =>
aOff v37 6 fun v38 =>
aOff v38 0 fun v39 =>
aStore 1 v39 v36 h fun h40 =>
retL n0 K f.ds [(f.r 6), (f.r 7)] h40)
(aNil (f.r 0) fun v41 =>
aOff v41 0 fun v42 =>
aOff v42 1 fun v43 =>
aLoad false 1 v43 h fun v44 =>
aNil (f.r 0) fun v45 =>
aOff v45 6 fun v46 =>
aOff v46 0 fun v47 =>
aLoad false 1 v47 h fun v48 =>
aNil (f.r 0) fun v49 =>
aOff v49 0 fun v50 =>
aOff v50 2 fun v51 =>
aLoad false 1 v51 h fun v52 =>
aBin prog .add 3 v48 v52 fun v53 =>
aMin v44 [v53] fun v54 =>
aNil (f.r 0) fun v55 =>
aOff v55 6 fun v56 =>
aOff v56 0 fun v57 =>
aStore 1 v57 v54 h fun h58 =>
retL n0 K f.ds [(f.r 6), (f.r 7)] h58)))) := sub_eq pok63 ct63 (by kernel_rfl)
theorem at67 : prog.funcs[67]? = some f67 := by kernel_rfl
theorem body67 : f67.body = some (codeOf f67) := by kernel_rfl
def pl67 : Plans := [(6, false, .take 0 (.take 1 (.take 2 (.take 3 (.take 4 (.take 5 (.take 6 (.take 7 (.take 8 (.last 9 true (.take 10 (.fin))))))))))))]
def ct67 : Cuts := .bin (.go) (.bin (.go) (.bin (.go) (.bin (.go) (.cut (.go)))))
theorem pok67 : plansOk prog pl67 (codeOf f67) = true := by kernel_rfl
theorem e67 {a0 a1 a2 : Value} : W prog J 30 h.length 67 (codeOf f67) (RG.mk (regs [a0, a1, a2]) []) h (RetQ prog [.cell 6 118, .tmp 7] h.length K) =
(aBox a0 h fun v1 h2 =>
aBox a1 h2 fun v3 h4 =>
aAlloc [(Value.int .u8 0), (vint 0)] h4 fun v5 h6 =>
aOff v1 0 fun v7 =>
aLoad false 1 v7 h6 fun v8 =>
aBin prog .neq 5 v8 a2 fun v9 =>
cnd v9
(aFill [(Value.int .u8 0), (vint 0)] [(0, 1, a2), (1, 1, (vint 1))] fun c10 =>
aStore 2 v5 (Value.agg ⟨c10⟩) h6 fun h11 =>
RetQ prog [.cell 6 118, .tmp 7] h.length K .ret (RG.p (RG.p (RG.p (RG.p (RG.p (RG.p (RG.p (RG.p (RG.p (RG.p (RG.p (RG.mk (regs [a0, a1, a2]) []) 3 v1) 4 v3) 6 v5) 7 (Value.bool false)) 9 v7) 10 v8) 11 a2) 12 v9) 13 a2) 14 (Value.agg ⟨c10⟩)) 7 (Value.bool true)) h11)
(aOff v3 1 fun v12 =>
aLoad false 1 v12 h6 fun v13 =>
aBin prog .eql 5 a2 (Value.int .u8 119) fun v14 =>
cnd v14
(aOff v3 2 fun v15 =>
aLoad false 1 v15 h6 fun v16 =>
Hold (W prog J 30 h.length 67 (subC [1, 1, 1, 1] (codeOf f67)) (RG.p (RG.p (RG.p (RG.p (RG.p (RG.p (RG.p (RG.p (RG.p (RG.p (RG.p (RG.p (RG.p (RG.p (RG.p (RG.p (RG.mk (regs [a0, a1, a2]) []) 3 v1) 4 v3) 6 v5) 7 (Value.bool false)) 9 v7) 10 v8) 11 a2) 12 v9) 15 v12) 16 v13) 8 v13) 17 a2) 18 v14) 19 v15) 20 v16) 8 v16) h6 (contX pl67 prog J 30 h.length 67 ct67 [1, 1, 1, 1] (codeOf f67) [] (RetQ prog [.cell 6 118, .tmp 7] h.length K))))
(Hold (W prog J 30 h.length 67 (subC [1, 1, 1, 1] (codeOf f67)) (RG.p (RG.p (RG.p (RG.p (RG.p (RG.p (RG.p (RG.p (RG.p (RG.p (RG.p (RG.p (RG.p (RG.mk (regs [a0, a1, a2]) []) 3 v1) 4 v3) 6 v5) 7 (Value.bool false)) 9 v7) 10 v8) 11 a2) 12 v9) 15 v12) 16 v13) 8 v13) 17 a2) 18 v14) h6 (contX pl67 prog J 30 h.length 67 ct67 [1, 1, 1, 1] (codeOf f67) [] (RetQ prog [.cell 6 118, .tmp 7] h.length K)))))) := top_eq pok67 ct67 (by kernel_rfl)
theorem g67 (hJ : Closed prog main J) {a0 a1 a2 : Value} (hs : heapOk h → W prog J 30 h.length 67 (codeOf f67) (RG.mk (regs [a0, a1, a2]) []) h (RetQ prog [.cell 6 118, .tmp 7] h.length K)) : Good prog J 67 [a0, a1, a2] h K :=
 good_of_W hJ mixed at67 body67 (by kernel_rfl) (Nat.le_of_ble_eq_true rfl) hs
theorem s67_1 {f : RG} : W prog J 30 n0 67 (subC [1, 1, 1, 1] (codeOf f67)) f h (contX pl67 prog J 30 n0 67 ct67 [1, 1, 1, 1] (codeOf f67) [] (RetQ prog [.cell 6 118, .tmp 7] n0 K)) =
((∃ B, aOff (f.r 3) 1 fun v1 =>
aLoad false 1 v1 h fun v2 =>
RdOk (some B) (ptrBlk v1) ∧ (aBin prog .add 3 v2 (vint 1) fun v3 =>
aFill [(Value.int .u8 0), (vint 0)] [(0, 1, (f.r 2)), (1, 1, v3)] fun c4 =>
aOff (f.r 3) 1 fun v5 =>
aLoad false 1 v5 h fun v6 =>
RdOk (some B) (ptrBlk v5) ∧ (aBin prog .lss 3 v6 (f.r 8) fun v7 =>
aStore 2 (f.r 6) (Value.agg ⟨c4⟩) h fun h8 =>
SameB (some B) h h8 ∧ (RetQ prog [.cell 6 118, .tmp 7] n0 K .ret (RG.p (RG.p (RG.p (RG.p (RG.p (RG.p (RG.p (RG.p (RG.p (RG.p f 21 (f.r 2)) 22 v1) 23 v2) 24 v3) 25 (Value.agg ⟨c4⟩)) 26 v5) 27 v6) 28 (f.r 8)) 29 v7) 7 v7) h8))))) := sub_eq pok67 ct67 (by kernel_rfl)
end
end Go.Proofs.YtmmlamfgbmnkgaaDoor
namespace Go.Proofs.YtmmlamfgbmnkgaaDoor
open Go.Conc Go.Proofs.Tryd
set_option maxRecDepth 100000
section
variable {main : Bool} {J : JT} {h H : List AObj} {K : Value → List AObj → Prop} {KV : Value → Prop} {HL : List AObj → Prop} {n0 : Nat}
theorem sliN {v : Value} {xs : List Int} (hs : Sli h v 1 xs.length (xs.map vint)) {i : Nat} {x : Int} (hx : xs[i]? = some x) {K2 : Value → Value → Prop} (hK : ∀ p, K2 p (vint x)) : aIdx 1 v (vint (i : Nat)) fun p => aLoad false 1 p h (K2 p) := by
 have hi := (List.getElem?_eq_some_iff.1 hx).1
 exact idx_load hs ⟨by omega, by omega⟩ (by rw [Int.toNat_natCast, List.getElem?_map, hx]; rfl) hK
theorem fillO {m : List Value} {o s : Nat} {v : Value} {l : List Value} {ps : List (Nat × Nat × Value)} {KL : List Value → Prop} (hv : v.cells.toList = l) (hs : l.length = s) (ho : l.all one = true) (hl : o + s ≤ m.length) (hk : aFill (wrAt m o l) ps KL) : aFill m ((o, s, v) :: ps) KL := by
 subst hv
 exact ⟨hs, ho, hl, hk⟩
theorem retQs {n0 : Nat} {rs : List ResultVar} {f : RG} (ds : f.ds = []) (hr : resW prog rs f.r h fun vs => K (pack vs) h) : RetQ prog rs n0 K .ret f h := by
 unfold RetQ
 rw [ds]
 exact resW_imp rs hr fun vs hk => .inl hk
theorem nu2 {a b : Value} (ha : a ≠ unk) (hb : b ≠ unk) : ∀ v ∈ [a, b], v ≠ unk := by
 intro v hv
 simp only [List.mem_cons, List.not_mem_nil, or_false] at hv
 rcases hv with rfl | rfl <;> assumption
theorem cndB {b : Bool} {A B : Prop} (h1 : b = true → A) (h2 : b = false → B) : cnd (.bool b) A B := by
 cases b
 ·exact cnd_false.2 (h2 rfl)
 ·exact cnd_true.2 (h1 rfl)
theorem callCz {g : FuncId} {args cap : List Value} (hg : Nat.blt g prog.funcs.size = true) (hk : Good prog J g (args ++ cap) H K) : callV prog (Good prog J) (.func (.func g) ⟨[]⟩ ⟨cap⟩) args H K := by
 show (bif Nat.blt g prog.funcs.size then Good prog J g ([] ++ args ++ cap) H K else False)
 rw [hg, cond_true, List.nil_append]
 exact hk
theorem retLdef {n0 n : Nat} {vs : List Value} (hd : h[n]? = some .deferred) (hv : ∀ v ∈ vs, v ≠ unk) (hk : K (pack vs) (h.set n .dead)) : retL n0 K [n] vs h := by
 have := retL_same (n0 := n0) (H := K) hv hk
 unfold retL at *
 exact ⟨hd, this⟩
theorem appIn {b k m : Nat} {cs : List Value} {v y : Value} (hb : H[b]? = some (.cells cs true 0)) (hl : cs.length = m) (hk : k < m) (hm : m < 1000) (hc : kn (cs.take k) = true) (hy : Sli H y 1 1 [v])
  (hK : ∀ H', SameX [b] H H' → H'[b]? = some (.cells (cs.set k v) true 0) → H'.length = H.length → K (.slice (some ⟨b, 0, none⟩) (k + 1) m) H') : aApp 1 (.slice (some ⟨b, 0, none⟩) k m) y H K := by
 have hfz : (1000 : Nat) < fz := by decide
 have hrm : (2000 : Nat) < room := by decide
 obtain ⟨yb, yc, rfl, hyk, hh⟩ := id hy
 refine ⟨by omega, src_sli hy (by omega) ?_⟩
 simp only [hb]
 refine ⟨⟨by omega, by simpa using hc⟩, fun _ => ⟨fun _ => ⟨trivial, by omega, ?_⟩, fun h => absurd h (by omega)⟩, fun h => absurd h (by omega)⟩
 have e : wrAt cs (0 + k * 1) [v] = cs.set k v := by simp [wrAt]
 rw [e]
 exact hK _ (SameX.refl.set (.inl (by simp))) (List.getElem?_set_self (lt_of_get hb)) (by simp)
theorem sbOne {X : List Nat} {p : Nat} {H H' : List AObj} (S : SameX X H H') (hp : p < H.length) (hX : p ∉ X) : SameB (some [p]) H H' := fun b hb => by
 simp at hb
 subst hb
 exact S.2 _ hp hX
theorem sbTwo {X : List Nat} {p q : Nat} {H H' : List AObj} (S : SameX X H H') (hp : p < H.length) (hq : q < H.length) (hX : p ∉ X) (hY : q ∉ X) : SameB (some [p, q]) H H' := fun b hb => by
 simp at hb
 rcases hb with rfl | rfl
 ·exact S.2 _ hp hX
 ·exact S.2 _ hq hY
theorem endQexit {n id : Nat} {f : RG} {Q : QT} {v : Value} {st : LoopState} {fn : FuncId} {r : Nat → Value} {size : Nat} {params : Array Tmp} {assign body : Code} {dfr : Nat} (hl : h[n + 1]? = some (.loop st (some (.exit id)) fn r size params assign body dfr)) (hs : st ≠ .busy) (hq : Q (.exit id) ⟨f.r, n :: f.ds⟩ (h.set (n + 1) .dead)) : endQ n f Q v h :=
 ⟨st, some (.exit id), _, _, _, _, _, _, _, hl, hs, hq⟩
theorem endQnorm {n : Nat} {f : RG} {Q : QT} {v : Value} {st : LoopState} {fn : FuncId} {r : Nat → Value} {size : Nat} {params : Array Tmp} {assign body : Code} {dfr : Nat} (hl : h[n + 1]? = some (.loop st none fn r size params assign body dfr)) (hs : st ≠ .busy) (hq : Q .normal ⟨f.r, n :: f.ds⟩ (h.set (n + 1) .dead)) : endQ n f Q v h :=
 ⟨st, none, _, _, _, _, _, _, _, hl, hs, hq⟩
theorem fillP2 {a b : Value} {KL : List Value → Prop} (ha : a.cells = #[a] ∧ one a = true) (hb : b.cells = #[b] ∧ one b = true) {z : Value} (hk : KL [a, b]) : aFill (zrep [z] 2) [(0, 1, a), (1, 1, b)] KL := by
 refine fillO (l := [a]) (by rw [ha.1]) rfl (by simp [ha.2]) (by show 0 + 1 ≤ 2; decide) ?_
 refine fillO (l := [b]) (by rw [hb.1]) rfl (by simp [hb.2]) (by rw [wrAt_length]; show 1 + 1 ≤ 2; decide) ?_
 exact fillI hk
theorem beqD (a b : Int) : (a == b) = decide (a = b) := by
 by_cases h : a = b
 ·simp [h]
 ·simp [h]
theorem eqlU {t : TypeId} {a b : UInt8} (hk : KV (.bool (decide (a = b)))) : aBin prog .eql t (.int .u8 a.toNat) (.int .u8 b.toNat) KV := by
 refine ⟨rfl, ?_⟩
 show KV (.bool (((a.toNat : Nat) : Int) == ((b.toNat : Nat) : Int)))
 rw [beqD]
 have : ((a.toNat : Nat) : Int) = ((b.toNat : Nat) : Int) ↔ a = b := by rw [Int.ofNat_inj]; exact UInt8.toNat_inj
 rw [decide_eq_decide.2 this]
 exact hk
theorem neqU {t : TypeId} {a b : UInt8} (hk : KV (.bool (decide (a ≠ b)))) : aBin prog .neq t (.int .u8 a.toNat) (.int .u8 b.toNat) KV := by
 refine ⟨rfl, ?_⟩
 show KV (.bool (((a.toNat : Nat) : Int) != ((b.toNat : Nat) : Int)))
 unfold bne
 rw [beqD, ← decide_not]
 have : (¬ ((a.toNat : Nat) : Int) = ((b.toNat : Nat) : Int)) ↔ a ≠ b := by rw [Int.ofNat_inj, UInt8.toNat_inj]
 rw [decide_eq_decide.2 this]
 exact hk
theorem byteI {l : List UInt8} {i : Nat} {b : UInt8} (hb : l[i]? = some b) (hk : KV (.int .u8 b.toNat)) : aIdxStr (.string ⟨⟨l⟩⟩) (vint (i : Nat)) KV := by
 refine ⟨by omega, ?_⟩
 show match l[((i : Nat) : Int).toNat]? with
  | some b => KV (.int .u8 b.toNat)
  | none => False
 rw [Int.toNat_natCast, hb]
 exact hk
end
structure Pas where
 grass : Int
 bears : Int
 dry : Int
 wet : Int
 stubble : Int
 sleep : Int
 deriving DecidableEq
structure SkyR where
 days : Int
 drought : Int
 flood : Int
 deriving DecidableEq
def Pas.cells (p : Pas) : List Value := [vint p.grass, vint p.bears, vint p.dry, vint p.wet, vint p.stubble, vint p.sleep]
def SkyR.cells (s : SkyR) : List Value := [vint s.days, vint s.drought, vint s.flood]
def pasOk (p : Pas) : Prop := (1 ≤ p.bears ∧ p.bears ≤ 99) ∧ (0 ≤ p.grass ∧ p.grass ≤ p.bears) ∧ (0 ≤ p.dry ∧ p.dry ≤ 9) ∧ (p.dry ≤ p.wet ∧ p.wet ≤ 9) ∧ (0 ≤ p.stubble ∧ p.stubble ≤ p.bears) ∧ (0 ≤ p.sleep ∧ p.sleep ≤ 5)
instance (p : Pas) : Decidable (pasOk p) := by unfold pasOk; infer_instance
def pasE (p : Pas) : Int := if pasOk p then 0 else 1
def skyOk (s : SkyR) : Prop := (1 ≤ s.days ∧ s.days ≤ 8) ∧ (1 ≤ s.drought ∧ s.drought ≤ s.days) ∧ (1 ≤ s.flood ∧ s.flood ≤ s.days)
instance (s : SkyR) : Decidable (skyOk s) := by unfold skyOk; infer_instance
def skyE (s : SkyR) : Int := if skyOk s then 0 else 1
def fst2 (a b : Int) : Int := if a ≠ 0 then a else b
abbrev Std := Int × Int
def leftR (x : Std) (heads : Int) : Int := x.1 - min heads x.1
def hungR (x : Std) (heads : Int) : Bool := decide (heads > x.1)
def shortR (p : Pas) (x : Std) (heads : Int) : Bool := decide (heads > 0) && decide (leftR x heads < p.stubble)
def dayR (p : Pas) (x : Std) (heads : Int) (wet : Bool) : Std :=
 if shortR p x heads = true then (leftR x heads, p.sleep) else if x.2 > 0 then (leftR x heads, x.2 - 1) else (min p.bears (leftR x heads + (if wet = true then p.wet else p.dry)), x.2)
def medC (p : Pas) (x : Std) : List Value := p.cells ++ [vint x.1, vint x.2]
structure StdOk (p : Pas) (x : Std) : Prop where
 g : 0 ≤ x.1 ∧ x.1 ≤ p.bears
 a : 0 ≤ x.2 ∧ x.2 ≤ 5
theorem leftR_bd {p : Pas} {x : Std} (o : StdOk p x) {n : Int} (hn : 0 ≤ n) : 0 ≤ leftR x n ∧ leftR x n ≤ x.1 := by
 have := o.g
 unfold leftR
 omega
theorem dayR_ok {p : Pas} {x : Std} (f : pasOk p) (o : StdOk p x) {n : Int} (hn : 0 ≤ n) {w : Bool} : StdOk p (dayR p x n w) := by
 have hl := leftR_bd o hn
 have hg := o.g
 have ha := o.a
 obtain ⟨f1, f2, f3, f4, f5, f6⟩ := f
 unfold dayR
 split
 ·exact ⟨by dsimp only; omega, by dsimp only; omega⟩
 ·split
  ·exact ⟨by dsimp only; omega, by dsimp only; omega⟩
  ·refine ⟨?_, by dsimp only; omega⟩
   dsimp only
   split <;> omega
theorem std0_ok {p : Pas} (f : pasOk p) : StdOk p (p.grass, 0) := ⟨f.2.1, by dsimp only; omega⟩
def wetB (b : UInt8) : Bool := decide (b = 119)
def stdR (p : Pas) (heads : List Int) (rain : List UInt8) : Nat → Std
 | 0 => (p.grass, 0)
 | k + 1 => dayR p (stdR p heads rain k) (heads.getD k 0) (wetB (rain.getD k 0))
def hungAt (p : Pas) (heads : List Int) (rain : List UInt8) (k : Nat) : Bool := hungR (stdR p heads rain k) (heads.getD k 0)
def headsOk (heads : List Int) : Prop := ∀ n ∈ heads, 0 ≤ n ∧ n ≤ 40
theorem headsOk_getD {heads : List Int} (hh : headsOk heads) (k : Nat) : 0 ≤ heads.getD k 0 ∧ heads.getD k 0 ≤ 40 := by
 rw [List.getD_eq_getElem?_getD]
 cases e : heads[k]? with
 | none => exact ⟨Int.le_refl _, by decide⟩
 | some n => exact hh n (List.mem_of_getElem? e)
theorem stdR_ok {p : Pas} {heads : List Int} {rain : List UInt8} (f : pasOk p) (hh : headsOk heads) : ∀ k, StdOk p (stdR p heads rain k)
 | 0 => std0_ok f
 | k + 1 => dayR_ok f (stdR_ok f hh k) (headsOk_getD hh k).1
def fstH (q : Nat → Bool) : Nat → Int
 | 0 => -1
 | n + 1 => if fstH q n ≥ 0 then fstH q n else if q n = true then (n : Int) else -1
theorem fstH_none {q : Nat → Bool} : ∀ {n : Nat}, (∀ i, i < n → q i = false) → fstH q n = -1
 | 0, _ => rfl
 | n + 1, h => by
  unfold fstH
  rw [fstH_none fun i hi => h i (by omega), if_neg (by decide), if_neg (by rw [h n (by omega)]; decide)]
theorem fstH_pos {q : Nat → Bool} {i : Nat} (hq : q i = true) : ∀ {n : Nat}, i < n → 0 ≤ fstH q n
 | 0, h => absurd h (Nat.not_lt_zero _)
 | n + 1, h => by
  unfold fstH
  by_cases x : fstH q n ≥ 0
  ·rw [if_pos x]
   exact x
  ·rw [if_neg x]
   by_cases y : i = n
   ·subst y
    rw [if_pos hq]
    omega
   ·exact absurd (fstH_pos hq (by omega)) x
def starvR (p : Pas) (heads : List Int) (rain : List UInt8) : Int := fstH (hungAt p heads rain) rain.length
abbrev Spl := UInt8 × Int
def spC (x : Spl) : List Value := [.int .u8 x.1.toNat, vint x.2]
def nextX (x : Spl) (c : UInt8) : Spl := if x.1 ≠ c then (c, 1) else (c, x.2 + 1)
def nextOk (s : SkyR) (x : Spl) (c : UInt8) : Bool := if x.1 ≠ c then true else decide (x.2 < if c = 119 then s.flood else s.drought)
def growB (s : SkyR) : Nat → List UInt8 → Spl → List (List UInt8)
 | 0, w, _ => [w]
 | n + 1, w, x => (if nextOk s x 100 = true then growB s n (w ++ [100]) (nextX x 100) else []) ++ (if nextOk s x 119 = true then growB s n (w ++ [119]) (nextX x 119) else [])
def rainsB (s : SkyR) : List (List UInt8) := growB s s.days.toNat [] (0, 0)
theorem growB_len {s : SkyR} : ∀ {n : Nat} {w : List UInt8} {x : Spl}, ∀ u ∈ growB s n w x, u.length = w.length + n
 | 0, w, x, u, hu => by
  rw [List.mem_singleton.1 hu]
  rfl
 | n + 1, w, x, u, hu => by
  unfold growB at hu
  rcases List.mem_append.1 hu with hu | hu
  ·split at hu
   ·rw [growB_len u hu, List.length_append]
    simp
    omega
   ·cases hu
  ·split at hu
   ·rw [growB_len u hu, List.length_append]
    simp
    omega
   ·cases hu
theorem rainsB_len {s : SkyR} {u : List UInt8} (h : u ∈ rainsB s) : u.length = s.days.toNat := by
 have := growB_len u h
 simpa using this
section
variable {main : Bool} {J : JT} {h H : List AObj} {K : Value → List AObj → Prop} {KV : Value → Prop} {HL : List AObj → Prop} {n0 : Nat}
theorem good55 (hJ : Closed prog main J) {n lo hi : Int} (hK : K (.bool (decide (lo ≤ n ∧ n ≤ hi))) h) : Good prog J 55 [vint n, vint lo, vint hi] h K := by
 refine g55 hJ fun ok => ?_
 rw [e55]
 refine leqI (cndI (fun h1 => leqI (retL_same (by simp [unk]) ?_)) fun h1 => retL_same (by simp [unk]) ?_)
 ·simpa [pack, h1] using hK
 ·simpa [pack, h1] using hK
theorem good53 (hJ : Closed prog main J) {p : Pas} (hK : K (vint (pasE p)) h) : Good prog J 53 [.agg ⟨p.cells⟩] h K := by
 refine g53 hJ fun ok => ?_
 rw [e53]
 refine qBox (l := p.cells) rfl fun H1 p1 e1 S1 c1 l1 => ?_
 have fin : ∀ e : Int, pasE p = e → retL h.length K [] [vint e] H1 := fun e he => by
  subst he
  exact retX ok (Nat.le_refl _) S1 (by simp) (by simp [unk]) (by simp [pack, VOk]) hK
 have no : ∀ {q : Prop}, (pasOk p → q) → ¬ q → retL h.length K [] [vint 1] H1 := fun a b => fin 1 (by unfold pasE; rw [if_neg fun x => b (a x)])
 refine offI (ldI (v := vint p.bears) c1 rfl rfl (good55 hJ (cndI (fun h1 => ?_) fun h1 => hold.2 ?_)))
 rotate_left
 ·rw [s53_1]
  exact cnd_false.2 (no (fun x => x.1) h1)
 refine offI (ldI (v := vint p.grass) c1 rfl rfl (offI (ldI (v := vint p.bears) c1 rfl rfl (good55 hJ (cndI (fun h2 => ?_) fun h2 => hold.2 ?_)))))
 rotate_left
 ·rw [s53_1]
  exact cnd_false.2 (no (fun x => x.2.1) h2)
 refine offI (ldI (v := vint p.dry) c1 rfl rfl (good55 hJ (cndI (fun h3 => ?_) fun h3 => hold.2 ?_)))
 rotate_left
 ·rw [s53_1]
  exact cnd_false.2 (no (fun x => x.2.2.1) h3)
 refine offI (ldI (v := vint p.wet) c1 rfl rfl (offI (ldI (v := vint p.dry) c1 rfl rfl (good55 hJ (cndI (fun h4 => ?_) fun h4 => hold.2 ?_)))))
 rotate_left
 ·rw [s53_1]
  exact cnd_false.2 (no (fun x => x.2.2.2.1) h4)
 refine offI (ldI (v := vint p.stubble) c1 rfl rfl (offI (ldI (v := vint p.bears) c1 rfl rfl (good55 hJ (cndI (fun h5 => ?_) fun h5 => hold.2 ?_)))))
 rotate_left
 ·rw [s53_1]
  exact cnd_false.2 (no (fun x => x.2.2.2.2.1) h5)
 refine offI (ldI (v := vint p.sleep) c1 rfl rfl (good55 hJ (hold.2 ?_)))
 rw [s53_1]
 refine cndI (fun h6 => fin 0 ?_) fun h6 => no (fun x => x.2.2.2.2.2) h6
 unfold pasE
 rw [if_pos ⟨h1, h2, h3, h4, h5, h6⟩]
theorem good54 (hJ : Closed prog main J) {s : SkyR} (hK : K (vint (skyE s)) h) : Good prog J 54 [.agg ⟨s.cells⟩] h K := by
 refine g54 hJ fun ok => ?_
 rw [e54]
 refine qBox (l := s.cells) rfl fun H1 p1 e1 S1 c1 l1 => ?_
 have fin : ∀ e : Int, skyE s = e → retL h.length K [] [vint e] H1 := fun e he => by
  subst he
  exact retX ok (Nat.le_refl _) S1 (by simp) (by simp [unk]) (by simp [pack, VOk]) hK
 have no : ∀ {q : Prop}, (skyOk s → q) → ¬ q → retL h.length K [] [vint 1] H1 := fun a b => fin 1 (by unfold skyE; rw [if_neg fun x => b (a x)])
 refine offI (ldI (v := vint s.days) c1 rfl rfl (good55 hJ (cndI (fun h1 => ?_) fun h1 => hold.2 ?_)))
 rotate_left
 ·rw [s54_1]
  exact cnd_false.2 (no (fun x => x.1) h1)
 refine offI (ldI (v := vint s.drought) c1 rfl rfl (offI (ldI (v := vint s.days) c1 rfl rfl (good55 hJ (cndI (fun h2 => ?_) fun h2 => hold.2 ?_)))))
 rotate_left
 ·rw [s54_1]
  exact cnd_false.2 (no (fun x => x.2.1) h2)
 refine offI (ldI (v := vint s.flood) c1 rfl rfl (offI (ldI (v := vint s.days) c1 rfl rfl (good55 hJ (hold.2 ?_)))))
 rw [s54_1]
 refine cndI (fun h3 => fin 0 ?_) fun h3 => no (fun x => x.2.2) h3
 unfold skyE
 rw [if_pos ⟨h1, h2, h3⟩]
theorem good52 (hJ : Closed prog main J) {v : Value} {a b : Int} (hs : Sli H v 1 2 [vint a, vint b]) (hK : K (vint (fst2 a b)) H) : Good prog J 52 [v] H K := by
 refine g52 hJ fun ok => ?_
 rw [e52]
 have hs' : Sli H v 1 ([a, b] : List Int).length (([a, b] : List Int).map vint) := hs
 refine lenI hs ?_
 refine l52_1 hJ (fun i : Nat => 2 - i) (fun i F H' => H' = H ∧ i ≤ 2 ∧ (1 ≤ i → a = 0) ∧ (2 ≤ i → b = 0) ∧ F.ds = [] ∧ F.r 5 = v ∧ F.r 6 = vint (2 : Nat) ∧ F.r 7 = vint (i : Nat)) ?_ (s := 0)
  (.inl ⟨rfl, by omega, by omega, by omega, rfl, rfl, rfl, rfl⟩)
 rintro i F H' ⟨rfl, hi, ha, hb, ds, r5, r6, r7⟩ okc hnc
 rw [s52_1, r5, r6, r7, ds]
 refine lssI (cndI (fun hlt => ?_) fun hge => ?_)
 rotate_left
 ·have h1 := ha (by omega)
  have h2 := hb (by omega)
  refine retL_same (by simp [unk]) ?_
  unfold fst2 at hK
  rw [if_neg (by omega), h2] at hK
  exact hK
 have hil : i < 2 := by omega
 by_cases e : i = 0
 ·subst e
  refine sliN hs' (i := 0) (x := a) rfl fun q => neqI (cndI (fun hne => retL_same (by simp [unk]) ?_) fun heq => addI (by omega) ⟨1, by decide, .inl ⟨rfl, by omega, fun _ => by omega, by omega, ds, r5, r6, rfl⟩⟩)
  unfold fst2 at hK
  rw [if_pos hne] at hK
  exact hK
 ·have : i = 1 := by omega
  subst this
  have h1 := ha (by omega)
  refine sliN hs' (i := 1) (x := b) rfl fun q => neqI (cndI (fun hne => retL_same (by simp [unk]) ?_) fun heq => addI (by omega) ⟨2, by decide, .inl ⟨rfl, by omega, fun _ => h1, fun _ => by omega, ds, r5, r6, rfl⟩⟩)
  unfold fst2 at hK
  rw [if_neg (by omega)] at hK
  exact hK
theorem fillM {p : Pas} {a b : Int} {KL : List Value → Prop} (hk : KL (medC p (a, b))) : aFill [(vint 0), (vint 0), (vint 0), (vint 0), (vint 0), (vint 0), (vint 0), (vint 0)] [(0, 6, .agg ⟨p.cells⟩), (6, 2, .agg ⟨[vint a, vint b]⟩)] KL := by
 refine fillO (l := p.cells) rfl rfl rfl (by decide) (fillO (l := [vint a, vint b]) rfl rfl rfl (by rw [wrAt_length]; decide) (fillI hk))
theorem good62 (hJ : Closed prog main J) {p : Pas} (hK : ∀ H' m, m = H'.length - 1 → SameX [] H H' → H'[m]? = some (.cells (medC p (p.grass, 0)) true 0) → H.length ≤ m → K (ptr m 0) H') : Good prog J 62 [.agg ⟨p.cells⟩] H K := by
 refine g62 hJ fun ok => ?_
 rw [e62]
 refine qBox (l := p.cells) rfl fun H1 p1 e1 S1 c1 l1 => load_part (c := p.cells) c1 (by simp [Pas.cells]) rfl rfl (offI (ldI (v := vint p.grass) c1 rfl rfl ?_))
 refine fillO (l := [vint p.grass]) rfl rfl rfl (by decide) (fillI (fillM (qBox (l := medC p (p.grass, 0)) rfl fun H2 p2 e2 S2 c2 l2 => retL_same (by simp [unk]) (hK H2 p2 (by omega) (S1.trans S2) c2 (by omega)))))
theorem good63 (hJ : Closed prog main J) {p : Pas} {x : Std} {n : Int} {w : Bool} {m : Nat} (hm : H[m]? = some (.cells (medC p x) true 0)) (f : pasOk p) (o : StdOk p x) (hn : 0 ≤ n ∧ n ≤ 1000000)
  (hK : ∀ H', SameX [m] H H' → H'[m]? = some (.cells (medC p (dayR p x n w)) true 0) → K (.tuple ⟨[.bool (hungR x n), .bool (shortR p x n)]⟩) H') : Good prog J 63 [ptr m 0, vint n, .bool w] H K := by
 refine g63 hJ fun ok => ?_
 rw [e63]
 have og := o.g
 have oa := o.a
 have hb := leftR_bd o hn.1
 obtain ⟨f1, f2, f3, f4, f5, f6⟩ := f
 have mc : ∀ (a b : Int), medC p (a, b) = [vint p.grass, vint p.bears, vint p.dry, vint p.wet, vint p.stubble, vint p.sleep, vint a, vint b] := fun a b => rfl
 obtain ⟨xa, xb⟩ := x
 dsimp only at og oa
 rw [mc] at hm
 refine nilI (offI (offI (ldI (v := vint xa) hm rfl rfl (gtrI ?_))))
 refine nilI (offI (offI (ldI (v := vint xa) hm rfl rfl ?_)))
 refine nilI (offI (offI (ldI (v := vint xa) hm rfl rfl (minI (subI (by omega) ?_)))))
 refine nilI (offI (offI (qSt hm (by simp) rfl rfl fun H1 S1 c1 l1 => ?_)))
 have el : xa - min n xa = leftR (xa, xb) n := rfl
 rw [el] at c1 ⊢
 have c1 : H1[m]? = some (.cells (medC p (leftR (xa, xb) n, xb)) true 0) := c1
 -- behind the eating
 have post : ∀ {F : RG}, F.ds = [] → F.r 0 = ptr m 0 → F.r 2 = .bool w → F.r 6 = .bool (hungR (xa, xb) n) → F.r 7 = .bool (shortR p (xa, xb) n) →
   W prog J 119 H.length 63 (subC [1, 1, 1, 1] (codeOf f63)) F H1 (contX pl63 prog J 119 H.length 63 ct63 [1, 1, 1, 1] (codeOf f63) [] (RetQ prog [.tmp 6, .tmp 7] H.length K)) := by
  intro F ds r0 r2 r6 r7
  rw [s63_1, r0, r2, r6, r7, ds]
  have fin : ∀ {y : Std} {H2 : List AObj}, dayR p (xa, xb) n w = y → SameX [m] H1 H2 → H2[m]? = some (.cells (medC p y) true 0) → retL H.length K [] [.bool (hungR (xa, xb) n), .bool (shortR p (xa, xb) n)] H2 := fun hy S2 c2 => by
   subst hy
   exact retL_same (by simp [unk]) (hK _ (S1.trans S2) c2)
  rw [mc] at c1
  refine cndB (fun hs => ?_) fun hs => ?_
  ·refine nilI (offI (offI (ldI (v := vint p.sleep) c1 rfl rfl (nilI (offI (offI (qSt c1 (by simp) rfl rfl fun H2 S2 c2 l2 => ?_)))))))
   refine fin (y := (leftR (xa, xb) n, p.sleep)) ?_ S2 c2
   unfold dayR
   rw [if_pos hs]
  ·have hs' : ¬ shortR p (xa, xb) n = true := by rw [hs]; decide
   refine nilI (offI (offI (ldI (v := vint xb) c1 rfl rfl (gtrI (cndI (fun h0 => ?_) fun h0 => ?_)))))
   ·refine nilI (offI (offI (ldI (v := vint xb) c1 rfl rfl (subI (by omega) (nilI (offI (offI (qSt c1 (by simp) rfl rfl fun H2 S2 c2 l2 => ?_))))))))
    refine fin (y := (leftR (xa, xb) n, xb - 1)) ?_ S2 c2
    unfold dayR
    rw [if_neg hs', if_pos h0]
   ·refine cndB (fun hw => ?_) fun hw => ?_
    ·refine nilI (offI (offI (ldI (v := vint p.bears) c1 rfl rfl (nilI (offI (offI (ldI (v := vint (leftR (xa, xb) n)) c1 rfl rfl (nilI (offI (offI (ldI (v := vint p.wet) c1 rfl rfl (addI (by omega) (minI (nilI (offI (offI (qSt c1 (by simp) rfl rfl fun H2 S2 c2 l2 => ?_)))))))))))))))))
     refine fin (y := (min p.bears (leftR (xa, xb) n + p.wet), xb)) ?_ S2 c2
     unfold dayR
     rw [if_neg hs', if_neg h0, if_pos hw]
    ·refine nilI (offI (offI (ldI (v := vint p.bears) c1 rfl rfl (nilI (offI (offI (ldI (v := vint (leftR (xa, xb) n)) c1 rfl rfl (nilI (offI (offI (ldI (v := vint p.dry) c1 rfl rfl (addI (by omega) (minI (nilI (offI (offI (qSt c1 (by simp) rfl rfl fun H2 S2 c2 l2 => ?_)))))))))))))))))
     refine fin (y := (min p.bears (leftR (xa, xb) n + p.dry), xb)) ?_ S2 c2
     unfold dayR
     rw [if_neg hs', if_neg h0, if_neg (by rw [hw]; decide)]
 refine gtrI (cndI (fun h0 => ?_) fun h0 => hold.2 ?_)
 ·rw [mc] at c1
  refine nilI (offI (offI (ldI (v := vint (leftR (xa, xb) n)) c1 rfl rfl (nilI (offI (offI (ldI (v := vint p.stubble) c1 rfl rfl (lssI (hold.2 ?_)))))))))
  refine post rfl rfl rfl rfl ?_
  show Value.bool _ = Value.bool _
  unfold shortR
  rw [decide_eq_true h0]
  rfl
 ·refine post rfl rfl rfl rfl ?_
  show Value.bool _ = Value.bool _
  unfold shortR
  rw [decide_eq_false h0]
  rfl
theorem good67 (hJ : Closed prog main J) {s : SkyR} {x : Spl} {c : UInt8} (hx : -1 ≤ x.2 ∧ x.2 ≤ 1000000) (hK : ∀ H', SameX [] H H' → K (.tuple ⟨[.agg ⟨spC (nextX x c)⟩, .bool (nextOk s x c)]⟩) H') : Good prog J 67 [.agg ⟨spC x⟩, .agg ⟨s.cells⟩, .int .u8 c.toNat] H K := by
 refine g67 hJ fun ok => ?_
 rw [e67]
 refine qBox (l := spC x) rfl fun H1 p1 e1 S1 c1 l1 => qBox (l := s.cells) rfl fun H2 p2 e2 S2 c2 l2 => qAl fun H3 p3 e3 S3 c3 l3 => ?_
 have c13 := S3.get (S2.get c1 (by simp)) (by simp)
 have c23 := S3.get c2 (by simp)
 have T3 := (S1.trans S2).trans S3
 refine offI (ldI (v := .int .u8 x.1.toNat) c13 rfl rfl (neqU (cndI (fun hne => ?_) fun heq => ?_)))
 ·refine fillO (l := [.int .u8 c.toNat]) rfl rfl rfl (by decide) (fillO (l := [vint 1]) rfl rfl rfl (by rw [wrAt_length]; decide) (fillI ?_))
  refine qStA (c := spC (c, 1)) c3 rfl rfl rfl fun H4 S4 c4 l4 => ?_
  refine retQs rfl (resW_cell (gg := true) (s := 2) (by kernel_rfl) (load_part (c := spC (c, 1)) c4 (by simp [spC]) rfl rfl (resW_tmp (by simp [unk, RG.p]) (resW_nil ?_))))
  have := hK H4 (T3.thru S4 (by simp; omega))
  unfold nextX nextOk at this
  rw [if_pos hne, if_pos hne] at this
  exact this
 ·have heq : x.1 = c := Classical.not_not.1 heq
  have post : ∀ {F : RG} {most : Int}, most = (if c = 119 then s.flood else s.drought) → F.ds = [] → F.r 2 = .int .u8 c.toNat → F.r 3 = ptr p1 0 → F.r 6 = ptr p3 0 → F.r 8 = vint most →
    W prog J 30 H.length 67 (subC [1, 1, 1, 1] (codeOf f67)) F H3 (contX pl67 prog J 30 H.length 67 ct67 [1, 1, 1, 1] (codeOf f67) [] (RetQ prog [.cell 6 118, .tmp 7] H.length K)) := by
   intro F most hm ds r2 r3 r6 r8
   rw [s67_1, r2, r3, r6, r8]
   refine ⟨[p1], offI (ldI (v := vint x.2) c13 rfl rfl ⟨by simp [RdOk, ptrBlk], addI (by omega) ?_⟩)⟩
   refine fillO (l := [.int .u8 c.toNat]) rfl rfl rfl (by decide) (fillO (l := [vint (x.2 + 1)]) rfl rfl rfl (by rw [wrAt_length]; decide) (fillI ?_))
   refine offI (ldI (v := vint x.2) c13 rfl rfl ⟨by simp [RdOk, ptrBlk], lssI ?_⟩)
   refine qStA (c := spC (c, x.2 + 1)) c3 rfl rfl rfl fun H4 S4 c4 l4 => ⟨sbOne S4 (lt_of_get c13) (by simp; omega), ?_⟩
   refine retQs ds (resW_cell (gg := true) (s := 2) (by kernel_rfl) ?_)
   show aLoad true 2 (F.r 6) H4 _
   rw [r6]
   refine load_part (c := spC (c, x.2 + 1)) c4 (by simp [spC]) rfl rfl (resW_tmp (by simp [unk, RG.p]) (resW_nil ?_))
   have := hK H4 (T3.thru S4 (by simp; omega))
   unfold nextX nextOk at this
   rw [if_neg (not_not_intro heq), if_neg (not_not_intro heq), ← hm] at this
   exact this
  refine offI (ldI (v := vint s.drought) c23 rfl rfl ?_)
  have e119 : (Value.int .u8 119) = .int .u8 (119 : UInt8).toNat := rfl
  rw [e119]
  refine eqlU (cndI (fun hw => ?_) fun hw => hold.2 ?_)
  ·exact offI (ldI (v := vint s.flood) c23 rfl rfl (hold.2 (post (most := s.flood) (by rw [if_pos hw]) rfl rfl rfl rfl rfl)))
  ·exact post (most := s.drought) (by rw [if_neg hw]) rfl rfl rfl rfl rfl
end
def bV (b : UInt8) : Value := .int .u8 b.toNat
def strV (w : List UInt8) : Value := .string ⟨⟨w⟩⟩
theorem kn_bV (w : List UInt8) : kn (w.map bV) = true := by
 simp [kn, kn1, bV]
theorem bytes_bV : ∀ w : List UInt8, bytesOf (w.map bV) = some w
 | [] => rfl
 | b :: w => by
  show (match byteOf (bV b), bytesOf (w.map bV) with
   | some b, some bs => some (b :: bs)
   | _, _ => none) = _
  rw [bytes_bV w]
  have : byteOf (bV b) = some b := by
   show some (UInt8.ofNat ((b.toNat : Nat) : Int).toNat) = some b
   rw [Int.toNat_natCast, UInt8.ofNat_toNat]
  rw [this]
def growF (ps py pg : Nat) : Value := .func (.func 66) ⟨[]⟩ ⟨[ptr ps 0, ptr py 0, ptr pg 0]⟩
def TillZ (n : Nat) (O : List Nat) (h H : List AObj) : Prop := h.length ≤ H.length ∧ ∀ i, i < n ∨ i ∈ O → H[i]? = h[i]?
structure Rnd (J : JT) (L : List (List UInt8)) (y : Value) (X : List Nat) (Hs : List AObj) (I : Nat → List Nat → List AObj → Prop) (St : List AObj → Prop) : Prop where
 hX : ∀ x ∈ X, x < Hs.length
 hO : ∀ {k O H'}, I k O H' → ∀ x ∈ O, x < H'.length
 hI : ∀ {k O H1 H2}, TillZ Hs.length O H1 H2 → I k O H1 → I k O H2
 round : ∀ (k : Nat) (w : List UInt8) (O : List Nat) (H1 : List AObj) (Q : Value → List AObj → Prop), L[k]? = some w → SameX X Hs H1 → (∀ x ∈ O, Hs.length ≤ x) → I k O H1 → (∀ O' H2, SameX (X ++ O) H1 H2 → (∀ x ∈ O', x ∈ O ∨ H1.length ≤ x) → I (k + 1) O' H2 → Q (.bool true) H2) → (∀ H2, SameX (X ++ O) H1 H2 → St H2 → Q (.bool false) H2) → callV prog (Good prog J) y [strV w] H1 Q
section
variable {main : Bool} {J : JT} {h H : List AObj} {K : Value → List AObj → Prop} {KV : Value → Prop} {HL : List AObj → Prop} {n0 : Nat}
theorem strI {b n m : Nat} {cs : List Value} {wr : Bool} {sz : Nat} {w : List UInt8} (hb : H[b]? = some (.cells cs wr sz)) (hn : w.length = n) (ht : cs.take n = w.map bV) (hk : KV (strV w)) : aB2S (.slice (some ⟨b, 0, none⟩) n m) H KV := by
 unfold aB2S
 simp only [hb]
 have hl : n ≤ cs.length := by
  have := congrArg List.length ht
  simp at this
  omega
 refine ⟨by omega, ?_⟩
 rw [List.drop_zero, ht, bytes_bV]
 exact hk
theorem appB {b k m : Nat} {cs : List Value} {v y : Value} (hb : H[b]? = some (.cells cs true 0)) (hl : cs.length = m) (hk : k < m) (hm : m < 1000) (hc : kn (cs.take k) = true) (hy : Sli H y 1 1 [v])
 (hK : ∀ H', SameX [b] H H' → H'[b]? = some (.cells (cs.set k v) true 0) → H'.length = H.length → K (.slice (some ⟨b, 0, none⟩) (k + 1) m) H') : aApp 1 (.slice (some ⟨b, 0, none⟩) k m) y H K := appIn hb hl hk hm hc hy hK
theorem good66 (hJ : Closed prog main J) {s : SkyR} {L : List (List UInt8)} {y : Value} {X : List Nat} {Hs : List AObj} {I : Nat → List Nat → List AObj → Prop} {St : List AObj → Prop} (R : Rnd J L y X Hs I St) (ky : y.cells = #[y] ∧ one y = true ∧ kn1 y = true)
  {ps py pg pb m : Nat} (hm : m ≤ 8) (hdays : s.days = (m : Int)) (cs0 : Hs[ps]? = some (.cells s.cells true 0)) (nX : ps ∉ X) (n1 : Hs.length ≤ py) (n2 : Hs.length ≤ pg) (n3 : Hs.length ≤ pb) (d1 : pb ≠ py) (d2 : pb ≠ pg) :
  ∀ (left : Nat) (w : List UInt8) (x : Spl) (k : Nat) (O : List Nat) (cs : List Value) {H : List AObj} {K : Value → List AObj → Prop},
  w.length + left = m → 0 ≤ x.2 ∧ x.2 ≤ 100 + w.length → (∀ j, j < (growB s left w x).length → L[k + j]? = (growB s left w x)[j]?) →
  SameX X Hs H → H[py]? = some (.cells [y] true 0) → H[pg]? = some (.cells [growF ps py pg] true 0) → H[pb]? = some (.cells cs true 0) → cs.length = m → cs.take w.length = w.map bV →
  I k O H → (∀ z ∈ O, Hs.length ≤ z ∧ z ≠ py ∧ z ≠ pg ∧ z ≠ pb) →
  (∀ H' O' cs', SameX (pb :: (X ++ O)) H H' → (∀ z ∈ O', z ∈ O ∨ H.length ≤ z) → H'[pb]? = some (.cells cs' true 0) → cs'.length = m → cs'.take w.length = w.map bV → I (k + (growB s left w x).length) O' H' → K (.bool true) H') →
  (∀ H', SameX (pb :: (X ++ O)) H H' → St H' → K (.bool false) H') →
  Good prog J 66 [.slice (some ⟨pb, 0, none⟩) w.length m, .agg ⟨spC x⟩, ptr ps 0, ptr py 0, ptr pg 0] H K
 | 0, w, x, k, O, cs, H, K, hwl, hx, hL, S0, cy, cg, cb, hcl, htk, ik, hO, hK1, hK2 => by
  refine g66 hJ fun ok => ?_
  rw [e66]
  refine qBox (l := spC x) rfl fun H1 p1 e1 S1 c1 l1 => ?_
  have lps := lt_of_get cs0
  have cps := S0.get cs0 nX
  have hs : Sli H1 (.slice (some ⟨pb, 0, none⟩) w.length m) 1 w.length (w.map bV) := ⟨_, _, rfl, ⟨by simp, kn_bV w⟩, .inr ⟨pb, 0, rfl, .inr ⟨cs, true, 0, S1.get cb (by simp), by simpa using htk⟩⟩⟩
  refine lenI hs (offI (ldI (v := vint s.days) (S1.get cps (by simp)) rfl rfl (eqlI (cndI (fun _ => ?_) fun hne => absurd (by rw [hdays]; congr 1) hne))))
  refine ldI (v := y) (S1.get cy (by simp)) rfl ky.2.2 (strI (S1.get cb (by simp)) rfl htk ?_)
  have hS0 := S0.1
  have hlH := lt_of_get cb
  have u : ∀ {H2 : List AObj}, SameX (X ++ O) H1 H2 → SameX (pb :: (X ++ O)) H H2 := fun S => (S1.weak0.trans (S.weak fun x hx => List.mem_cons_of_mem _ hx))
  have n4 : pb ∉ X ++ O := by
   intro hz
   rcases List.mem_append.1 hz with hz | hz
   ·have := R.hX _ hz
    omega
   ·exact (hO _ hz).2.2.2 rfl
  refine R.round k w O H1 _ (by have := hL 0 (by simp [growB]); simpa [growB] using this) (S0.thru S1.weak0 (Y := X) fun _ h => .inl h) (fun z hz => (hO z hz).1) (R.hI ⟨S1.1, fun i hi => S1.2 i (by rcases hi with hi | hi; omega; exact R.hO ik i hi) (by simp)⟩ ik) (fun O' H2 S2 hO' i2 => ?_) fun H2 S2 st => ?_
  ·exact retL_same (by simp [unk]) (hK1 H2 O' cs (u S2) (fun z hz => (hO' z hz).imp id fun h => by have := S1.1; omega) (S2.get (S1.get cb (by simp)) n4) hcl htk i2)
  ·exact retL_same (by simp [unk]) (hK2 H2 (u S2) st)
 | left + 1, w, x, k, O, cs, H, K, hwl, hx, hL, S0, cy, cg, cb, hcl, htk, ik, hO, hK1, hK2 => by
  refine g66 hJ fun ok => ?_
  rw [e66]
  have hfz : (1000 : Nat) < fz := by decide
  refine qBox (l := spC x) rfl fun Ha p1 e1 S1 c1 l1 => ?_
  have lps := lt_of_get cs0
  have hs : Sli Ha (.slice (some ⟨pb, 0, none⟩) w.length m) 1 w.length (w.map bV) := ⟨_, _, rfl, ⟨by simp, kn_bV w⟩, .inr ⟨pb, 0, rfl, .inr ⟨cs, true, 0, S1.get cb (by simp), by simpa using htk⟩⟩⟩
  have hS0 := S0.1
  have lpb := lt_of_get cb
  have lpy := lt_of_get cy
  have lpg := lt_of_get cg
  refine lenI hs (offI (ldI (v := vint s.days) (S1.get (S0.get cs0 nX) (by simp)) rfl rfl (eqlI (cndI (fun he => absurd he (by rw [hdays]; omega)) fun _ => ?_))))
  refine fillO (l := [bV 100]) rfl rfl rfl (by decide) (fillO (l := [bV 119]) rfl rfl rfl (by rw [wrAt_length]; decide) (fillI ?_))
  -- what both letters come to
  let A : List (List UInt8) := if nextOk s x 100 = true then growB s left (w ++ [100]) (nextX x 100) else []
  let B : List (List UInt8) := if nextOk s x 119 = true then growB s left (w ++ [119]) (nextX x 119) else []
  have hAB : growB s (left + 1) w x = A ++ B := rfl
  let off : Nat → Nat := fun i => if i = 0 then 0 else if i = 1 then A.length else A.length + B.length
  refine l66_1 hJ (fun i : Nat => 2 - i) (fun i F H' => ∃ O' cs', i ≤ 2 ∧ SameX (pb :: (X ++ O)) Ha H' ∧ (∀ z ∈ O', z ∈ O ∨ Ha.length ≤ z) ∧ H'[pb]? = some (.cells cs' true 0) ∧ cs'.length = m ∧ cs'.take w.length = w.map bV ∧ I (k + off i) O' H' ∧
    F.ds = [] ∧ F.r 0 = .slice (some ⟨pb, 0, none⟩) w.length m ∧ F.r 2 = ptr ps 0 ∧ F.r 4 = ptr pg 0 ∧ F.r 6 = ptr p1 0 ∧ F.r 21 = .agg ⟨[bV 100, bV 119]⟩ ∧ F.r 22 = vint (i : Nat)) ?_ (s := 0)
   (.inl ⟨O, cs, by omega, SameX.refl, fun z hz => .inl hz, S1.get cb (by simp), hcl, htk, R.hI ⟨S1.1, fun i hi => S1.2 i (by rcases hi with hi | hi; omega; exact R.hO ik i hi) (by simp)⟩ ik, rfl, rfl, rfl, rfl, rfl, rfl, rfl⟩)
  rintro i F Hc ⟨O1, cs1, hi, Sc, hO1, cb1, hcl1, htk1, ik1, ds, r0, r2, r4, r6, r21, r22⟩ okc hnc
  rw [s66_1, r0, r2, r4, r6, r21, r22, ds]
  have hSc := Sc.1
  have hOo : ∀ z ∈ O1, Hs.length ≤ z ∧ z ≠ py ∧ z ≠ pg ∧ z ≠ pb ∧ z ≠ p1 := fun z hz => by
   rcases hO1 z hz with h | h
   ·have := hO z h
    have := R.hO ik z h
    omega
   ·omega
  have notin : ∀ q, q < Hs.length → q ∉ X → q ∉ pb :: (X ++ O) := fun q h1 h2 hm' => by
   rcases List.mem_cons.1 hm' with hz | hz
   ·omega
   ·rcases List.mem_append.1 hz with hz | hz
    ·exact h2 hz
    ·have := (hO _ hz).1
     omega
  have notin2 : ∀ q, Hs.length ≤ q → q ≠ pb → q ∉ O → q ∉ pb :: (X ++ O) := fun q h1 h2 h3 hm' => by
   rcases List.mem_cons.1 hm' with hz | hz
   ·exact h2 hz
   ·rcases List.mem_append.1 hz with hz | hz
    ·have := R.hX _ hz
     omega
    ·exact h3 hz
  have cpsc := Sc.get (S1.get (S0.get cs0 nX) (by simp)) (notin ps lps nX)
  have cyc := Sc.get (S1.get cy (by simp)) (notin2 py n1 (by omega) (fun hz => (hO _ hz).2.1 rfl))
  have cgc := Sc.get (S1.get cg (by simp)) (notin2 pg n2 (by omega) (fun hz => (hO _ hz).2.2.1 rfl))
  have c1c := Sc.get c1 (notin2 p1 (by omega) (by omega) (fun hz => by have := R.hO ik _ hz; omega))
  have T1 : SameX (pb :: (X ++ O)) H Hc := (S1.weak0).trans Sc
  refine lssI (cndI (fun hlt => ?_) fun hge => ?_)
  rotate_left
  ·have : i = 2 := by omega
   subst this
   refine retL_same (by simp [unk]) (hK1 Hc O1 cs1 T1 (fun z hz => (hO1 z hz).imp id fun h => by have := S1.1; omega) cb1 hcl1 htk1 ?_)
   rw [hAB, List.length_append]
   exact ik1
  have hi2 : i < 2 := by omega
  obtain ⟨c, hc, hcv⟩ : ∃ c : UInt8, (c = 100 ∧ i = 0 ∨ c = 119 ∧ i = 1) ∧ [bV 100, bV 119][i]? = some (bV c) := by
   rcases (by omega : i = 0 ∨ i = 1) with h | h
   ·exact ⟨100, .inl ⟨rfl, h⟩, by rw [h]; rfl⟩
   ·exact ⟨119, .inr ⟨rfl, h⟩, by rw [h]; rfl⟩
  -- the part of this letter
  let P : List (List UInt8) := if nextOk s x c = true then growB s left (w ++ [c]) (nextX x c) else []
  have hP : off (i + 1) = off i + P.length ∧ ∀ j, j < P.length → L[k + off i + j]? = P[j]? := by
   rcases hc with ⟨h1, h2⟩ | ⟨h1, h2⟩
   ·subst h1 h2
    refine ⟨by show A.length = 0 + A.length; omega, fun j hj => ?_⟩
    have hj : j < A.length := hj
    have := hL j (by rw [hAB, List.length_append]; omega)
    rw [hAB, List.getElem?_append_left hj] at this
    exact this
   ·subst h1 h2
    refine ⟨rfl, fun j hj => ?_⟩
    have hj : j < B.length := hj
    have := hL (A.length + j) (by rw [hAB, List.length_append]; omega)
    rw [hAB, List.getElem?_append_right (by omega), Nat.add_sub_cancel_left] at this
    show L[k + A.length + j]? = B[j]?
    rw [Nat.add_assoc]
    exact this
  have hidx : aIdxV 2 1 false (.agg ⟨[bV 100, bV 119]⟩) (vint (i : Nat)) = fun KI => KI (bV c) := by
   funext KI
   rcases hc with ⟨h1, h2⟩ | ⟨h1, h2⟩ <;> subst h1 h2 <;> exact propext ⟨fun h => h.2, fun h => ⟨⟨by decide, by decide⟩, h⟩⟩
  rw [hidx]
  refine load_part (c := spC x) c1c (by simp [spC]) rfl rfl (load_part (c := s.cells) cpsc (by simp [SkyR.cells]) rfl rfl ?_)
  refine good67 hJ (by omega) fun H2 S2 => ext0 (ext1 (qAl fun H3 p9 e3 S3 c3 l3 => qStA (c := spC (nextX x c)) c3 rfl rfl rfl fun H4 S4 c4 l4 => ?_))
  have hS2 := S2.1
  have T4 : SameX [] Hc H4 := (S2.trans S3).thru S4 (by simp; omega)
  have hT4 := T4.1
  have ik4 : I (k + off i) O1 H4 := R.hI ⟨T4.1, fun j hj => T4.2 j (by rcases hj with hj | hj; omega; exact R.hO ik1 j hj) (by simp)⟩ ik1
  -- behind this letter
  have next : ∀ {F' : RG} {H5 : List AObj} {O5 : List Nat} {cs5 : List Value}, F'.ds = [] → F'.r 0 = .slice (some ⟨pb, 0, none⟩) w.length m → F'.r 2 = ptr ps 0 → F'.r 4 = ptr pg 0 → F'.r 6 = ptr p1 0 → F'.r 21 = .agg ⟨[bV 100, bV 119]⟩ → F'.r 22 = vint (i : Nat) → F'.r 42 = .bool false →
    SameX (pb :: (X ++ O1)) H4 H5 → (∀ z ∈ O5, z ∈ O1 ∨ H4.length ≤ z) → H5[pb]? = some (.cells cs5 true 0) → cs5.length = m → cs5.take w.length = w.map bV → I (k + off (i + 1)) O5 H5 →
    W prog J 44 H.length 66 (subC [1, 1, 0, 1, 0, 0, 1, 1, 0, 0, 1, 1, 1] (codeOf f66)) F' H5 (contX pl66 prog J 44 H.length 66 ct66 [1, 1, 0, 1, 0, 0, 1, 1, 0, 0, 1, 1, 1] (codeOf f66) [Nx H.length (fun i : Nat => 2 - i) (fun i F H' => ∃ O' cs', i ≤ 2 ∧ SameX (pb :: (X ++ O)) Ha H' ∧ (∀ z ∈ O', z ∈ O ∨ Ha.length ≤ z) ∧ H'[pb]? = some (.cells cs' true 0) ∧ cs'.length = m ∧ cs'.take w.length = w.map bV ∧ I (k + off i) O' H' ∧
    F.ds = [] ∧ F.r 0 = .slice (some ⟨pb, 0, none⟩) w.length m ∧ F.r 2 = ptr ps 0 ∧ F.r 4 = ptr pg 0 ∧ F.r 6 = ptr p1 0 ∧ F.r 21 = .agg ⟨[bV 100, bV 119]⟩ ∧ F.r 22 = vint (i : Nat)) i] (RetQ prog [.tmp 7] H.length K)) := by
   intro F' H5 O5 cs5 ds r0 r2 r4 r6 r21 r22 r42 S5 hO5 cb5 hcl5 htk5 ik5
   rw [s66_2, r42, r22]
   refine cnd_false.2 (addI (by omega) ⟨i + 1, by dsimp only; omega, .inl ⟨O5, cs5, by omega, ?_, fun z hz => ?_, cb5, hcl5, htk5, ik5, ds, r0, r2, r4, r6, r21, by show vint _ = vint _; congr 1⟩⟩)
   ·refine (Sc.thru (T4.weak0 (Y := pb :: (X ++ O))) fun _ h => .inl h).thru S5 fun z hz => ?_
    rcases List.mem_cons.1 hz with hz | hz
    ·exact .inl (by rw [hz]; exact List.mem_cons_self)
    ·rcases List.mem_append.1 hz with hz | hz
     ·exact .inl (List.mem_cons_of_mem _ (List.mem_append_left _ hz))
     ·rcases hO1 z hz with h | h
      ·exact .inl (List.mem_cons_of_mem _ (List.mem_append_right _ h))
      ·exact .inr h
   ·rcases hO5 z hz with h | h
    ·exact hO1 z h
    ·exact .inr (by omega)
  have cb4 := T4.get cb1 (by simp)
  have cg4 := T4.get cgc (by simp)
  have lg4 := lt_of_get cg4
  have l9 : p9 < H4.length := lt_of_get c4
  refine ⟨[pg, p9], cndB (fun hyes => ?_) fun hno => hold.2 ?_⟩
  rotate_left
  ·have hP0 : P.length = 0 := by show (if nextOk s x c = true then _ else []).length = 0; rw [hno]; rfl
   refine next ds r0 r2 r4 r6 r21 r22 rfl SameX.refl (fun z hz => .inl hz) cb4 hcl1 htk1 ?_
   rw [hP.1, hP0]
   exact ik4
  have hPe : P = growB s left (w ++ [c]) (nextX x c) := by show (if nextOk s x c = true then _ else []) = _; rw [if_pos hyes]
  refine ldI (v := growF ps py pg) cg4 rfl rfl ⟨by simp [RdOk, ptrBlk], load_part (c := spC (nextX x c)) c4 (by simp [spC]) rfl rfl ⟨by simp [RdOk, ptrBlk], ?_⟩⟩
  refine ⟨by decide, fillO (l := [bV c]) rfl rfl rfl (by decide) (fillI (qNew fun H5 p5 e5 S5 c5 l5 => ⟨sbTwo S5 lg4 l9 (by simp) (by simp), by decide, ?_⟩))⟩
  have c5 : H5[p5]? = some (.cells [bV c] true 0) := c5
  have y5 := ownX_sli (ownX_new (s := 1) (n := 1) (l := [bV c]) c5 rfl rfl)
  refine appB (S5.get cb4 (by simp)) hcl1 (by omega) (by omega) (by rw [htk1]; exact kn_bV w) y5 fun H6 S6 c6 l6 => ?_
  have T6 : SameX [pb] H4 H6 := S5.weak0.trans S6
  have hT6 := T6.1
  refine ⟨sbTwo T6 lg4 l9 (by simp; omega) (by simp; omega), callCz (by kernel_rfl) ?_⟩
  have hset : (cs1.set w.length (bV c)).take (w.length + 1) = (w ++ [c]).map bV := by
   rw [List.take_add_one, List.take_set_of_le (Nat.le_refl _), htk1, List.getElem?_set_self (by omega)]
   simp
  have hlen : (w ++ [c]).length = w.length + 1 := by simp
  have U6 : SameX [pb] Hc H6 := (T4.weak0).trans T6
  have nx2 : 0 ≤ (nextX x c).2 ∧ (nextX x c).2 ≤ 100 + (w.length + 1 : Nat) := by
   unfold nextX
   split
   ·exact ⟨by dsimp only; omega, by dsimp only; omega⟩
   ·exact ⟨by dsimp only; omega, by dsimp only; omega⟩
  rw [← hlen]
  refine good66 hJ R ky hm hdays cs0 nX n1 n2 n3 d1 d2 left (w ++ [c]) (nextX x c) (k + off i) O1 (cs1.set w.length (bV c)) (by rw [hlen]; omega) (by rw [hlen]; exact nx2) (by rw [← hPe]; exact hP.2)
   ?_ (U6.get cyc (by simp; omega)) (U6.get cgc (by simp; omega)) c6 (by rw [List.length_set, hcl1]) (by rw [hlen]; exact hset)
   (R.hI ⟨by omega, fun j hj => T6.2 j (by rcases hj with hj | hj; omega; exact R.hO ik4 j hj) (by
    rcases hj with hj | hj
    ·simp
     omega
    ·have := hOo j hj
     simp
     omega)⟩ ik4) (fun z hz => by have := hOo z hz; omega) (fun H7 O7 cs7 S7 hO7 c7 hc7 ht7 i7 => ?_) fun H7 S7 st => ?_
  ·refine (S0.thru T1 fun z hz => ?_).thru U6 (by simp; omega)
   rcases List.mem_cons.1 hz with hz | hz
   ·exact .inr (by omega)
   ·rcases List.mem_append.1 hz with hz | hz
    ·exact .inl hz
    ·exact .inr (hO z hz).1
  ·have S47 : SameX (pb :: (X ++ O1)) H4 H7 := (T6.weak (by simp)).trans S7
   have tk7 : cs7.take w.length = w.map bV := by
    have : (cs7.take (w.length + 1)).take w.length = cs7.take w.length := by rw [List.take_take, Nat.min_eq_left (by omega)]
    rw [← this, ← hlen, ht7, List.map_append]
    simp
   refine notI (hold.2 (next ds r0 r2 r4 r6 r21 r22 rfl S47 (fun z hz => (hO7 z hz).imp id fun h => by omega) c7 hc7 tk7 ?_))
   rw [hP.1, hPe, ← Nat.add_assoc]
   exact i7
  ·refine notI (hold.2 ?_)
   rw [s66_2]
   show cnd (.bool true) _ _
   refine cnd_true.2 ?_
   show retL H.length K F.ds [.bool false] H7
   rw [ds]
   have S47 : SameX (pb :: (X ++ O1)) Hc H7 := (U6.weak (by simp)).trans S7
   refine retL_same (by simp [unk]) (hK2 H7 (T1.thru S47 fun z hz => ?_) st)
   rcases List.mem_cons.1 hz with hz | hz
   ·exact .inl (by rw [hz]; exact List.mem_cons_self)
   ·rcases List.mem_append.1 hz with hz | hz
    ·exact .inl (List.mem_cons_of_mem _ (List.mem_append_left _ hz))
    ·rcases hO1 z hz with h | h
     ·exact .inl (List.mem_cons_of_mem _ (List.mem_append_right _ h))
     ·exact .inr (by have := S1.1; omega)
theorem good61 (hJ : Closed prog main J) {s : SkyR} (hK : ∀ H' ps, SameX [] H H' → H'[ps]? = some (.cells s.cells true 0) → H.length ≤ ps → K (.func (.func 65) ⟨[]⟩ ⟨[ptr ps 0]⟩) H') : Good prog J 61 [.agg ⟨s.cells⟩] H K := by
 refine g61 hJ fun ok => ?_
 rw [e61]
 exact qBox (l := s.cells) rfl fun H1 p1 e1 S1 c1 l1 => ⟨rfl, retL_same (by simp [unk]) (hK H1 p1 S1 c1 (by omega))⟩
theorem good65 (hJ : Closed prog main J) {s : SkyR} (f : skyOk s) {y : Value} {X : List Nat} {ps : Nat} {I : Nat → List Nat → List AObj → Prop} {St : List AObj → Prop} (R : Rnd J (rainsB s) y X H I St) (ky : y.cells = #[y] ∧ one y = true ∧ kn1 y = true)
  (cs0 : H[ps]? = some (.cells s.cells true 0)) (nX : ps ∉ X) (h0 : I 0 [] H)
  (hK1 : ∀ H2 O, SameX X H H2 → (∀ z ∈ O, H.length ≤ z) → I (rainsB s).length O H2 → K (.tuple ⟨[]⟩) H2) (hK2 : ∀ H2, SameX X H H2 → St H2 → K (.tuple ⟨[]⟩) H2) : Good prog J 65 [y, ptr ps 0] H K := by
 refine g65 hJ fun ok => ?_
 rw [e65]
 obtain ⟨f1, f2, f3⟩ := f
 have lps := lt_of_get cs0
 refine qBox1 ky.1 ky.2.1 fun H1 py e1 S1 c1 l1 => qAl fun H2 pg e2 S2 c2 l2 => ⟨rfl, qSt c2 (by simp) rfl rfl fun H3 S3 c3 l3 => ?_⟩
 have c3 : H3[pg]? = some (.cells [growF ps py pg] true 0) := c3
 have T3 : SameX [] H H3 := (S1.trans S2).thru S3 (by simp; omega)
 have cy3 := S3.get (S2.get c1 (by simp)) (by simp; omega)
 have cs3 := T3.get cs0 (by simp)
 have lg := lt_of_get c3
 have ls3 := lt_of_get cs3
 refine ⟨[pg, ps], ldI (v := growF ps py pg) c3 rfl rfl ⟨by simp [RdOk, ptrBlk], offI (ldI (v := vint s.days) cs3 rfl rfl ⟨by simp [RdOk, ptrBlk], fillI ⟨by decide, ?_⟩⟩)⟩⟩
 have hrm : (2000 : Nat) < room := by decide
 refine ⟨by omega, by omega, by omega, ?_⟩
 obtain ⟨m, hm⟩ := Int.eq_ofNat_of_zero_le (by omega : (0 : Int) ≤ s.days)
 have em : s.days.toNat = m := by omega
 rw [em]
 generalize hH4 : H3 ++ [AObj.cells (zrep [Value.int .u8 0] m) true 0] = H4
 have c4 : H4[H3.length]? = some (.cells (zrep [Value.int .u8 0] m) true 0) := by rw [← hH4]; simp
 have S4 : SameX [] H3 H4 := by rw [← hH4]; exact SameX.refl.app
 have zl : ∀ n, (zrep [Value.int .u8 0] n).length = n := by
  intro n
  induction n with
  | zero => rfl
  | succ n ih => show ([Value.int .u8 0] ++ zrep [Value.int .u8 0] n).length = n + 1; rw [List.length_append, ih]; simp; omega
 have T4 : SameX [] H H4 := T3.trans S4
 refine ⟨sbTwo S4 lg ls3 (by simp) (by simp), callCz (by kernel_rfl) ?_⟩
 have hT3 := T3.1
 have hr : rainsB s = growB s m [] (0, 0) := by unfold rainsB; rw [em]
 have fin : ∀ {H5 : List AObj} {O : List Nat}, SameX (H3.length :: (X ++ ([] : List Nat))) H4 H5 → SameX X H H5 := fun S5 => by
  refine (T4.weak0 (Y := X)).thru S5 fun z hz => ?_
  rcases List.mem_cons.1 hz with hz | hz
  ·exact .inr (by omega)
  ·exact .inl (by simpa using hz)
 refine good66 hJ R ky (ps := ps) (py := py) (pg := pg) (pb := H3.length) (m := m) (by omega) hm cs0 nX (by omega) (by omega) (by omega) (by omega) (by omega) m [] (0, 0) 0 [] (zrep [Value.int .u8 0] m) (by simp) ⟨by decide, by decide⟩ (fun j _ => by rw [hr, Nat.zero_add]) (T4.weak0 (Y := X)) (S4.get cy3 (by simp)) (S4.get c3 (by simp)) c4 (zl m) rfl
  (R.hI ⟨T4.1, fun i hi => T4.2 i (by rcases hi with hi | hi; exact hi; cases hi) (by simp)⟩ h0) (by simp) (fun H5 O5 cs5 S5 hO5 c5 hc5 ht5 i5 => ?_) fun H5 S5 st => ?_
 ·refine ⟨?_, retL_same (by simp) (hK1 H5 O5 (fin (O := O5) S5) (fun z hz => by rcases hO5 z hz with h | h; cases h; have := S4.1; omega) ?_)⟩
  ·exact sbTwo (X := H3.length :: (X ++ [])) ((S4.weak0).trans S5) lg ls3 (by simp; exact ⟨by omega, fun hz => by have := R.hX _ hz; omega⟩) (by simp; exact ⟨by omega, nX⟩)
  ·rw [hr]
   simpa using i5
 ·refine ⟨?_, retL_same (by simp) (hK2 H5 (fin (O := []) S5) st)⟩
  exact sbTwo (X := H3.length :: (X ++ [])) ((S4.weak0).trans S5) lg ls3 (by simp; exact ⟨by omega, fun hz => by have := R.hX _ hz; omega⟩) (by simp; exact ⟨by omega, nX⟩)
end
def stayH (all from_ days : Nat) (n : Int) : List Int := (List.range all).map fun i => if from_ ≤ i ∧ i < from_ + days then n else 0
def fedB (p : Pas) (heads : List Int) (s : SkyR) : Bool := (rainsB s).all fun w => decide (starvR p heads w < 0)
def stayB (p : Pas) (s : SkyR) (n from_ days : Int) : Bool := fedB p (stayH s.days.toNat from_.toNat days.toNat n) s
def topH (q : Int → Bool) : Nat → Int
 | 0 => 0
 | n + 1 => if q ((n + 1 : Nat) : Int) = true then ((n + 1 : Nat) : Int) else topH q n
def headE (p : Pas) (s : SkyR) (from_ days : Int) : Int :=
 if fst2 (pasE p) (skyE s) ≠ 0 then fst2 (pasE p) (skyE s) else if ¬ (0 ≤ from_ ∧ from_ ≤ s.days - 1) then 3 else if ¬ (1 ≤ days ∧ days ≤ s.days - from_) then 1 else 0
def headN (p : Pas) (s : SkyR) (from_ days : Int) : Int := if headE p s from_ days = 0 then topH (fun n => stayB p s n from_ days) 40 else 0
theorem stayH_len {a f d : Nat} {n : Int} : (stayH a f d n).length = a := by simp [stayH]
theorem stayH_get {a f d i : Nat} {n : Int} (h : i < a) : (stayH a f d n)[i]? = some (if f ≤ i ∧ i < f + d then n else 0) := by
 unfold stayH
 rw [List.getElem?_map, List.getElem?_range h]
 rfl
theorem stayH_getD {a f d i : Nat} {n : Int} (h : i < a) : (stayH a f d n).getD i 0 = if f ≤ i ∧ i < f + d then n else 0 := by
 rw [List.getD_eq_getElem?_getD, stayH_get h]
 rfl
theorem stayH_out {a f d i : Nat} {n : Int} (h : f + d ≤ i) : (stayH a f d n).getD i 0 = 0 := by
 by_cases e : i < a
 ·rw [stayH_getD e, if_neg (by omega)]
 ·rw [List.getD_eq_getElem?_getD, List.getElem?_eq_none (by rw [stayH_len]; omega)]
  rfl
theorem stayH_zero {a f : Nat} {n : Int} : stayH a f 0 n = List.replicate a 0 := by
 apply List.ext_getElem?
 intro i
 by_cases h : i < a
 ·rw [stayH_get h, if_neg (by omega), List.getElem?_replicate, if_pos h]
 ·rw [List.getElem?_eq_none (by rw [stayH_len]; omega), List.getElem?_eq_none (by simp; omega)]
theorem stayH_set {a f d : Nat} {n : Int} (h : f + d < a) : (stayH a f d n).set (f + d) n = stayH a f (d + 1) n := by
 apply List.ext_getElem?
 intro i
 rw [List.getElem?_set]
 by_cases e : f + d = i
 ·subst e
  rw [if_pos rfl, stayH_len, if_pos h, stayH_get h, if_pos (by omega)]
 ·rw [if_neg e]
  by_cases hi : i < a
  ·rw [stayH_get hi, stayH_get hi]
   congr 1
   by_cases x : f ≤ i ∧ i < f + d
   ·rw [if_pos x, if_pos (by omega)]
   ·rw [if_neg x, if_neg (by omega)]
  ·rw [List.getElem?_eq_none (by rw [stayH_len]; omega), List.getElem?_eq_none (by rw [stayH_len]; omega)]
theorem stayH_ok {a f d : Nat} {n : Int} (h : 0 ≤ n ∧ n ≤ 40) : headsOk (stayH a f d n) := by
 intro x hx
 unfold stayH at hx
 obtain ⟨i, _, rfl⟩ := List.mem_map.1 hx
 split
 ·exact h
 ·exact ⟨Int.le_refl _, by decide⟩
theorem stay_after {p : Pas} {a f d : Nat} {n : Int} {w : List UInt8} (fp : pasOk p) (hn : 0 ≤ n ∧ n ≤ 40) {i : Nat} (h : f + d ≤ i) : hungAt p (stayH a f d n) w i = false := by
 unfold hungAt hungR
 rw [stayH_out h]
 have := (stdR_ok (rain := w) fp (stayH_ok (a := a) (f := f) (d := d) hn) i).g
 exact decide_eq_false (by omega)
theorem starv_none {p : Pas} {a f d : Nat} {n : Int} {w : List UInt8} (fp : pasOk p) (hn : 0 ≤ n ∧ n ≤ 40) (h : ∀ i, i < f + d → hungAt p (stayH a f d n) w i = false) : starvR p (stayH a f d n) w < 0 := by
 have : starvR p (stayH a f d n) w = -1 := fstH_none fun i _ => by
  by_cases e : i < f + d
  ·exact h i e
  ·exact stay_after fp hn (by omega)
 rw [this]
 decide
theorem starv_some {p : Pas} {heads : List Int} {w : List UInt8} {i : Nat} (hi : i < w.length) (h : hungAt p heads w i = true) : ¬ starvR p heads w < 0 := by
 have := fstH_pos (q := hungAt p heads w) h hi
 unfold starvR
 omega
section
variable {main : Bool} {J : JT} {h H : List AObj} {K : Value → List AObj → Prop} {KV : Value → Prop} {HL : List AObj → Prop} {n0 : Nat}
theorem eqlW {t : TypeId} {b : UInt8} (hk : KV (.bool (wetB b))) : aBin prog .eql t (.int .u8 b.toNat) (.int .u8 119) KV := by
 have e119 : (Value.int .u8 119) = .int .u8 (119 : UInt8).toNat := rfl
 rw [e119]
 exact eqlU hk
noncomputable abbrev lpS (st : LoopState) (pend : Option Code) (r : Nat → Value) (d : Nat) : AObj := .loop st pend 56 r 60 #[35] (subC [1, 0, 1, 1, 1, 1, 0, 1, 0, 0] (codeOf f56)) (subC [1, 0, 1, 1, 1, 1, 0, 1, 0, 1] (codeOf f56)) d
theorem roundS (hJ : Closed prog main J) {l d p5 p8 p9 p11 p13 pl a fr dy : Nat} {R : Nat → Value} {p : Pas} {n : Int} {w : List UInt8} {Q : Value → List AObj → Prop} (f : pasOk p) (hn : 0 ≤ n ∧ n ≤ 40) (ha : a ≤ 8) (hfd : fr + dy ≤ a) (hw : w.length = a)
  (hl : H[l]? = some (lpS .ready none R d)) (r5 : R 5 = ptr p5 0) (r8 : R 8 = ptr p8 0) (r9 : R 9 = ptr p9 0) (r11 : R 11 = ptr p11 0) (r13 : R 13 = ptr p13 0)
  (c5 : H[p5]? = some (.cells p.cells true 0)) (c8 : H[p8]? = some (.cells [vint (fr : Nat)] true 0)) (c9 : H[p9]? = some (.cells [vint (dy : Nat)] true 0)) (c11 : H[p11]? = some (.cells [.slice (some ⟨pl, 0, none⟩) a a] true 0)) (cl : H[pl]? = some (.cells ((stayH a fr dy n).map vint) true 0)) (c13 : H[p13]? = some (.cells [.bool true] true 0))
  (n5 : p5 ≠ l) (n8 : p8 ≠ l) (n9 : p9 ≠ l) (n11 : p11 ≠ l) (n13 : p13 ≠ l) (nl : pl ≠ l)
  (k1 : ∀ H', starvR p (stayH a fr dy n) w < 0 → SameX [l] H H' → H'[l]? = some (lpS .ready none R d) → Q (.bool true) H')
  (k2 : ∀ H', ¬ starvR p (stayH a fr dy n) w < 0 → SameX [l, p13] H H' → H'[l]? = some (lpS .done (some (.exit 2)) R d) → H'[p13]? = some (.cells [.bool false] true 0) → Q (.bool false) H') :
  callV prog (Good prog J) (.func (.yield l) ⟨[]⟩ ⟨[]⟩) [strV w] H Q := by
 show Good prog J (yid prog l) [strV w] H Q
 refine good_round hJ hl rfl (by decide) fun ok => W_sound hJ mixed _ ?_
 rw [a56_2]
 refine ⟨rfl, none, _, _, _, _, _, _, _, hl, W_sound hJ mixed _ ?_⟩
 rw [b56_2]
 have hll := lt_of_get hl
 have hl3 : (H.set l (lpS .busy none R d))[l]? = some (lpS .busy none R d) := List.getElem?_set_self hll
 have S3 : SameX [l] H (H.set l (lpS .busy none R d)) := SameX.refl.set (.inl (by simp))
 generalize H.set l (lpS .busy none R d) = H3 at hl3 S3
 have hsl := S3.1
 show aLoad true 6 (R 5) _ _
 rw [r5]
 refine load_part (c := p.cells) (S3.get c5 (by simpa using n5)) (by simp [Pas.cells]) rfl rfl ?_
 refine good62 hJ fun H4 m em S4 c4 hm => ?_
 have S04 : SameX [l] H H4 := S3.trans S4.weak0
 show aLoad false 1 (R 8) _ _
 rw [r8]
 refine ldI (v := vint (fr : Nat)) (S04.get c8 (by simpa using n8)) rfl rfl ?_
 show aLoad false 1 (R 9) _ _
 rw [r9]
 refine ldI (v := vint (dy : Nat)) (S04.get c9 (by simpa using n9)) rfl rfl (addI (by omega) ?_)
 have hho := stayH_ok (a := a) (f := fr) (d := dy) hn
 have e5 : ((fr : Nat) : Int) + ((dy : Nat) : Int) = ((fr + dy : Nat) : Int) := by omega
 rw [e5]
 have h3 : H.length ≤ m := by omega
 have hl4 := S4.get hl3 (by simp)
 refine l56_3 hJ (fun k : Nat => fr + dy - k) (fun k F H' => k ≤ fr + dy ∧ SameX [m] H4 H' ∧ H'[m]? = some (.cells (medC p (stdR p (stayH a fr dy n) w k)) true 0) ∧ (∀ i, i < k → hungAt p (stayH a fr dy n) w i = false) ∧ F.r 11 = ptr p11 0 ∧ F.r 13 = ptr p13 0 ∧ F.r 14 = strV w ∧ F.r 15 = ptr m 0 ∧ F.r 40 = vint ((fr + dy : Nat) : Int) ∧ F.r 41 = vint (k : Nat)) ?_ (s := 0)
  (.inl ⟨by omega, SameX.refl, c4, fun i hi => absurd hi (Nat.not_lt_zero _), r11, r13, rfl, rfl, rfl, rfl⟩)
 rintro k F H' ⟨hk, S, cm, hno, q11, q13, q14, q15, q40, q41⟩ okc hnc
 rw [s56_3, q11, q13, q14, q15, q40, q41]
 have T : SameX [l] H H' := S04.thru S (by simp; omega)
 have hlH : H'[l]? = some (lpS .busy none R d) := S.get hl4 (by simp; omega)
 have hll' := lt_of_get hlH
 have d11 := T.get c11 (by simpa using n11)
 have dl := T.get cl (by simpa using nl)
 have l11 := lt_of_get c11
 have ll := lt_of_get cl
 have hT := T.1
 refine lssI (cndI (fun hlt => ?_) fun hge => ?_)
 rotate_left
 ·have : k = fr + dy := by omega
  subst this
  refine ⟨.busy, none, _, _, _, _, _, _, _, hlH, .inl (k1 _ (starv_none f hn hno) (T.set (.inl (by simp))) (List.getElem?_set_self hll'))⟩
 have hka : k < a := by omega
 have hb : w[k]? = some (w.getD k 0) := by
  rw [List.getD_eq_getElem?_getD, List.getElem?_eq_getElem (by omega)]
  rfl
 have hbd := headsOk_getD hho k
 refine ⟨[p11, pl], ldI (v := .slice (some ⟨pl, 0, none⟩) a a) d11 rfl rfl ⟨by simp [RdOk, ptrBlk], idxI ⟨by omega, by omega⟩ ?_⟩⟩
 have hx : ((stayH a fr dy n).map vint)[0 + ((k : Nat) : Int).toNat * 1]? = some (vint ((stayH a fr dy n).getD k 0)) := by
  rw [Int.toNat_natCast, Nat.mul_one, Nat.zero_add, List.getElem?_map, stayH_get hka, stayH_getD hka]
  rfl
 refine ldI (v := vint ((stayH a fr dy n).getD k 0)) dl hx rfl ⟨by simp [RdOk, ptrBlk], byteI hb (eqlW ?_)⟩
 refine good63 hJ cm f (stdR_ok f hho k) ⟨hbd.1, by omega⟩ fun H8 S8 c8' => ⟨sbTwo S8 (by omega) (by omega) (by simp; omega) (by simp; omega), ext0 (ext1 (cndB (fun hy => ?_) fun hno' => ?_))⟩
 ·have T8 : SameX [l] H H8 := T.thru S8 (by simp; omega)
  refine qSt (T8.get c13 (by simpa using n13)) (by simp) rfl rfl fun H9 S9 c9' l9 => ?_
  have hl8 := S8.get hlH (by simp; omega)
  have hl9 := S9.get hl8 (by simpa using n13.symm)
  have hll9 := lt_of_get hl9
  refine ⟨.busy, none, _, _, _, _, _, _, _, hl9, .inl (k2 _ (starv_some (i := k) (by omega) hy) ?_ (List.getElem?_set_self hll9) (get_set c9' n13))⟩
  exact ((T8.weak (by simp)).trans (S9.weak (by simp))).set (.inl (by simp))
 ·refine addI (by omega) ⟨k + 1, by dsimp only; omega, .inl ⟨by omega, S.trans S8, c8', fun i hi => ?_, q11, q13, q14, q15, q40, by show vint _ = vint _; congr 1⟩⟩
  by_cases e : i = k
  ·rw [e]
   exact hno'
  ·exact hno i (by omega)
theorem good56 (hJ : Closed prog main J) {p : Pas} {s : SkyR} {n : Int} {fr dy : Nat} (f : pasOk p) (g : skyOk s) (hn : 0 ≤ n ∧ n ≤ 40) (hfd : ((fr + dy : Nat) : Int) ≤ s.days)
  (hK : ∀ H', SameX [] H H' → K (.bool (stayB p s n fr dy)) H') : Good prog J 56 [.agg ⟨p.cells⟩, .agg ⟨s.cells⟩, vint n, vint (fr : Nat), vint (dy : Nat)] H K := by
 refine g56 hJ fun ok => ?_
 rw [e56]
 obtain ⟨g1, g2, g3⟩ := id g
 obtain ⟨a, ha⟩ := Int.eq_ofNat_of_zero_le (by omega : (0 : Int) ≤ s.days)
 have ea : s.days.toNat = a := by omega
 refine qBox (l := p.cells) rfl fun H1 p5 e1 S1 c5 l1 => qBox (l := s.cells) rfl fun H2 p6 e2 S2 c6 l2 => qBox1 rfl rfl fun H3 p8 e3 S3 c8 l3 => qBox1 rfl rfl fun H4 p9 e4 S4 c9 l4 => ?_
 have c64 := S4.get (S3.get c6 (by simp)) (by simp)
 refine offI (ldI (v := vint s.days) c64 rfl rfl ⟨by decide, ?_⟩)
 have hrm : (2000 : Nat) < room := by decide
 refine ⟨by omega, Int.le_refl _, by omega, ?_⟩
 rw [ea]
 have zl : ∀ k, zrep [vint 0] k = (List.replicate k (0 : Int)).map vint := by
  intro k
  induction k with
  | zero => rfl
  | succ k ih =>
   show [vint 0] ++ zrep [vint 0] k = _
   rw [ih, List.replicate_succ]
   rfl
 generalize hH5 : H4 ++ [AObj.cells (zrep [vint 0] a) true 0] = H5
 have c4l : H5[H4.length]? = some (.cells ((stayH a fr 0 n).map vint) true 0) := by rw [← hH5, zl, stayH_zero]; simp
 have S5 : SameX [] H4 H5 := by rw [← hH5]; exact SameX.refl.app
 have hl5 : H5.length = H4.length + 1 := by rw [← hH5]; simp
 generalize hpl : H4.length = pl at c4l hl5
 refine qAl fun H6 p11 e6 S6 c11 l6 => qSt c11 (by simp) rfl rfl fun H7 S7 c11' l7 => ?_
 have c11' : H7[p11]? = some (.cells [.slice (some ⟨pl, 0, none⟩) a a] true 0) := c11'
 have S57 : SameX [] H5 H7 := S6.thru S7 (by simp; omega)
 have S47 : SameX [] H4 H7 := S5.trans S57
 have T7 : SameX [] H H7 := (((S1.trans S2).trans S3).trans S4).trans S47
 have d9 := S47.get c9 (by simp)
 have d8 := S47.get (S4.get c8 (by simp)) (by simp)
 have d6 := S47.get c64 (by simp)
 have d5 := S47.get (S4.get (S3.get (S2.get c5 (by simp)) (by simp)) (by simp)) (by simp)
 have dl := S57.get c4l (by simp)
 refine ldI (v := vint (dy : Nat)) d9 rfl rfl ?_
 refine l56_1 hJ (fun i : Nat => dy - i) (fun i F H' => i ≤ dy ∧ SameX [pl] H7 H' ∧ H'[pl]? = some (.cells ((stayH a fr i n).map vint) true 0) ∧ F.ds = [] ∧ F.r 2 = vint n ∧ F.r 5 = ptr p5 0 ∧ F.r 6 = ptr p6 0 ∧ F.r 8 = ptr p8 0 ∧ F.r 9 = ptr p9 0 ∧ F.r 11 = ptr p11 0 ∧ F.r 22 = vint (dy : Nat) ∧ F.r 23 = vint (i : Nat)) ?_ (s := 0)
  (.inl ⟨by omega, SameX.refl, dl, rfl, rfl, rfl, rfl, rfl, rfl, rfl, rfl, rfl⟩)
 rintro i F H' ⟨hi, S, cl, ds, r2, r5, r6, r8, r9, r11, r22, r23⟩ okc hnc
 rw [s56_1, r2, r6, r8, r11, r22, r23]
 have n8 : p8 ≠ pl := by omega
 have x11 := S.get c11' (by simp; omega)
 have x8 := S.get d8 (by simp; omega)
 refine lssI (cndI (fun hlt => ?_) fun hge => ?_)
 ·refine ldI (v := .slice (some ⟨pl, 0, none⟩) a a) x11 rfl rfl (ldI (v := vint (fr : Nat)) x8 rfl rfl (addI (by omega) (idxI ⟨by omega, by omega⟩ ?_)))
  have e1 : 0 + (((fr : Nat) : Int) + ((i : Nat) : Int)).toNat * 1 = fr + i := by omega
  rw [e1]
  refine qSt cl (by simp [stayH_len]; omega) rfl rfl fun H8 S8 c8' l8 => addI (by omega) ⟨i + 1, by dsimp only; omega, .inl ⟨by omega, S.trans S8, ?_, ds, r2, r5, r6, r8, r9, r11, r22, by show vint _ = vint _; congr 1⟩⟩
  rw [c8', ← List.map_set, stayH_set (by omega)]
 have hid : i = dy := by omega
 subst hid
 -- the rains
 have hS := S.1
 refine qAl fun H8 p13 e8 S8 c13 l8 => qSt c13 (by simp) rfl rfl fun H9 S9 c13' l9 => ?_
 have c13' : H9[p13]? = some (.cells [.bool true] true 0) := c13'
 have S79 : SameX [] H' H9 := S8.thru S9 (by simp; omega)
 have S69 : SameX [pl] H7 H9 := S.trans S79.weak0
 refine load_part (c := s.cells) (S69.get d6 (by simp; omega)) (by simp [SkyR.cells]) rfl rfl ?_
 refine good61 hJ fun H10 ps S10 cs10 gs => ?_
 have T10 : SameX [pl] H7 H10 := S69.trans S10.weak0
 have TH : SameX [] H H10 := T7.thru T10 (by simp; omega)
 refine l56_2 hJ (first := []) (cap := [ptr ps 0]) rfl (by decide) ?_
 obtain ⟨R, hRe⟩ : ∃ R : RG, R = RG.p (RG.p (RG.p (RG.p F 24 (.bool (decide (((i : Nat) : Int) < ((i : Nat) : Int))))) 13 (ptr p13 0)) 33 (.agg ⟨s.cells⟩)) 34 (.func (.func 65) ⟨[]⟩ ⟨[ptr ps 0]⟩) := ⟨_, rfl⟩
 rw [← hRe]
 have R5 : R.r 5 = ptr p5 0 := by subst hRe; exact r5
 have R8 : R.r 8 = ptr p8 0 := by subst hRe; exact r8
 have R9 : R.r 9 = ptr p9 0 := by subst hRe; exact r9
 have R11 : R.r 11 = ptr p11 0 := by subst hRe; exact r11
 have R13 : R.r 13 = ptr p13 0 := by subst hRe; rfl
 have Rds : R.ds = [] := by subst hRe; exact ds
 clear hRe
 have hl11 : (H10 ++ [AObj.deferred] ++ [lpS .ready none R.r H10.length])[H10.length + 1]? = some (lpS .ready none R.r H10.length) := by
  rw [List.append_assoc]
  simp
 have hd11 : (H10 ++ [AObj.deferred] ++ [lpS .ready none R.r H10.length])[H10.length]? = some .deferred := by
  rw [List.append_assoc]
  simp
 have hln : (H10 ++ [AObj.deferred] ++ [lpS .ready none R.r H10.length]).length = H10.length + 2 := by simp
 have S11 : SameX [] H10 (H10 ++ [AObj.deferred] ++ [lpS .ready none R.r H10.length]) := SameX.refl.app.app
 generalize hH11 : H10 ++ [AObj.deferred] ++ [lpS .ready none R.r H10.length] = H11 at hl11 hd11 hln S11
 have U : SameX [pl] H7 H11 := T10.trans S11.weak0
 have UH : SameX [] H H11 := TH.trans S11
 have w13 : H11[p13]? = some (.cells [.bool true] true 0) := S11.get (S10.get c13' (by simp)) (by simp)
 have wl : H11[pl]? = some (.cells ((stayH a fr i n).map vint) true 0) := S11.get (S10.get (S79.get cl (by simp)) (by simp)) (by simp)
 have w5 := U.get d5 (by simp; omega)
 have w8 := U.get d8 (by simp; omega)
 have w9 := U.get d9 (by simp; omega)
 have w11 := U.get c11' (by simp; omega)
 have ws : H11[ps]? = some (.cells s.cells true 0) := S11.get cs10 (by simp)
 have b5 := lt_of_get d5
 have b8 := lt_of_get d8
 have b9 := lt_of_get d9
 have b11 := lt_of_get c11'
 have bl := lt_of_get dl
 have b13 := lt_of_get c13'
 have bs := lt_of_get cs10
 have h10 := S10.1
 have fin : ∀ {b : Bool} {H' : List AObj} {pend : Option Code}, b = stayB p s n fr i → SameX [H10.length + 1, p13] H11 H' → H'[p13]? = some (.cells [.bool b] true 0) → (H'[H10.length + 1]? = some (lpS .ready none R.r H10.length) ∨ H'[H10.length + 1]? = some (lpS .done (some (.exit 2)) R.r H10.length)) →
   ∀ v, endQ H10.length R (contX pl56 prog J 60 H.length 56 ct56 [1, 0, 1, 1, 1, 1, 0, 1, 0] (codeOf f56) [] (RetQ prog [.tmp 10] H.length K)) v H' := by
  intro b H' pend hb S h13 hl v
  have hd' := S.get hd11 (by simp; omega)
  have hfin : retL H.length K [H10.length] [.bool b] (H'.set (H10.length + 1) .dead) := by
   refine retLdef (get_set hd' (by omega)) (by simp [unk]) ?_
   rw [hb]
   exact hK _ (((UH.thru S (by simp; omega)).set (.inr (by omega))).set (.inr (by omega)))
  rcases hl with hl | hl
  ·refine endQnorm hl (by simp) ?_
   rw [c56_2]
   show aLoad false 1 (R.r 13) _ _
   rw [R13, Rds]
   exact ldI (v := .bool b) (get_set h13 (by omega)) rfl rfl hfin
  ·refine endQexit hl (by simp) ?_
   rw [c56_2x2]
   show aLoad false 1 (R.r 13) _ _
   rw [R13, Rds]
   exact ldI (v := .bool b) (get_set h13 (by omega)) rfl rfl hfin
 have es : stayB p s n fr i = (rainsB s).all fun w => decide (starvR p (stayH a fr i n) w < 0) := by
  unfold stayB fedB
  rw [ea, Int.toNat_natCast, Int.toNat_natCast]
 have RD : Rnd J (rainsB s) (.func (.yield (H10.length + 1)) ⟨[]⟩ ⟨[]⟩) [H10.length + 1, p13] H11
   (fun k O H' => O = [] ∧ H'[H10.length + 1]? = some (lpS .ready none R.r H10.length) ∧ H'[p13]? = some (.cells [.bool true] true 0) ∧ ∀ j w, j < k → (rainsB s)[j]? = some w → starvR p (stayH a fr i n) w < 0)
   (fun H' => H'[H10.length + 1]? = some (lpS .done (some (.exit 2)) R.r H10.length) ∧ H'[p13]? = some (.cells [.bool false] true 0) ∧ ∃ w ∈ rainsB s, ¬ starvR p (stayH a fr i n) w < 0) := by
  refine ⟨by simp; omega, fun h => by rw [h.1]; simp, fun T hi => ⟨hi.1, by rw [T.2 _ (.inl (by omega))]; exact hi.2.1, by rw [T.2 _ (.inl (by omega))]; exact hi.2.2.1, hi.2.2.2⟩, ?_⟩
  rintro k w O Ha Q hw Sa _ ⟨rfl, i1, i2, i3⟩ q1 q2
  have hwl := rainsB_len (List.mem_of_getElem? hw)
  have ga : ∀ {q : Nat} {o : AObj}, H11[q]? = some o → q ≠ H10.length + 1 → q ≠ p13 → Ha[q]? = some o := fun hq h1 h2 => Sa.get hq (by simp; exact ⟨h1, h2⟩)
  refine roundS hJ (a := a) (fr := fr) (dy := i) (pl := pl) f hn (by omega) (by omega) (by rw [hwl, ea]) i1 R5 R8 R9 R11 R13 (ga w5 (by omega) (by omega)) (ga w8 (by omega) (by omega)) (ga w9 (by omega) (by omega)) (ga w11 (by omega) (by omega)) (ga wl (by omega) (by omega)) i2 (by omega) (by omega) (by omega) (by omega) (by omega) (by omega) (fun Hb hs Sb hlb => ?_) fun Hb hs Sb hlb h13 => ?_
  ·refine q1 [] Hb (Sb.weak (by simp)) (by simp) ⟨rfl, hlb, Sb.get i2 (by simp; omega), fun j u hj hu => ?_⟩
   by_cases e : j = k
   ·rw [e, hw] at hu
    injection hu with hu
    rw [← hu]
    exact hs
   ·exact i3 j u (by omega) hu
  ·exact q2 Hb (Sb.weak (by simp)) ⟨hlb, h13, w, List.mem_of_getElem? hw, hs⟩
 refine good65 hJ g RD ⟨rfl, rfl, rfl⟩ ws (by simp; omega) ⟨rfl, hl11, w13, fun j w hj => absurd hj (Nat.not_lt_zero _)⟩ (fun Hb O Sb _ hi => ?_) fun Hb Sb st => ?_
 ·obtain ⟨_, i1, i2, i3⟩ := hi
  refine fin (b := true) (pend := none) ?_ Sb i2 (.inl i1) _
  rw [es, eq_comm, List.all_eq_true]
  intro w hw
  obtain ⟨j, hj, e⟩ := List.mem_iff_getElem.1 hw
  exact decide_eq_true (i3 j w hj (by rw [List.getElem?_eq_getElem hj, e]))
 ·obtain ⟨i1, i2, w, hw, hs⟩ := st
  refine fin (b := false) (pend := none) ?_ Sb i2 (.inr i1) _
  rw [es, eq_comm, List.all_eq_false]
  exact ⟨w, hw, by rw [decide_eq_false hs]; decide⟩
theorem topH_yes {q : Int → Bool} {m : Nat} (h : q m = true) : ∀ {N : Nat}, m ≤ N → (∀ k : Nat, m < k → k ≤ N → q k = false) → topH q N = m
 | 0, hm, _ => by
  have : m = 0 := by omega
  subst this
  rfl
 | N + 1, hm, hno => by
  unfold topH
  by_cases e : m = N + 1
  ·subst e
   rw [if_pos h]
  ·rw [if_neg (by rw [hno (N + 1) (by omega) (Nat.le_refl _)]; decide)]
   exact topH_yes h (by omega) fun k h1 h2 => hno k h1 (by omega)
theorem topH_none {q : Int → Bool} : ∀ {N : Nat}, (∀ k : Nat, 0 < k → k ≤ N → q k = false) → topH q N = 0
 | 0, _ => rfl
 | N + 1, hno => by
  unfold topH
  rw [if_neg (by rw [hno (N + 1) (by omega) (Nat.le_refl _)]; decide)]
  exact topH_none fun k h1 h2 => hno k h1 (by omega)
theorem good42 (hJ : Closed prog main J) {p : Pas} {s : SkyR} {fr dy : Int} (hK : ∀ H', SameX [] H H' → K (.tuple ⟨[vint (headN p s fr dy), vint (headE p s fr dy)]⟩) H') : Good prog J 42 [.agg ⟨p.cells⟩, .agg ⟨s.cells⟩, vint fr, vint dy] H K := by
 refine g42 hJ fun ok => ?_
 rw [e42]
 refine qBox (l := p.cells) rfl fun H1 p4 e1 S1 c4 l1 => qBox (l := s.cells) rfl fun H2 p5 e2 S2 c5 l2 => ?_
 have c42 := S2.get c4 (by simp)
 have T2 := S1.trans S2
 have b4 := lt_of_get c42
 have b5 := lt_of_get c5
 refine ⟨[p4, p5], load_part (c := p.cells) c42 (by simp [Pas.cells]) rfl rfl ⟨by simp [RdOk, ptrBlk], load_part (c := s.cells) c5 (by simp [SkyR.cells]) rfl rfl ⟨by simp [RdOk, ptrBlk], ?_⟩⟩⟩
 have sb : ∀ {H'}, SameX [] H2 H' → SameB (some [p4, p5]) H2 H' := fun S => sbTwo S b4 b5 (by simp) (by simp)
 refine good53 hJ ⟨sb SameX.refl, good54 hJ ⟨sb SameX.refl, by decide, fillP2 ⟨rfl, rfl⟩ ⟨rfl, rfl⟩ (qNew fun H3 p3 e3 S3 c3 l3 => ⟨sb S3, ?_⟩)⟩⟩
 refine good52 hJ (ownX_sli (ownX_new (s := 1) (n := 2) c3 rfl rfl)) ⟨sb S3, ?_⟩
 have T3 := T2.trans S3
 have c43 := S3.get c42 (by simp)
 have c53 := S3.get c5 (by simp)
 have fin : ∀ {e : Int} {H' : List AObj}, headE p s fr dy = e → e ≠ 0 → SameX [] H H' → retL H.length K [] [vint 0, vint e] H' := fun he h0 S => by
  have := hK _ S
  unfold headN at this
  rw [if_neg (by omega), he] at this
  exact retL_same (nu2 (by simp [unk]) (by simp [unk])) this
 refine neqI (cndI (fun h1 => fin ?_ h1 T3) fun h1 => ?_)
 ·unfold headE; rw [if_pos h1]
 have hf : fst2 (pasE p) (skyE s) = 0 := by omega
 have f : pasOk p := by
  unfold fst2 at hf
  by_cases x : pasE p ≠ 0
  ·rw [if_pos x] at hf
   exact absurd hf x
  ·unfold pasE at x
   split at x
   ·assumption
   ·exact absurd (by decide) x
 have g : skyOk s := by
  unfold fst2 at hf
  by_cases x : pasE p ≠ 0
  ·rw [if_pos x] at hf
   exact absurd hf x
  ·rw [if_neg x] at hf
   unfold skyE at hf
   split at hf
   ·assumption
   ·cases hf
 obtain ⟨g1, g2, g3⟩ := id g
 refine offI (ldI (v := vint s.days) c53 rfl rfl (subI (by omega) (good55 hJ (notI (cndN (fun h2 => fin ?_ (by decide) T3) fun h2 => ?_)))))
 ·unfold headE; rw [if_neg h1, if_pos h2]
 refine offI (ldI (v := vint s.days) c53 rfl rfl (subI (by omega) (good55 hJ (notI (cndN (fun h3 => fin ?_ (by decide) T3) fun h3 => ?_)))))
 ·unfold headE; rw [if_neg h1, if_neg (not_not_intro h2), if_pos h3]
 have h0 : headE p s fr dy = 0 := by unfold headE; rw [if_neg h1, if_neg (not_not_intro h2), if_neg (not_not_intro h3)]
 obtain ⟨a, rfl⟩ := Int.eq_ofNat_of_zero_le (by omega : (0 : Int) ≤ fr)
 obtain ⟨b, rfl⟩ := Int.eq_ofNat_of_zero_le (by omega : (0 : Int) ≤ dy)
 refine l42_1 hJ (fun m : Nat => m) (fun m F H' => m ≤ 40 ∧ SameX [] H3 H' ∧ (∀ k : Nat, m < k → k ≤ 40 → stayB p s k (a : Nat) (b : Nat) = false) ∧ F.ds = [] ∧ F.r 2 = vint (a : Nat) ∧ F.r 3 = vint (b : Nat) ∧ F.r 4 = ptr p4 0 ∧ F.r 5 = ptr p5 0 ∧ F.r 11 = vint (m : Nat)) ?_ (s := 40)
  (.inl ⟨by omega, SameX.refl, fun k h1 h2 => absurd h1 (by omega), rfl, rfl, rfl, rfl, rfl, rfl⟩)
 rintro m F H' ⟨hm, S, hno, ds, r2, r3, r4, r5, r11⟩ okc hnc
 rw [s42_1, r2, r3, r4, r5, r11]
 have last : headN p s (a : Nat) (b : Nat) = m → retL H.length K [] [vint (m : Nat), vint 0] H' := fun he => by
  have := hK H' (T3.trans S)
  rw [he, h0] at this
  exact retL_same (nu2 (by simp [unk]) (by simp [unk])) this
 refine gtrI (cndI (fun hpos => ?_) fun hz => hold.2 ?_)
 ·refine load_part (c := p.cells) (S.get c43 (by simp)) (by simp [Pas.cells]) rfl rfl (load_part (c := s.cells) (S.get c53 (by simp)) (by simp [SkyR.cells]) rfl rfl ?_)
  refine good56 hJ f g (by omega) (by omega) fun H4 S4 => notI (hold.2 ?_)
  rw [s42_2]
  show cnd (.bool (!stayB p s m (a : Nat) (b : Nat))) _ _
  refine cndB (fun hst => ?_) fun hst => ?_
  ·have hst : stayB p s m (a : Nat) (b : Nat) = false := by simpa using hst
   show aBin prog .sub 3 (F.r 11) (vint 1) _
   rw [r11]
   refine subI (by omega) ⟨m - 1, by dsimp only; omega, .inl ⟨by omega, S.trans S4, fun k h1 h2 => ?_, ds, r2, r3, r4, r5, by show vint _ = vint _; congr 1; omega⟩⟩
   by_cases e : k = m
   ·rw [e]
    exact hst
   ·exact hno k (by omega) h2
  ·have hst : stayB p s m (a : Nat) (b : Nat) = true := by simpa using hst
   show retL H.length K F.ds [F.r 11, vint 0] H4
   rw [ds, r11]
   have := hK H4 ((T3.trans S).trans S4)
   unfold headN at this
   rw [if_pos h0, topH_yes (q := fun n => stayB p s n (a : Nat) (b : Nat)) hst hm hno, h0] at this
   exact retL_same (nu2 (by simp [unk]) (by simp [unk])) this
 ·have : m = 0 := by omega
  subst this
  rw [s42_2]
  show cnd (.bool false) _ _
  refine cnd_false.2 ?_
  show retL H.length K F.ds [F.r 11, vint 0] H'
  rw [ds, r11]
  refine last ?_
  unfold headN
  rw [if_pos h0]
  exact topH_none fun k h1 h2 => hno k (by omega) h2
end
def num2 (n : Nat) : List UInt8 := if n < 10 then [UInt8.ofNat (48 + n)] else [UInt8.ofNat (48 + n / 10), UInt8.ofNat (48 + n % 10)]
theorem num2_len (n : Nat) : (num2 n).length ≤ 2 ∧ 0 < (num2 n).length := by
 unfold num2
 split <;> simp
section
variable {main : Bool} {J : JT} {h H : List AObj} {K : Value → List AObj → Prop} {KV : Value → Prop}
theorem slC {s u : List UInt8} {lo hi : Int} (h : 0 ≤ lo ∧ lo ≤ hi ∧ hi ≤ s.length) (hu : (s.take hi.toNat).drop lo.toNat = u) (hk : KV (strV u)) : aSlStr (strV s) (some (vint lo)) (some (vint hi)) KV := by
 subst hu
 show match (bif decide ((0 : Int) ≤ lo) then some lo.toNat else none), (bif decide ((0 : Int) ≤ hi) then some hi.toNat else none) with
  | some l, some u => (l ≤ u ∧ u ≤ s.length) ∧ KV (.string ⟨⟨(s.take u).drop l⟩⟩)
  | _, _ => False
 rw [decide_eq_true h.1, decide_eq_true (by omega : (0 : Int) ≤ hi), cond_true, cond_true]
 exact ⟨⟨by omega, by omega⟩, hk⟩
theorem callCt {g : FuncId} {args cap : List Value} (hg : Nat.blt g prog.funcs.size = true) (hk : Good prog J g (args ++ cap) H K) : callV prog (Good prog J) (.func (.func g) ⟨[]⟩ ⟨cap⟩) args H K := by
 show (bif Nat.blt g prog.funcs.size then Good prog J g ([] ++ args ++ cap) H K else False)
 rw [hg, cond_true, List.nil_append]
 exact hk
theorem catC {t : TypeId} {u v : List UInt8} (hl : u.length + v.length ≤ 1000000) (hk : KV (strV (u ++ v))) : aBin prog .add t (strV u) (strV v) KV := by
 have hrm : (2000000 : Nat) < room := by decide
 show (ByteArray.mk ⟨u⟩).size + (ByteArray.mk ⟨v⟩).size ≤ room ∧ KV (.string (ByteArray.mk ⟨u⟩ ++ ByteArray.mk ⟨v⟩))
 have e1 : (ByteArray.mk ⟨v⟩).size = v.length := rfl
 have e2 : (ByteArray.mk ⟨u⟩).size = u.length := rfl
 have e3 : ByteArray.mk ⟨u⟩ ++ ByteArray.mk ⟨v⟩ = ByteArray.mk ⟨u ++ v⟩ := by
  apply ByteArray.ext
  rw [ByteArray.data_append]
  apply Array.ext'
  rw [Array.toList_append]
 rw [e1, e2, e3]
 exact ⟨by omega, hk⟩
def digs : List UInt8 := [48, 49, 50, 51, 52, 53, 54, 55, 56, 57, 97, 98, 99, 100, 101, 102, 103, 104, 105, 106, 107, 108, 109, 110, 111, 112, 113, 114, 115, 116, 117, 118, 119, 120, 121, 122]
def pairs : List UInt8 := (List.range 100).flatMap fun n => [UInt8.ofNat (48 + n / 10), UInt8.ofNat (48 + n % 10)]
theorem digs_at : ∀ n ∈ List.range 10, (digs.take (n + 1)).drop n = num2 n := of_decide_eq_true (by kernel_rfl)
theorem pairs_at : ∀ n ∈ List.range 100, n < 10 ∨ (pairs.take (n * 2 + 2)).drop (n * 2) = num2 n := of_decide_eq_true (by kernel_rfl)
theorem pairs_len : pairs.length = 200 := by kernel_rfl
theorem sml_form (n : Int) : W prog J 15 H.length 68 (codeOf f68) (RG.mk (regs [vint n]) []) H (RetQ prog [.tmp 2] H.length K) =
  aBin prog .lss 3 (vint n) (vint 10) fun v1 => cnd v1 (aBin prog .add 3 (vint n) (vint 1) fun v2 => aSlStr (strV digs) (some (vint n)) (some v2) fun v3 => retL H.length K [] [v3] H)
   (aBin prog .mul 3 (vint n) (vint 2) fun v4 => aBin prog .mul 3 (vint n) (vint 2) fun v5 => aBin prog .add 3 v5 (vint 2) fun v6 => aSlStr (strV pairs) (some v4) (some v6) fun v7 => retL H.length K [] [v7] H) := by
 rw [e68]
 kernel_rfl
theorem good68 (hJ : Closed prog main J) {n : Nat} (hn : n < 100) (hK : K (strV (num2 n)) H) : Good prog J 68 [vint n] H K := by
 refine g68 hJ fun _ => ?_
 rw [sml_form]
 refine lssI (cndI (fun h => ?_) fun h => ?_)
 ·have h10 : n < 10 := by omega
  refine addI (by omega) (slC (u := num2 n) (by rw [show digs.length = 36 from rfl]; omega) ?_ (retL_same (by simp [unk, strV]) hK))
  have := digs_at n (List.mem_range.2 h10)
  rw [show ((n : Int) + 1).toNat = n + 1 by omega, show ((n : Int)).toNat = n by omega]
  exact this
 ·have h10 : ¬ n < 10 := by omega
  refine mulI (by omega) (mulI (by omega) (addI (by omega) (slC (u := num2 n) (by rw [pairs_len]; omega) ?_ (retL_same (by simp [unk, strV]) hK))))
  have := (pairs_at n (List.mem_range.2 hn)).resolve_left h10
  rw [show ((n : Int) * 2 + 2).toNat = n * 2 + 2 by omega, show ((n : Int) * 2).toNat = n * 2 by omega]
  exact this
theorem good46 (hJ : Closed prog main J) {n : Nat} (hn : n < 100) (hK : K (strV (num2 n)) H) : Good prog J 46 [vint n] H K := by
 refine g46 hJ fun _ => ?_
 rw [e46]
 refine g57 hJ fun _ => ?_
 rw [e57]
 refine g64 hJ fun _ => ?_
 rw [e64]
 refine eqlI (cndI (fun _ => leqI (cndI (fun _ => lssI (hold.2 ?_)) fun h => absurd (Int.natCast_nonneg n) h)) fun h => absurd rfl h)
 rw [s64_1]
 show cnd (.bool (decide ((n : Int) < 100))) _ _
 refine cndI (fun _ => ?_) fun h => absurd (by omega : (n : Int) < 100) h
 show Good prog J 68 [vint n] _ _
 refine good68 hJ hn ?_
 refine retL_same (by simp [unk, strV, pack]) ?_
 refine retL_same (by simp [unk, strV, pack]) ?_
 exact retL_same (by simp [unk, strV, pack]) hK
theorem callI (hJ : Closed prog main J) {n : Nat} (hn : n < 100) (hK : K (strV (num2 n)) H) : callV prog (Good prog J) (.func (.func 46) ⟨[]⟩ ⟨[]⟩) [vint n] H K :=
 callCt (by kernel_rfl) (good46 hJ hn hK)
end
end Go.Proofs.YtmmlamfgbmnkgaaDoor
namespace Go.Proofs.YtmmlamfgbmnkgaaDoor
open Go.Conc Go.Proofs.Tryd
set_option maxRecDepth 100000
set_option maxHeartbeats 4000000
set_option linter.unusedVariables false
section
variable {main : Bool} {J : JT} {n0 : Nat} {h : List AObj} {K : Value → List AObj → Prop}
theorem at26 : prog.funcs[26]? = some f26 := by kernel_rfl
theorem body26 : f26.body = some (codeOf f26) := by kernel_rfl
def pl26 : Plans := []
def ct26 : Cuts := .go
theorem pok26 : plansOk prog pl26 (codeOf f26) = true := by kernel_rfl
theorem e26 {a0 a1 : Value} : W prog J 34 h.length 26 (codeOf f26) (RG.mk (regs [a0, a1]) []) h (RetQ prog [.tmp 4] h.length K) =
(aBox a0 h fun v1 h2 =>
aLoad true 4 v1 h2 fun v3 =>
Good prog J 6 [v3] h2 fun v4 h5 =>
aBin prog .neq 31 v4 (vint 0) fun v6 =>
cnd v6
(retL h.length K [] [v4] h5)
(aLenS a1 fun v7 =>
Good prog J 24 [v7, (vint 1), (vint 5)] h5 fun v8 h9 =>
aBin prog .neq 31 v8 (vint 0) fun v10 =>
cnd v10
(retL h.length K [] [v8] h9)
(aLenS a1 fun v11 =>
Sem J 34 h.length 26 (subC [1, 1, 1, 0, 1, 0] (codeOf f26)) (RG.p (RG.p (RG.p (RG.p (RG.p (RG.p (RG.p (RG.p (RG.p (RG.p (RG.p (RG.p (RG.p (RG.p (RG.p (RG.p (RG.mk (regs [a0, a1]) []) 2 v1) 4 (vint 0)) 9 v3) 10 v4) 5 v4) 11 v4) 12 v6) 14 a1) 15 v7) 16 v8) 6 v8) 17 v8) 18 v10) 20 a1) 21 v11) 22 (vint 0)) h9 (contX pl26 prog J 34 h.length 26 ct26 [1, 1, 1, 0, 1, 0] (codeOf f26) [] (RetQ prog [.tmp 4] h.length K))))) := top_eq pok26 ct26 (by kernel_rfl)
theorem g26 (hJ : Closed prog main J) {a0 a1 : Value} (hs : heapOk h → W prog J 34 h.length 26 (codeOf f26) (RG.mk (regs [a0, a1]) []) h (RetQ prog [.tmp 4] h.length K)) : Good prog J 26 [a0, a1] h K :=
 good_of_W hJ mixed at26 body26 (by kernel_rfl) (Nat.le_of_ble_eq_true rfl) hs
theorem s26_1 {f : RG} {nx0 : RG → List AObj → Prop} : W prog J 34 n0 26 (subC [1, 1, 1, 0, 1, 0, 0] (codeOf f26)) f h (thenK nx0 (contX pl26 prog J 34 n0 26 ct26 [1, 1, 1, 0, 1, 0] (codeOf f26) [] (RetQ prog [.tmp 4] n0 K))) =
(aBin prog .lss 3 (f.r 22) (f.r 21) fun v1 =>
cnd v1
(aIdx 1 (f.r 20) (f.r 22) fun v2 =>
aLoad false 1 v2 h fun v3 =>
aOff (f.r 2) 3 fun v4 =>
aLoad false 1 v4 h fun v5 =>
aLenS v5 fun v6 =>
aBin prog .sub 3 v6 (vint 1) fun v7 =>
Good prog J 25 [v3, (vint (-1)), v7] h fun v8 h9 =>
aUn .not v8 fun v10 =>
cnd v10
(retL n0 K f.ds [(vint 3)] h9)
(aBin prog .add 3 (f.r 22) (vint 1) fun v11 =>
nx0 (RG.p (RG.p (RG.p (RG.p (RG.p (RG.p (RG.p (RG.p (RG.p (RG.p (RG.p (RG.p (RG.p f 23 v1) 24 v2) 25 v3) 8 v3) 26 v3) 27 v4) 28 v5) 29 v6) 30 v7) 31 v8) 32 v10) 33 v11) 22 v11) h9))
(retL n0 K f.ds [(vint 0)] h)) := sub_eq pok26 ct26 (by kernel_rfl)
theorem l26_1 (hJ : Closed prog main J) {S : Type} (μ : S → Nat) (I : S → RG → List AObj → Prop) (hI : ∀ s f h, I s f h → heapOk h → n0 ≤ h.length → W prog J 34 n0 26 (subC [1, 1, 1, 0, 1, 0, 0] (codeOf f26)) f h (thenK (Nx n0 μ I s) (contX pl26 prog J 34 n0 26 ct26 [1, 1, 1, 0, 1, 0] (codeOf f26) [] (RetQ prog [.tmp 4] n0 K))))
 {s : S} {f : RG} (hi : Gets n0 I s f h) : Sem J 34 n0 26 (subC [1, 1, 1, 0, 1, 0] (codeOf f26)) f h (contX pl26 prog J 34 n0 26 ct26 [1, 1, 1, 0, 1, 0] (codeOf f26) [] (RetQ prog [.tmp 4] n0 K)) :=
 loop_rule hJ mixed (b := subC [1, 1, 1, 0, 1, 0, 0] (codeOf f26)) (by kernel_rfl) μ I hI hi
theorem at28 : prog.funcs[28]? = some f28 := by kernel_rfl
theorem body28 : f28.body = some (codeOf f28) := by kernel_rfl
def pl28 : Plans := []
def ct28 : Cuts := .go
theorem pok28 : plansOk prog pl28 (codeOf f28) = true := by kernel_rfl
theorem e28 {a0 a1 a2 : Value} : W prog J 10 h.length 28 (codeOf f28) (RG.mk (regs [a0, a1, a2]) []) h (RetQ prog [] h.length K) =
(aBox a1 h fun v1 h2 =>
aLoad false 1 a2 h2 fun v3 =>
aOff v1 1 fun v4 =>
aLoad false 1 v4 h2 fun v5 =>
(((1 * 1 : Nat) ≤ 16777216 ∧ (1 : Nat) ≤ 16777216 ∧ List.length [(vint 0)] = 1) ∧ aFill (zrep [(vint 0)] 1) [(0, 1, v5)] fun c6 =>
aNewS 1 c6 h2 fun v7 h8 =>
((List.length [(vint 0)] = 1 ∧ 0 < (1 : Nat) ∧ 0 < (8 : Nat) ∧ (8 : Nat) ≤ 1024) ∧ aApp 1 v3 v7 h8 fun v9 h10 =>
aStore 1 a2 v9 h10 fun h11 =>
retL h.length K [] [] h11))) := top_eq pok28 ct28 (by kernel_rfl)
theorem g28 (hJ : Closed prog main J) {a0 a1 a2 : Value} (hs : heapOk h → W prog J 10 h.length 28 (codeOf f28) (RG.mk (regs [a0, a1, a2]) []) h (RetQ prog [] h.length K)) : Good prog J 28 [a0, a1, a2] h K :=
 good_of_W hJ mixed at28 body28 (by kernel_rfl) (Nat.le_of_ble_eq_true rfl) hs
theorem at32 : prog.funcs[32]? = some f32 := by kernel_rfl
theorem body32 : f32.body = some (codeOf f32) := by kernel_rfl
def pl32 : Plans := [(6, false, .take 0 (.take 1 (.take 2 (.take 3 (.take 4 (.take 5 (.take 6 (.last 7 true (.last 8 false (.fin))))))))))]
def ct32 : Cuts := .go
theorem pok32 : plansOk prog pl32 (codeOf f32) = true := by kernel_rfl
theorem e32 {a0 a1 : Value} : W prog J 34 h.length 32 (codeOf f32) (RG.mk (regs [a0, a1]) []) h (RetQ prog [.tmp 4] h.length K) =
(aBox a0 h fun v1 h2 =>
aBox a1 h2 fun v3 h4 =>
aNewM h4 fun v5 h6 =>
aAlloc [(Value.map none)] h6 fun v7 h8 =>
aStore 1 v7 v5 h8 fun h9 =>
aAlloc [(vint 0)] h9 fun v10 h11 =>
aStore 1 v10 (vint (-1)) h11 fun h12 =>
aLoad true 4 v1 h12 fun v13 =>
aLoad false 1 v3 h12 fun v14 =>
Good prog J 47 [v13, v14] h12 fun v15 h16 =>
Sem J 34 h.length 32 (subC [1, 0, 1, 1, 1, 0, 1, 0] (codeOf f32)) (RG.p (RG.p (RG.p (RG.p (RG.p (RG.p (RG.p (RG.p (RG.p (RG.mk (regs [a0, a1]) []) 2 v1) 3 v3) 4 (vint 0)) 10 v5) 5 v7) 6 v10) 11 v13) 12 v14) 13 v15) h16 (contX pl32 prog J 34 h.length 32 ct32 [1, 0, 1, 1, 1, 0, 1, 0] (codeOf f32) [] (RetQ prog [.tmp 4] h.length K))) := top_eq pok32 ct32 (by kernel_rfl)
theorem g32 (hJ : Closed prog main J) {a0 a1 : Value} (hs : heapOk h → W prog J 34 h.length 32 (codeOf f32) (RG.mk (regs [a0, a1]) []) h (RetQ prog [.tmp 4] h.length K)) : Good prog J 32 [a0, a1] h K :=
 good_of_W hJ mixed at32 body32 (by kernel_rfl) (Nat.le_of_ble_eq_true rfl) hs
theorem a32_1 {f : RG} {fr : FuncId} {Q : QT} : W prog J 34 n0 fr (subC [1, 0, 1, 1, 1, 0, 1, 0, 0] (codeOf f32)) f h Q =
(aAlloc [(vint 0), (vint 0), (Value.bool false)] h fun v1 h2 =>
aStore 3 v1 (f.r 15) h2 fun h3 =>
Q .normal (RG.p (RG.p f 7 (f.r 14)) 8 v1) h3) := sub_eq pok32 ct32 (by kernel_rfl)
theorem b32_1 {f : RG} {fr : FuncId} {Q : QT} : W prog J 34 n0 fr (subC [1, 0, 1, 1, 1, 0, 1, 0, 1] (codeOf f32)) f h Q =
((∃ B, aOff (f.r 8) 0 fun v1 =>
aLoad false 1 v1 h fun v2 =>
RdOk (some B) (ptrBlk v1) ∧ (aLoad false 1 (f.r 3) h fun v3 =>
RdOk (some B) (ptrBlk (f.r 3)) ∧ (aLenS v3 fun v4 =>
RdOk (some B) (mapBlk v3) ∧ (aBin prog .rem 3 (f.r 7) v4 fun v5 =>
aFill [(vint 0), (vint 0)] [(0, 1, v2), (1, 1, v5)] fun c6 =>
aAlloc [(vint 0), (vint 0)] h fun v7 h8 =>
SameB (some B) h h8 ∧ (aStore 2 v7 (Value.agg ⟨c6⟩) h8 fun h9 =>
aOff (f.r 8) 2 fun v10 =>
aLoad false 1 v10 h9 fun v11 =>
cnd v11
(aStore 1 (f.r 6) (f.r 7) h9 fun h12 =>
Q (.exit 0) (RG.p (RG.p (RG.p (RG.p (RG.p (RG.p (RG.p (RG.p (RG.p (RG.p (RG.p (RG.p f 16 v1) 17 v2) 18 (f.r 7)) 19 v3) 20 v4) 21 v5) 22 (Value.agg ⟨c6⟩)) 9 v7) 24 v10) 25 v11) 23 v11) 26 (f.r 7)) h12)
(aLoad false 1 (f.r 5) h9 fun v13 =>
aLoad true 2 v7 h9 fun v14 =>
aLook prog 92 false v13 v14 h9 fun v15 =>
cnd v15
(Q (.exit 0) (RG.p (RG.p (RG.p (RG.p (RG.p (RG.p (RG.p (RG.p (RG.p (RG.p (RG.p (RG.p (RG.p (RG.p (RG.p f 16 v1) 17 v2) 18 (f.r 7)) 19 v3) 20 v4) 21 v5) 22 (Value.agg ⟨c6⟩)) 9 v7) 24 v10) 25 v11) 23 v11) 28 v13) 29 v14) 30 v15) 27 v15) h9)
(aLoad false 1 (f.r 5) h9 fun v16 =>
aLoad true 2 v7 h9 fun v17 =>
((VOk h9.length (Value.bool true) ∧ one (Value.bool true) = true) ∧ aUpdX prog 92 v16 v17 (Value.bool true) h9 fun h18 =>
Q .normal (RG.p (RG.p (RG.p (RG.p (RG.p (RG.p (RG.p (RG.p (RG.p (RG.p (RG.p (RG.p (RG.p (RG.p (RG.p (RG.p (RG.p f 16 v1) 17 v2) 18 (f.r 7)) 19 v3) 20 v4) 21 v5) 22 (Value.agg ⟨c6⟩)) 9 v7) 24 v10) 25 v11) 23 v11) 28 v13) 29 v14) 30 v15) 27 v15) 31 v16) 32 v17) h18))))))))) := sub_eq pok32 ct32 (by kernel_rfl)
theorem c32_1x0 {f : RG} : (contX pl32 prog J 34 n0 32 ct32 [1, 0, 1, 1, 1, 0, 1, 0] (codeOf f32) [] (RetQ prog [.tmp 4] n0 K)) (.exit 0) f h =
(aLoad false 1 (f.r 6) h fun v1 =>
retL n0 K f.ds [v1] h) := by kernel_rfl
theorem l32_1 (hJ : Closed prog main J) {f : RG} {g : FuncId} {first cap : List Value} (hx : ev f.r ((Go.Operand.tmp 13)) = .func (.func g) ⟨first⟩ ⟨cap⟩) (hg : g < prog.funcs.size)
 (hs : Good prog J g (first ++ [.func (.yield (h.length + 1)) ⟨[]⟩ ⟨[]⟩] ++ cap) (h ++ [.deferred] ++ [.loop .ready none 32 f.r 34 #[14, 15] (subC [1, 0, 1, 1, 1, 0, 1, 0, 0] (codeOf f32)) (subC [1, 0, 1, 1, 1, 0, 1, 0, 1] (codeOf f32)) h.length]) (endQ h.length f (contX pl32 prog J 34 n0 32 ct32 [1, 0, 1, 1, 1, 0, 1, 0] (codeOf f32) [] (RetQ prog [.tmp 4] n0 K)))) (hcall : callable prog g = true := by kernel_rfl) : Sem J 34 n0 32 (subC [1, 0, 1, 1, 1, 0, 1, 0] (codeOf f32)) f h (contX pl32 prog J 34 n0 32 ct32 [1, 0, 1, 1, 1, 0, 1, 0] (codeOf f32) [] (RetQ prog [.tmp 4] n0 K)) :=
 Sem_range hJ (by decide) (fop := (Go.Operand.tmp 13)) (params := #[14, 15]) (assign := subC [1, 0, 1, 1, 1, 0, 1, 0, 0] (codeOf f32)) (body := subC [1, 0, 1, 1, 1, 0, 1, 0, 1] (codeOf f32)) hx hg hs hcall
end
section
variable {main : Bool} {J : JT} {n0 : Nat} {h : List AObj} {K : Value → List AObj → Prop}
theorem at27 : prog.funcs[27]? = some f27 := by kernel_rfl
theorem body27 : f27.body = some (codeOf f27) := by kernel_rfl
def pl27 : Plans := []
def ct27 : Cuts := .go
theorem pok27 : plansOk prog pl27 (codeOf f27) = true := by kernel_rfl
theorem e27 {a0 a1 a2 a3 : Value} : W prog J 22 h.length 27 (codeOf f27) (RG.mk (regs [a0, a1, a2, a3]) []) h (RetQ prog [] h.length K) =
(aBox a0 h fun v1 h2 =>
aBox a2 h2 fun v3 h4 =>
aBox a3 h4 fun v5 h6 =>
aLoad true 4 v1 h6 fun v7 =>
Good prog J 47 [v7, a1] h6 fun v8 h9 =>
Sem J 22 h.length 27 (subC [1, 1, 0] (codeOf f27)) (RG.p (RG.p (RG.p (RG.p (RG.p (RG.p (RG.mk (regs [a0, a1, a2, a3]) []) 4 v1) 6 v3) 7 v5) 10 v7) 11 a1) 12 v8) h9 (contX pl27 prog J 22 h.length 27 ct27 [1, 1, 0] (codeOf f27) [] (RetQ prog [] h.length K))) := top_eq pok27 ct27 (by kernel_rfl)
theorem g27 (hJ : Closed prog main J) {a0 a1 a2 a3 : Value} (hs : heapOk h → W prog J 22 h.length 27 (codeOf f27) (RG.mk (regs [a0, a1, a2, a3]) []) h (RetQ prog [] h.length K)) : Good prog J 27 [a0, a1, a2, a3] h K :=
 good_of_W hJ mixed at27 body27 (by kernel_rfl) (Nat.le_of_ble_eq_true rfl) hs
theorem a27_1 {f : RG} {fr : FuncId} {Q : QT} : W prog J 22 n0 fr (subC [1, 1, 0, 0] (codeOf f27)) f h Q =
(aAlloc [(vint 0), (vint 0), (Value.bool false)] h fun v1 h2 =>
aStore 3 v1 (f.r 14) h2 fun h3 =>
Q .normal (RG.p (RG.p f 8 (f.r 13)) 9 v1) h3) := sub_eq pok27 ct27 (by kernel_rfl)
theorem b27_1 {f : RG} {fr : FuncId} {Q : QT} : W prog J 22 n0 fr (subC [1, 1, 0, 1] (codeOf f27)) f h Q =
(aLoad false 1 (f.r 6) h fun v1 =>
aBin prog .eql 3 (f.r 8) v1 fun v2 =>
cnd v2
(Q .ret (RG.p (RG.p (RG.p f 15 (f.r 8)) 16 v1) 17 v2) h)
(aLoad false 1 (f.r 7) h fun v3 =>
aLoad true 3 (f.r 9) h fun v4 =>
callV prog (Good prog J) v3 [(f.r 8), v4] h fun v5 h6 =>
Q .normal (RG.p (RG.p (RG.p (RG.p (RG.p (RG.p (RG.p f 15 (f.r 8)) 16 v1) 17 v2) 18 v3) 19 (f.r 8)) 20 v4) 21 v5) h6)) := sub_eq pok27 ct27 (by kernel_rfl)
theorem c27_1r {f : RG} : (contX pl27 prog J 22 n0 27 ct27 [1, 1, 0] (codeOf f27) [] (RetQ prog [] n0 K)) .ret f h =
(retL n0 K f.ds [] h) := by kernel_rfl
theorem l27_1 (hJ : Closed prog main J) {f : RG} {g : FuncId} {first cap : List Value} (hx : ev f.r ((Go.Operand.tmp 12)) = .func (.func g) ⟨first⟩ ⟨cap⟩) (hg : g < prog.funcs.size)
 (hs : Good prog J g (first ++ [.func (.yield (h.length + 1)) ⟨[]⟩ ⟨[]⟩] ++ cap) (h ++ [.deferred] ++ [.loop .ready none 27 f.r 22 #[13, 14] (subC [1, 1, 0, 0] (codeOf f27)) (subC [1, 1, 0, 1] (codeOf f27)) h.length]) (endQ h.length f (contX pl27 prog J 22 n0 27 ct27 [1, 1, 0] (codeOf f27) [] (RetQ prog [] n0 K)))) (hcall : callable prog g = true := by kernel_rfl) : Sem J 22 n0 27 (subC [1, 1, 0] (codeOf f27)) f h (contX pl27 prog J 22 n0 27 ct27 [1, 1, 0] (codeOf f27) [] (RetQ prog [] n0 K)) :=
 Sem_range hJ (by decide) (fop := (Go.Operand.tmp 12)) (params := #[13, 14]) (assign := subC [1, 1, 0, 0] (codeOf f27)) (body := subC [1, 1, 0, 1] (codeOf f27)) hx hg hs hcall
theorem at47 : prog.funcs[47]? = some f47 := by kernel_rfl
theorem body47 : f47.body = some (codeOf f47) := by kernel_rfl
def pl47 : Plans := []
def ct47 : Cuts := .go
theorem pok47 : plansOk prog pl47 (codeOf f47) = true := by kernel_rfl
theorem e47 {a0 a1 : Value} : W prog J 6 h.length 47 (codeOf f47) (RG.mk (regs [a0, a1]) []) h (RetQ prog [.tmp 4] h.length K) =
(aBox a0 h fun v1 h2 =>
aBox a1 h2 fun v3 h4 =>
aMkF 58 [] [v1, v3] fun v5 =>
retL h.length K [] [v5] h4) := top_eq pok47 ct47 (by kernel_rfl)
theorem g47 (hJ : Closed prog main J) {a0 a1 : Value} (hs : heapOk h → W prog J 6 h.length 47 (codeOf f47) (RG.mk (regs [a0, a1]) []) h (RetQ prog [.tmp 4] h.length K)) : Good prog J 47 [a0, a1] h K :=
 good_of_W hJ mixed at47 body47 (by kernel_rfl) (Nat.le_of_ble_eq_true rfl) hs
end
section
variable {main : Bool} {J : JT} {n0 : Nat} {h : List AObj} {K : Value → List AObj → Prop}
theorem at58 : prog.funcs[58]? = some f58 := by kernel_rfl
theorem body58 : f58.body = some (codeOf f58) := by kernel_rfl
def pl58 : Plans := [(4, true, .take 0 (.take 1 (.take 2 (.take 3 (.take 4 (.take 5 (.take 6 (.take 7 (.fin)))))))))]
def ct58 : Cuts := .bin (.go) (.bin (.go) (.un (.un (.bin (.un (.bin (.go) (.bin (.go) (.cut (.go))))) (.go)))))
theorem pok58 : plansOk prog pl58 (codeOf f58) = true := by kernel_rfl
theorem e58 {a0 a1 a2 : Value} : W prog J 55 h.length 58 (codeOf f58) (RG.mk (regs [a0, a1, a2]) []) h (RetQ prog [] h.length K) =
(aOff a1 0 fun v1 =>
aLoad true 3 v1 h fun v2 =>
aFill [(vint 0), (vint 0), (vint 0)] [(0, 3, v2)] fun c3 =>
aAlloc [(vint 0), (vint 0), (vint 0)] h fun v4 h5 =>
aStore 3 v4 (Value.agg ⟨c3⟩) h5 fun h6 =>
Sem J 55 h.length 58 (subC [1, 1, 0] (codeOf f58)) (RG.p (RG.p (RG.p (RG.p (RG.p (RG.p (RG.p (RG.mk (regs [a0, a1, a2]) []) 11 v1) 12 v2) 13 (Value.agg ⟨c3⟩)) 4 v4) 5 (Value.func (.func 45) #[] #[])) 6 (Value.func (.func 43) #[] #[])) 7 (vint 0)) h6 (contX pl58 prog J 55 h.length 58 ct58 [1, 1, 0] (codeOf f58) [] (RetQ prog [] h.length K))) := top_eq pok58 ct58 (by kernel_rfl)
theorem g58 (hJ : Closed prog main J) {a0 a1 a2 : Value} (hs : heapOk h → W prog J 55 h.length 58 (codeOf f58) (RG.mk (regs [a0, a1, a2]) []) h (RetQ prog [] h.length K)) : Good prog J 58 [a0, a1, a2] h K :=
 good_of_W hJ mixed at58 body58 (by kernel_rfl) (Nat.le_of_ble_eq_true rfl) hs
theorem s58_1 {f : RG} {nx0 : RG → List AObj → Prop} : W prog J 55 n0 58 (subC [1, 1, 0, 0] (codeOf f58)) f h (thenK nx0 (contX pl58 prog J 55 n0 58 ct58 [1, 1, 0] (codeOf f58) [] (RetQ prog [] n0 K))) =
(aLoad false 1 (f.r 2) h fun v1 =>
aLoad false 1 (f.r 2) h fun v2 =>
aLenS v2 fun v3 =>
aBin prog .rem 3 (f.r 7) v3 fun v4 =>
aIdx 1 v1 v4 fun v5 =>
aLoad false 1 v5 h fun v6 =>
aBin prog .geq 3 v6 (vint 0) fun v7 =>
cnd v7
(aOff (f.r 1) 3 fun v8 =>
aLoad false 1 v8 h fun v9 =>
aIdx 2 v9 v6 fun v10 =>
aOff v10 0 fun v11 =>
aLoad false 1 v11 h fun v12 =>
Hold (W prog J 55 n0 58 (subC [1, 1, 0, 0, 0, 0, 1, 1] (codeOf f58)) (RG.p (RG.p (RG.p (RG.p (RG.p (RG.p (RG.p (RG.p (RG.p (RG.p (RG.p (RG.p (RG.p (RG.p (RG.p (RG.p (RG.p (RG.p f 8 (vint 0)) 16 v1) 17 (f.r 7)) 18 v2) 19 v3) 20 v4) 21 v5) 22 v6) 9 v6) 23 v6) 24 v7) 25 v8) 26 v9) 27 v6) 28 v10) 29 v11) 30 v12) 8 v12) h (contX pl58 prog J 55 n0 58 ct58 [1, 1, 0, 0, 0, 0, 1, 1] (codeOf f58) [nx0] (RetQ prog [] n0 K))))
(Hold (W prog J 55 n0 58 (subC [1, 1, 0, 0, 0, 0, 1, 1] (codeOf f58)) (RG.p (RG.p (RG.p (RG.p (RG.p (RG.p (RG.p (RG.p (RG.p (RG.p (RG.p f 8 (vint 0)) 16 v1) 17 (f.r 7)) 18 v2) 19 v3) 20 v4) 21 v5) 22 v6) 9 v6) 23 v6) 24 v7) h (contX pl58 prog J 55 n0 58 ct58 [1, 1, 0, 0, 0, 0, 1, 1] (codeOf f58) [nx0] (RetQ prog [] n0 K))))) := sub_eq pok58 ct58 (by kernel_rfl)
theorem l58_1 (hJ : Closed prog main J) {S : Type} (μ : S → Nat) (I : S → RG → List AObj → Prop) (hI : ∀ s f h, I s f h → heapOk h → n0 ≤ h.length → W prog J 55 n0 58 (subC [1, 1, 0, 0] (codeOf f58)) f h (thenK (Nx n0 μ I s) (contX pl58 prog J 55 n0 58 ct58 [1, 1, 0] (codeOf f58) [] (RetQ prog [] n0 K))))
 {s : S} {f : RG} (hi : Gets n0 I s f h) : Sem J 55 n0 58 (subC [1, 1, 0] (codeOf f58)) f h (contX pl58 prog J 55 n0 58 ct58 [1, 1, 0] (codeOf f58) [] (RetQ prog [] n0 K)) :=
 loop_rule hJ mixed (b := subC [1, 1, 0, 0] (codeOf f58)) (by kernel_rfl) μ I hI hi
theorem s58_2 {f : RG} {nx0 : RG → List AObj → Prop} : W prog J 55 n0 58 (subC [1, 1, 0, 0, 0, 0, 1, 1] (codeOf f58)) f h (contX pl58 prog J 55 n0 58 ct58 [1, 1, 0, 0, 0, 0, 1, 1] (codeOf f58) [nx0] (RetQ prog [] n0 K)) =
(aOff (f.r 4) 0 fun v1 =>
aOff v1 0 fun v2 =>
aLoad false 1 v2 h fun v3 =>
aFill [(vint 0), (vint 0), (Value.bool false)] [(0, 1, v3)] fun c4 =>
aAlloc [(vint 0), (vint 0), (Value.bool false)] h fun v5 h6 =>
aStore 3 v5 (Value.agg ⟨c4⟩) h6 fun h7 =>
aLoad true 3 (f.r 4) h7 fun v8 =>
callV prog (Good prog J) (f.r 5) [v8, (f.r 8)] h7 fun v9 h10 =>
aExt v9 0 fun v11 =>
aExt v9 1 fun v12 =>
aStore 3 (f.r 4) v11 h10 fun h13 =>
aOff v5 2 fun v14 =>
aStore 1 v14 v12 h13 fun h15 =>
aLoad true 3 (f.r 4) h15 fun v16 =>
callV prog (Good prog J) (f.r 6) [v16] h15 fun v17 h18 =>
aStore 3 (f.r 4) v17 h18 fun h19 =>
aOff (f.r 4) 0 fun v20 =>
aOff v20 0 fun v21 =>
aLoad false 1 v21 h19 fun v22 =>
aOff v5 1 fun v23 =>
aStore 1 v23 v22 h19 fun h24 =>
aLoad true 3 v5 h24 fun v25 =>
callV prog (Good prog J) (f.r 0) [(f.r 7), v25] h24 fun v26 h27 =>
aUn .not v26 fun v28 =>
cnd v28
(retL n0 K f.ds [] h27)
(aBin prog .add 3 (f.r 7) (vint 1) fun v29 =>
nx0 (RG.p (RG.p (RG.p (RG.p (RG.p (RG.p (RG.p (RG.p (RG.p (RG.p (RG.p (RG.p (RG.p (RG.p (RG.p (RG.p (RG.p (RG.p (RG.p (RG.p (RG.p (RG.p (RG.p (RG.p (RG.p (RG.p (RG.p (RG.p f 31 v1) 32 v2) 33 v3) 34 (Value.agg ⟨c4⟩)) 10 v5) 36 (f.r 5)) 37 v8) 38 (f.r 8)) 39 v9) 35 v9) 40 v11) 41 v12) 42 v14) 43 (f.r 6)) 44 v16) 45 v17) 46 v20) 47 v21) 48 v22) 49 v23) 50 (f.r 0)) 51 (f.r 7)) 52 v25) 53 v26) 54 v28) 14 (f.r 7)) 15 v29) 7 v29) h27)) := sub_eq pok58 ct58 (by kernel_rfl)
theorem at29 : prog.funcs[29]? = some f29 := by kernel_rfl
theorem body29 : f29.body = some (codeOf f29) := by kernel_rfl
def pl29 : Plans := []
def ct29 : Cuts := .go
theorem pok29 : plansOk prog pl29 (codeOf f29) = true := by kernel_rfl
theorem e29 {a0 a1 a2 : Value} : W prog J 11 h.length 29 (codeOf f29) (RG.mk (regs [a0, a1, a2]) []) h (RetQ prog [] h.length K) =
(aBox a1 h fun v1 h2 =>
aOff v1 2 fun v3 =>
aLoad false 1 v3 h2 fun v4 =>
cnd v4
(aLoad false 1 a2 h2 fun v5 =>
(((1 * 1 : Nat) ≤ 16777216 ∧ (1 : Nat) ≤ 16777216 ∧ List.length [(vint 0)] = 1) ∧ aFill (zrep [(vint 0)] 1) [(0, 1, a0)] fun c6 =>
aNewS 1 c6 h2 fun v7 h8 =>
((List.length [(vint 0)] = 1 ∧ 0 < (1 : Nat) ∧ 0 < (8 : Nat) ∧ (8 : Nat) ≤ 1024) ∧ aApp 1 v5 v7 h8 fun v9 h10 =>
aStore 1 a2 v9 h10 fun h11 =>
retL h.length K [] [] h11)))
(retL h.length K [] [] h2)) := top_eq pok29 ct29 (by kernel_rfl)
theorem g29 (hJ : Closed prog main J) {a0 a1 a2 : Value} (hs : heapOk h → W prog J 11 h.length 29 (codeOf f29) (RG.mk (regs [a0, a1, a2]) []) h (RetQ prog [] h.length K)) : Good prog J 29 [a0, a1, a2] h K :=
 good_of_W hJ mixed at29 body29 (by kernel_rfl) (Nat.le_of_ble_eq_true rfl) hs
theorem at8 : prog.funcs[8]? = some f8 := by kernel_rfl
theorem body8 : f8.body = some (codeOf f8) := by kernel_rfl
def pl8 : Plans := []
def ct8 : Cuts := .go
theorem pok8 : plansOk prog pl8 (codeOf f8) = true := by kernel_rfl
theorem e8 {a0 a1 a2 : Value} : W prog J 25 h.length 8 (codeOf f8) (RG.mk (regs [a0, a1, a2]) []) h (RetQ prog [.tmp 6, .tmp 7] h.length K) =
(aBox a0 h fun v1 h2 =>
aLoad true 4 v1 h2 fun v3 =>
Good prog J 26 [v3, a1] h2 fun v4 h5 =>
aBin prog .neq 31 v4 (vint 0) fun v6 =>
cnd v6
(retL h.length K [] [(Value.slice none 0 0), v4] h5)
(Good prog J 25 [a2, (vint 1), (vint 48)] h5 fun v7 h8 =>
aUn .not v7 fun v9 =>
cnd v9
(retL h.length K [] [(Value.slice none 0 0), (vint 1)] h8)
(aAlloc [(Value.slice none 0 0)] h8 fun v10 h11 =>
aLoad true 4 v1 h11 fun v12 =>
aMkF 29 [] [v10] fun v13 =>
Good prog J 27 [v12, a1, a2, v13] h11 fun v14 h15 =>
aLoad false 1 v10 h15 fun v16 =>
retL h.length K [] [v16, (vint 0)] h15))) := top_eq pok8 ct8 (by kernel_rfl)
theorem g8 (hJ : Closed prog main J) {a0 a1 a2 : Value} (hs : heapOk h → W prog J 25 h.length 8 (codeOf f8) (RG.mk (regs [a0, a1, a2]) []) h (RetQ prog [.tmp 6, .tmp 7] h.length K)) : Good prog J 8 [a0, a1, a2] h K :=
 good_of_W hJ mixed at8 body8 (by kernel_rfl) (Nat.le_of_ble_eq_true rfl) hs
end
end Go.Proofs.YtmmlamfgbmnkgaaDoor
namespace Go.Proofs.YtmmlamfgbmnkgaaDoor
open Go.Conc Go.Proofs.Tryd
set_option maxRecDepth 100000
def rotaE (t : Tro) (rota : List Int) : Int := if troE t ≠ 0 then troE t else if fewE rota.length 1 5 ≠ 0 then fewE rota.length 1 5 else if ∀ r ∈ rota, -1 ≤ r ∧ r ≤ (t.flocks.length : Int) - 1 then 0 else 3
section
variable {main : Bool} {J : JT} {h : List AObj} {K : Value → List AObj → Prop}
theorem good26 (hJ : Closed prog main J) {v fv rv : Value} {t : Tro} {rota : List Int} (ht : TroAt h v t fv) (hr : Sli h rv 1 rota.length (rota.map vint)) (hl : t.flocks.length ≤ 1000000) (hK : K (vint (rotaE t rota)) h) : Good prog J 26 [v, rv] h K := by
 refine g26 hJ fun ok => ?_
 rw [e26, ht.val]
 refine qBox (tro_one ht) fun H1 p2 e1 S1 c1 l1 => ?_
 have t1 : TroAt H1 (.agg ⟨troCells t fv⟩) t fv := ⟨rfl, S1.sli ht.fl (by simp)⟩
 have kf := (sli_val ht.fl).2.2
 have r1 : Sli H1 rv 1 rota.length (rota.map vint) := S1.sli hr (by simp)
 have fin : ∀ (e : Int) (n0 : Nat), n0 = h.length → rotaE t rota = e → retL n0 K [] [vint e] H1 := fun e n0 hn he => by
  subst he hn
  exact retX ok (Nat.le_refl _) S1 (by simp) (by simp [unk]) (by simp [pack, VOk]) hK
 refine load_part (c := troCells t fv) c1 (by simp [troCells]) rfl (by simp [kn, troCells, kf]; exact ⟨rfl, rfl, rfl⟩) (good6 hJ t1 ?_)
 refine neqI (cndI (fun g1 => fin _ _ rfl (by unfold rotaE; rw [if_pos g1])) fun g1 => ?_)
 refine lenI r1 (good24 hJ (neqI (cndI (fun g2 => fin _ _ rfl (by unfold rotaE; rw [if_neg g1, if_pos g2])) fun g2 => lenI r1 ?_)))
 have hlen : rota.length ≤ 5 := by
  have g2 : fewE rota.length 1 5 = 0 := by omega
  unfold fewE at g2
  split at g2
  ·cases g2
  ·split at g2
   ·cases g2
   ·omega
 refine l26_1 hJ (fun i : Nat => rota.length - i) (fun i f H => H1 = H ∧ i ≤ rota.length ∧ (∀ r ∈ rota.take i, -1 ≤ r ∧ r ≤ (t.flocks.length : Int) - 1) ∧ f.ds = [] ∧ f.r 2 = ptr p2 0 ∧ f.r 20 = rv ∧ f.r 21 = vint (rota.length : Nat) ∧ f.r 22 = vint (i : Nat)) ?_ (s := 0)
  (.inl ⟨rfl, by omega, by simp, rfl, rfl, rfl, rfl, rfl⟩)
 rintro i f H ⟨e, hi, hd, ds, r2, r20, r21, r22⟩ _ _
 subst e
 rw [s26_1, ds, r2, r20, r21, r22]
 refine lssI (cndI (fun g => ?_) fun g => fin 0 _ rfl ?_)
 ·have hil : i < rota.length := by omega
  have hx := List.getElem?_eq_getElem hil
  refine sli_num' r1 hx fun q => offI (ldI (v := fv) c1 rfl kf (lenI t1.fl (subI (by omega) (good25 hJ (notI (cndN (fun g3 => fin 3 _ rfl ?_) fun g3 => addI (by omega) ?_))))))
  ·unfold rotaE
   rw [if_neg g1, if_neg g2, if_neg fun y => g3 (y _ (List.getElem_mem hil))]
  ·refine ⟨i + 1, by show rota.length - (i + 1) < rota.length - i; omega, .inl ⟨rfl, by omega, ?_, ds, r2, r20, r21, ?_⟩⟩
   ·intro c hcm
    rw [List.take_add_one, hx] at hcm
    rcases List.mem_append.1 hcm with y | y
    ·exact hd c y
    ·simp at y
     subst y
     exact g3
   ·show vint _ = vint _
    congr 1
 ·have hin : i = rota.length := by omega
  subst hin
  rw [List.take_length] at hd
  unfold rotaE
  rw [if_neg g1, if_neg g2, if_pos hd]
end
end Go.Proofs.YtmmlamfgbmnkgaaDoor
namespace Go.Proofs.YtmmlamfgbmnkgaaDoor
open Go.Conc Go.Proofs.Tryd
def drinkOf (t : Tro) (who : Int) : Int := if 0 ≤ who then (droAt t who.toNat).drinks else 0
def nextL (t : Tro) (who now : Int) : Int := min t.well.holds (now - min now (drinkOf t who) + t.well.fill)
def turnOf (r : List Int) (h : Nat) : Int := r.getD (h % r.length) 0
def lvl (t : Tro) (r : List Int) : Nat → Int
 | 0 => t.well.now
 | h + 1 => nextL t (turnOf r h) (lvl t r h)
def dry (t : Tro) (r : List Int) (h : Nat) : Prop := lvl t r h < drinkOf t (turnOf r h)
instance (t : Tro) (r : List Int) (h : Nat) : Decidable (dry t r h) := by unfold dry; infer_instance
structure TroFine (t : Tro) : Prop where
 holds : 1 ≤ t.well.holds ∧ t.well.holds ≤ 40
 now : 0 ≤ t.well.now ∧ t.well.now ≤ t.well.holds
 fill : 0 ≤ t.well.fill ∧ t.well.fill ≤ 20
 len : 1 ≤ t.flocks.length ∧ t.flocks.length ≤ 3
 dro : ∀ d ∈ t.flocks, droOk d
theorem troE_fine {t : Tro} (h : troE t = 0) : TroFine t := by
 obtain ⟨⟨a, b, c⟩, d, e⟩ := troE_well h
 exact ⟨a, b, c, d, e⟩
theorem fine_troE {t : Tro} (f : TroFine t) : troE t = 0 := by
 have h1 : welE t.well = 0 := by unfold welE; rw [if_pos ⟨f.holds, f.now, f.fill⟩]
 have h2 : fewE t.flocks.length 1 3 = 0 := by
  have := f.len
  unfold fewE
  rw [if_neg (by omega), if_neg (by omega)]
 unfold troE
 rw [if_neg (by omega), if_neg (by omega), if_pos f.dro]
structure RotaFine (t : Tro) (r : List Int) : Prop where
 len : 1 ≤ r.length ∧ r.length ≤ 5
 who : ∀ n ∈ r, -1 ≤ n ∧ n < t.flocks.length
section
variable {t x : Tro} {r : List Int} {h k a b : Nat}
theorem droAt_mem {i : Nat} (hi : i < t.flocks.length) : droAt t i = t.flocks[i] := by
 unfold droAt
 rw [List.getD_eq_getElem?_getD, List.getElem?_eq_getElem hi]
 rfl
theorem drink_bd (f : TroFine t) (who : Int) : 0 ≤ drinkOf t who ∧ drinkOf t who ≤ 40 := by
 unfold drinkOf
 split
 ·rcases Nat.lt_or_ge who.toNat t.flocks.length with hi | hi
  ·rw [droAt_mem hi]
   have := (f.dro _ (List.getElem_mem hi)).1
   omega
  ·unfold droAt
   rw [List.getD_eq_getElem?_getD, List.getElem?_eq_none hi]
   exact ⟨Int.le_refl _, by decide⟩
 ·omega
theorem turnOf_mem (hr : r ≠ []) (h : Nat) : turnOf r h ∈ r := by
 have hp : 0 < r.length := by cases r <;> simp at hr ⊢
 have := Nat.mod_lt h hp
 unfold turnOf
 rw [List.getD_eq_getElem?_getD, List.getElem?_eq_getElem this]
 exact List.getElem_mem this
theorem nextL_bd (f : TroFine t) {who now : Int} (h0 : 0 ≤ now) (h1 : now ≤ t.well.holds) : 0 ≤ nextL t who now ∧ nextL t who now ≤ t.well.holds := by
 have := drink_bd f who
 have := f.holds
 have := f.fill
 unfold nextL
 omega
theorem lvl_bd (f : TroFine t) : ∀ h : Nat, 0 ≤ lvl t r h ∧ lvl t r h ≤ t.well.holds
 | 0 => f.now
 | h + 1 => nextL_bd f (lvl_bd f h).1 (lvl_bd f h).2
theorem turnOf_congr (hm : a % r.length = b % r.length) (k : Nat) : turnOf r (a + k) = turnOf r (b + k) := by
 unfold turnOf
 rw [Nat.add_mod a, Nat.add_mod b, hm]
theorem lvl_congr (hl : lvl t r a = lvl t r b) (hm : a % r.length = b % r.length) : ∀ k : Nat, lvl t r (a + k) = lvl t r (b + k)
 | 0 => hl
 | k + 1 => by
  show nextL t (turnOf r (a + k)) (lvl t r (a + k)) = nextL t (turnOf r (b + k)) (lvl t r (b + k))
  rw [lvl_congr hl hm k, turnOf_congr hm k]
theorem dry_congr (hl : lvl t r a = lvl t r b) (hm : a % r.length = b % r.length) (k : Nat) : dry t r (a + k) ↔ dry t r (b + k) := by
 unfold dry
 rw [lvl_congr hl hm k, turnOf_congr hm k]
theorem dry_back {i j : Nat} (hij : i < j) (hl : lvl t r i = lvl t r j) (hm : i % r.length = j % r.length) (hn : ∀ h, h < j → ¬ dry t r h) : ∀ h, ¬ dry t r h := by
 intro h
 induction h using Nat.strongRecOn with
 | ind h ih =>
  rcases Nat.lt_or_ge h j with x | x
  ·exact hn h x
  ·have := dry_congr hl hm (h - j)
   rw [show j + (h - j) = h from by omega] at this
   rw [← this]
   exact ih _ (by omega)
theorem pigeon : ∀ (N : Nat) (f : Nat → Nat), (∀ i, i ≤ N → f i < N) → ∃ i j, i < j ∧ j ≤ N ∧ f i = f j
 | 0, f, hf => absurd (hf 0 (Nat.le_refl _)) (Nat.not_lt_zero _)
 | N + 1, f, hf => by
  by_cases hx : ∃ i, i ≤ N ∧ f i = f (N + 1)
  ·obtain ⟨i, hi, e⟩ := hx
   exact ⟨i, N + 1, by omega, Nat.le_refl _, e⟩
  ·obtain ⟨i, j, h1, h2, h3⟩ := pigeon N (fun i => if f i > f (N + 1) then f i - 1 else f i) (fun i hi => by
    have h1 := hf i (by omega)
    have h2 := hf (N + 1) (Nat.le_refl _)
    have h3 : f i ≠ f (N + 1) := fun e => hx ⟨i, hi, e⟩
    split <;> omega)
   refine ⟨i, j, h1, by omega, ?_⟩
   have n1 : f i ≠ f (N + 1) := fun e => hx ⟨i, by omega, e⟩
   have n2 : f j ≠ f (N + 1) := fun e => hx ⟨j, h2, e⟩
   split at h3 <;> split at h3 <;> omega
theorem code_inj {n a b c d : Nat} (hb : b < n) (hd : d < n) (h : a * n + b = c * n + d) : a = c ∧ b = d := by
 have h1 : (a * n + b) / n = (c * n + d) / n := by rw [h]
 have h2 : (a * n + b) % n = (c * n + d) % n := by rw [h]
 rw [Nat.mul_comm a, Nat.mul_comm c, Nat.mul_add_div (by omega), Nat.mul_add_div (by omega), Nat.div_eq_of_lt hb, Nat.div_eq_of_lt hd] at h1
 rw [Nat.mul_comm a, Nat.mul_comm c, Nat.mul_add_mod, Nat.mul_add_mod, Nat.mod_eq_of_lt hb, Nat.mod_eq_of_lt hd] at h2
 omega
theorem code_lt {n H a b : Nat} (hb : b < n) (ha : a ≤ H) : a * n + b < (H + 1) * n := by
 have := Nat.mul_le_mul_right n ha
 rw [Nat.succ_mul]
 omega
def bound (t : Tro) (r : List Int) : Nat := (t.well.holds.toNat + 1) * r.length
theorem never (f : TroFine t) (hr : r ≠ []) (hn : ∀ h, h < bound t r → ¬ dry t r h) : ∀ h, ¬ dry t r h := by
 have hp : 0 < r.length := by cases r <;> simp at hr ⊢
 obtain ⟨i, j, hij, hj, e⟩ := pigeon (bound t r) (fun h => (lvl t r h).toNat * r.length + h % r.length) (fun h _ => by
  have := lvl_bd (r := r) f h
  exact code_lt (Nat.mod_lt h hp) (by omega))
 obtain ⟨e1, e2⟩ := code_inj (Nat.mod_lt i hp) (Nat.mod_lt j hp) e
 have b1 := lvl_bd (r := r) f i
 have b2 := lvl_bd (r := r) f j
 exact dry_back hij (by omega) e2 fun h hh => hn h (by omega)
theorem bound_le (f : TroFine t) (g : r.length ≤ 5) : bound t r ≤ 205 := by
 have := f.holds
 have h2 : t.well.holds.toNat + 1 ≤ 41 := by omega
 exact Nat.mul_le_mul h2 g
def firstH (p : Nat → Prop) [DecidablePred p] : Nat → Int
 | 0 => -1
 | n + 1 => if firstH p n < 0 then (if p n then n else -1) else firstH p n
theorem firstH_neg {p : Nat → Prop} [DecidablePred p] : ∀ {n : Nat}, firstH p n < 0 → firstH p n = -1 ∧ ∀ h, h < n → ¬ p h
 | 0, _ => ⟨rfl, fun h hh => absurd hh (Nat.not_lt_zero _)⟩
 | n + 1, hl => by
  unfold firstH at hl ⊢
  split at hl
  ·rename_i hx
   rw [if_pos hx]
   split at hl
   ·omega
   ·rename_i hp
    rw [if_neg hp]
    refine ⟨rfl, fun h hh => ?_⟩
    rcases Nat.lt_or_ge h n with y | y
    ·exact (firstH_neg hx).2 h y
    ·rwa [show h = n from by omega]
  ·omega
theorem firstH_pos {p : Nat → Prop} [DecidablePred p] : ∀ {n : Nat}, 0 ≤ firstH p n → ∃ k : Nat, firstH p n = k ∧ k < n ∧ p k ∧ ∀ h, h < k → ¬ p h
 | 0, hl => by simp [firstH] at hl
 | n + 1, hl => by
  unfold firstH at hl ⊢
  split at hl
  ·rename_i hx
   rw [if_pos hx]
   split at hl
   ·rename_i hp
    rw [if_pos hp]
    exact ⟨n, rfl, by omega, hp, (firstH_neg hx).2⟩
   ·simp at hl
  ·rename_i hx
   rw [if_neg hx]
   obtain ⟨k, a, b, c, d⟩ := firstH_pos (p := p) (n := n) (by omega)
   exact ⟨k, a, by omega, c, d⟩
theorem firstH_at {p : Nat → Prop} [DecidablePred p] {n k : Nat} (hk : k < n) (hp : p k) (hn : ∀ h, h < k → ¬ p h) : firstH p n = k := by
 rcases Int.lt_or_le (firstH p n) 0 with x | x
 ·exact absurd hp ((firstH_neg x).2 k hk)
 ·obtain ⟨j, e, a, b, c⟩ := firstH_pos x
  rw [e]
  rcases Nat.lt_trichotomy j k with y | y | y
  ·exact absurd b (hn j y)
  ·rw [y]
  ·exact absurd hp (c k y)
theorem firstH_none {p : Nat → Prop} [DecidablePred p] {n : Nat} (hn : ∀ h, h < n → ¬ p h) : firstH p n = -1 := by
 rcases Int.lt_or_le (firstH p n) 0 with x | x
 ·exact (firstH_neg x).1
 ·obtain ⟨j, e, a, b, c⟩ := firstH_pos x
  exact absurd b (hn j a)
def lastsR (t : Tro) (r : List Int) : Int := firstH (dry t r) (bound t r)
theorem lasts_at (f : TroFine t) (hr : r ≠ []) {k : Nat} (hp : dry t r k) (hn : ∀ h, h < k → ¬ dry t r h) : lastsR t r = k := by
 refine firstH_at ?_ hp hn
 rcases Nat.lt_or_ge k (bound t r) with x | x
 ·exact x
 ·exact absurd hp (never f hr (fun h hh => hn h (by omega)) k)
theorem lasts_none (hn : ∀ h, ¬ dry t r h) : lastsR t r = -1 := firstH_none fun h _ => hn h
def occ (r : List Int) (f : Int) (i : Nat) : Prop := turnOf r i = f
instance (r : List Int) (f : Int) (i : Nat) : Decidable (occ r f i) := by unfold occ; infer_instance
def nextD (r : List Int) (f : Int) (i : Nat) : Int := firstH (fun d => occ r f (i + 1 + d)) r.length + 1
def gapG (r : List Int) (f : Int) : Nat → Int
 | 0 => 0
 | i + 1 => if occ r f i then max (gapG r f i) (nextD r f i) else gapG r f i
def gapR (r : List Int) (f : Int) : Int := gapG r f r.length
theorem occ_mod (f : Int) (i : Nat) : occ r f (i + r.length) ↔ occ r f i := by
 unfold occ turnOf
 rw [Nat.add_mod_right]
theorem nextD_spec {f : Int} {i : Nat} (hr : r ≠ []) (ho : occ r f i) : ∃ d : Nat, nextD r f i = d ∧ 1 ≤ d ∧ d ≤ r.length ∧ occ r f (i + d) ∧ ∀ e, 1 ≤ e → e < d → ¬ occ r f (i + e) := by
 have hp : 0 < r.length := by cases r <;> simp at hr ⊢
 unfold nextD
 rcases Int.lt_or_le (firstH (fun d => occ r f (i + 1 + d)) r.length) 0 with x | x
 ·have := (firstH_neg x).2 (r.length - 1) (by omega)
  rw [show i + 1 + (r.length - 1) = i + r.length from by omega, occ_mod] at this
  exact absurd ho this
 ·obtain ⟨k, e, a, b, c⟩ := firstH_pos x
  refine ⟨k + 1, by rw [e]; rfl, by omega, by omega, by rw [show i + (k + 1) = i + 1 + k from by omega]; exact b, fun e h1 h2 => ?_⟩
  rw [show i + e = i + 1 + (e - 1) from by omega]
  exact c (e - 1) (by omega)
theorem nextD_at {f : Int} {i d : Nat} (hr : r ≠ []) (ho : occ r f i) (h1 : 1 ≤ d) (hd : occ r f (i + d)) (hn : ∀ e, 1 ≤ e → e < d → ¬ occ r f (i + e)) : nextD r f i = d := by
 obtain ⟨k, e, a, b, c, g⟩ := nextD_spec hr ho
 rw [e]
 rcases Nat.lt_trichotomy k d with y | y | y
 ·exact absurd c (hn k a y)
 ·rw [y]
 ·exact absurd hd (g d h1 y)
theorem nextD_mod (f : Int) (i : Nat) : nextD r f (i + r.length) = nextD r f i := by
 unfold nextD
 congr 1
 have : (fun d => occ r f (i + r.length + 1 + d)) = (fun d => occ r f (i + 1 + d)) := by
  funext d
  rw [show i + r.length + 1 + d = i + 1 + d + r.length from by omega]
  exact propext (occ_mod f _)
 simp only [this]
theorem gapG_nonneg {f : Int} : ∀ n : Nat, 0 ≤ gapG r f n
 | 0 => Int.le_refl _
 | n + 1 => by
  have := gapG_nonneg (f := f) n
  unfold gapG
  split <;> omega
theorem gapG_le {f B : Int} (hB : 0 ≤ B) : ∀ {n : Nat}, gapG r f n ≤ B ↔ ∀ i, i < n → occ r f i → nextD r f i ≤ B
 | 0 => by simp [gapG, hB]
 | n + 1 => by
  have ih : gapG r f n ≤ B ↔ ∀ i, i < n → occ r f i → nextD r f i ≤ B := gapG_le hB
  unfold gapG
  constructor
  ·intro h i hi ho
   rcases Nat.lt_or_ge i n with x | x
   ·refine ih.1 ?_ i x ho
    split at h <;> omega
   ·have : i = n := by omega
    subst this
    rw [if_pos ho] at h
    omega
  ·intro h
   have h1 := ih.2 fun i hi ho => h i (by omega) ho
   split
   ·rename_i ho
    have := h n (by omega) ho
    omega
   ·exact h1
theorem gapG_all {f B : Int} (hr : r ≠ []) (hB : 0 ≤ B) {n : Nat} (hn : r.length ≤ n) : gapG r f n ≤ B ↔ ∀ i, occ r f i → nextD r f i ≤ B := by
 have hp : 0 < r.length := by cases r <;> simp at hr ⊢
 rw [gapG_le hB]
 refine ⟨fun h i ho => ?_, fun h i _ ho => h i ho⟩
 induction i using Nat.strongRecOn with
 | ind i ih =>
  rcases Nat.lt_or_ge i n with x | x
  ·exact h i x ho
  ·have e : i = (i - r.length) + r.length := by omega
   rw [e, nextD_mod]
   rw [e, occ_mod] at ho
   exact ih (i - r.length) (by omega) ho
theorem gapG_more {f : Int} (hr : r ≠ []) {n : Nat} (hn : r.length ≤ n) : gapG r f n = gapR r f := by
 have h1 := gapG_nonneg (r := r) (f := f) n
 have h2 := gapG_nonneg (r := r) (f := f) r.length
 have a := (gapG_all hr h1 (Nat.le_refl _)).2 ((gapG_all hr h1 hn).1 (Int.le_refl _))
 have b := (gapG_all hr h2 hn).2 ((gapG_all hr h2 (Nat.le_refl _)).1 (Int.le_refl _))
 unfold gapR
 omega
theorem gapG_none {f : Int} : ∀ {n : Nat}, (∀ i, i < n → ¬ occ r f i) → gapG r f n = 0
 | 0, _ => rfl
 | n + 1, h => by
  unfold gapG
  rw [if_neg (h n (by omega))]
  exact gapG_none fun i hi => h i (by omega)
theorem gapR_le {f B : Int} (hr : r ≠ []) (hB : 0 ≤ B) : gapR r f ≤ B ↔ ∀ i, occ r f i → ∃ d : Nat, 1 ≤ d ∧ (d : Int) ≤ B ∧ occ r f (i + d) := by
 unfold gapR
 rw [gapG_all hr hB (Nat.le_refl _)]
 constructor
 ·intro h i ho
  obtain ⟨d, e, a, b, c, _⟩ := nextD_spec hr ho
  have := h i ho
  exact ⟨d, a, by omega, c⟩
 ·intro h i ho
  obtain ⟨d, e, a, b, c, g⟩ := nextD_spec hr ho
  obtain ⟨k, k1, k2, k3⟩ := h i ho
  rw [e]
  rcases Nat.lt_or_ge k d with y | y
  ·exact absurd k3 (g k k1 y)
  ·omega
theorem gapR_nonneg {f : Int} : 0 ≤ gapR r f := gapG_nonneg _
end
def unfairR (t : Tro) (r : List Int) : List Nat := (List.range t.flocks.length).filter fun i => decide (gapR r i = 0 ∨ gapR r i > (droAt t i).every)
def goodB (t : Tro) (r : List Int) : Bool := (unfairR t r).isEmpty && decide (lastsR t r < 0)
section
variable {t x : Tro} {r r' : List Int}
def later (r : List Int) (k : Nat) : List Int := r.drop k ++ r.take k
end
end Go.Proofs.YtmmlamfgbmnkgaaDoor
namespace Go.Proofs.YtmmlamfgbmnkgaaDoor
open Go.Conc Go.Proofs.Tryd
set_option maxRecDepth 100000
section
variable {main : Bool} {J : JT} {h H : List AObj} {K : Value → List AObj → Prop} {KV : Value → Prop} {HL : List AObj → Prop} {n0 : Nat} {ns : List Int} {k : Nat}
theorem sb1 {X : List Nat} {p : Nat} {H H' : List AObj} (S : SameX X H H') (hp : p < H.length) (hX : p ∉ X) : SameB (some [p]) H H' := fun b hb => by
 simp at hb
 subst hb
 exact S.2 _ hp hX
end
end Go.Proofs.YtmmlamfgbmnkgaaDoor
