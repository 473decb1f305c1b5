/- Parts of the proof, 5. No conditions. -/
import Derived.Test.YtfljbanjmplcfaaK2
import Derived.Test.YtfljbanjmplcfaaK4
namespace Go.Proofs.Ytfljbanjmplcfaa
open Go.Conc Go.Proofs.Try
set_option maxRecDepth 100000
set_option maxHeartbeats 4000000
set_option linter.unusedVariables false
section
variable {main : Bool} {J : JT} {n0 : Nat} {h : List AObj} {K : Value → List AObj → Prop}
theorem at3 : prog.funcs[3]? = some f3 := by kernel_rfl
theorem body3 : f3.body = some (codeOf f3) := by kernel_rfl
def pl3 : Plans := [(6,false,.take 0 (.take 1 (.take 2 (.take 3 (.take 5 (.take 6 (.take 7 (.take 8 (.take 9 (.take 11 (.last 4 true (.last 10 true (.last 12 true (.take 13 (.take 14 (.take 15 (.fin))))))))))))))))),
 (14,false,.take 0 (.take 1 (.take 2 (.last 3 true (.last 4 false (.take 5 (.take 6 (.take 7 (.take 8 (.take 9 (.fin))))))))))),
 (15,false,.take 0 (.take 1 (.take 2 (.take 3 (.last 4 true (.last 5 false (.take 6 (.take 7 (.take 8 (.take 9 (.take 10 (.fin)))))))))))),
 (18,true,.take 0 (.take 1 (.take 2 (.take 3 (.take 4 (.take 5 (.take 6 (.take 7 (.take 8 (.take 9 (.take 10 (.take 11 (.take 12 (.take 13 (.take 14 (.take 15 (.take 16 (.take 17 (.take 18 (.take 19 (.take 20 (.take 21 (.take 22 (.take 23 (.take 24 (.take 25 (.take 26 (.take 27 (.fin))))))))))))))))))))))))))))),
 (23,false,.take 0 (.take 1 (.take 2 (.take 3 (.take 4 (.take 5 (.take 6 (.last 7 true (.last 8 true (.take 9 (.take 10 (.take 11 (.take 12 (.take 13 (.fin))))))))))))))),
 (26,true,.take 0 (.take 1 (.take 2 (.take 3 (.take 4 (.take 5 (.last 6 false (.take 7 (.take 8 (.take 9 (.take 10 (.take 11 (.fin)))))))))))))]
def ct3 : Cuts := .bin (.go) (.bin (.go) (.bin (.go) (.bin (.go) (.bin (.go) (.bin (.go) (.bin (.go) (.bin (.bin (.go) (.cut (.go))) (.bin (.go) (.bin (.bin (.go) (.un (.un (.bin (.go) (.bin (.un (.bin (.go) (.bin (.go) (.bin (.bin (.go) (.cut (.go))) (.bin (.bin (.go) (.cut (.go))) (.go)))))) (.go)))))) (.bin (.go) (.bin (.bin (.go) (.cut (.go))) (.go))))))))))))
theorem pok3 : plansOk prog pl3 (codeOf f3) = true := by kernel_rfl
theorem e3 {a0 : Value} : W prog J 238 h.length 3 (codeOf f3) (RG.mk (regs [a0]) []) h (RetQ prog [.tmp 2] h.length K) =
(Good prog J 4 [a0] h fun v1 h2 =>
Good prog J 5 [v1,(vint 3),(vint 5)] h2 fun v3 h4 =>
aExt v3 0 fun v5 =>
aExt v3 1 fun v6 =>
aExt v3 2 fun v7 =>
aAlloc [(vint 0),(vint 0),(vint 0),(Value.slice none 0 0),(vint 0),(Value.slice none 0 0)] h4 fun v8 h9 =>
aStore 6 v8 v5 h9 fun h10 =>
Good prog J 6 [v1,(vint 4),(vint 4)] h10 fun v11 h12 =>
aAlloc [(vint 0),(vint 0),(Value.slice none 0 0),(vint 0),(Value.slice none 0 0),(Value.slice none 0 0)] h12 fun v13 h14 =>
aStore 6 v13 v11 h14 fun h15 =>
aOff v13 5 fun v16 =>
aLoad false 1 v16 h15 fun v17 =>
aLenS v17 fun v18 =>
aBin prog .eql 3 v18 (vint 0) fun v19 =>
cnd v19
(Good prog J 7 [] h15 fun v20 h21 =>
retL h.length K [] [v20] h21)
((∃ B,aOff v8 0 fun v22 =>
aLoad false 1 v22 h15 fun v23 =>
RdOk (some B) (ptrBlk v22) ∧ (aBin prog .sub 3 v23 (vint 1) fun v24 =>
aOff v13 5 fun v25 =>
aLoad false 1 v25 h15 fun v26 =>
RdOk (some B) (ptrBlk v25) ∧ (aLenS v26 fun v27 =>
RdOk (some B) (mapBlk v26) ∧ (aBin prog .sub 3 v27 (vint 1) fun v28 =>
Good prog J 8 [v1,v24] h15 fun v29 h30 =>
SameB (some B) h15 h30 ∧ (Good prog J 8 [v1,v28] h30 fun v31 h32 =>
SameB (some B) h15 h32 ∧ (Good prog J 9 [v1,(vint 8),(vint 40)] h32 fun v33 h34 =>
SameB (some B) h15 h34 ∧ (aLoad true 6 v8 h34 fun v35 =>
Good prog J 10 [v35] h34 fun v36 h37 =>
aExt v36 0 fun v38 =>
aExt v36 1 fun v39 =>
aBin prog .neq 44 v39 (vint 0) fun v40 =>
cnd v40
(Hold (W prog J 238 h.length 3 (subC [1,1,1,1,1,1,1,0,1] (codeOf f3)) (RG.p (RG.p (RG.p (RG.p (RG.p (RG.p (RG.p (RG.p (RG.p (RG.p (RG.p (RG.p (RG.p (RG.p (RG.p (RG.p (RG.p (RG.p (RG.p (RG.p (RG.p (RG.p (RG.p (RG.p (RG.p (RG.p (RG.p (RG.p (RG.p (RG.p (RG.p (RG.p (RG.p (RG.p (RG.p (RG.p (RG.p (RG.p (RG.p (RG.p (RG.p (RG.p (RG.p (RG.p (RG.p (RG.p (RG.p (RG.p (RG.p (RG.p (RG.p (RG.p (RG.p (RG.p (RG.p (RG.p (RG.p (RG.p (RG.p (RG.p (RG.p (RG.p (RG.p (RG.p (RG.p (RG.p (RG.p (RG.p (RG.p (RG.p (RG.p (RG.mk (regs [a0]) []) 2 (Value.bool false)) 22 a0) 23 v1) 3 v1) 25 v1) 26 v3) 24 v3) 27 v5) 28 v6) 29 v7) 4 v8) 5 v6) 6 v7) 30 v1) 31 v11) 7 v13) 32 v16) 33 v17) 34 v18) 35 v19) 37 v1) 38 v22) 39 v23) 40 v24) 42 v1) 43 v25) 44 v26) 45 v27) 46 v28) 48 v1) 41 v29) 47 v31) 49 v33) 8 v29) 9 v31) 10 v33) 51 v35) 52 v36) 50 v36) 53 v38) 54 v39) 11 v38) 12 v39) 55 v39) 56 v40) 57 v40) 57 (Value.bool true)) 58 undef) 59 undef) 60 undef) 61 undef) 62 undef) 63 (Value.bool true)) 64 (Value.bool true)) 64 (Value.bool true)) 65 undef) 66 undef) 67 undef) 68 undef) 69 undef) 70 undef) 71 (Value.bool true)) 72 (Value.bool true)) 72 (Value.bool true)) 73 undef) 74 undef) 75 undef) 76 undef) 77 undef) 78 undef) 79 (Value.bool true)) h37 (contX pl3 prog J 238 h.length 3 ct3 [1,1,1,1,1,1,1,0,1] (codeOf f3) [] (RetQ prog [.tmp 2] h.length K))))
(aLenS v38 fun v41 =>
aOff v8 0 fun v42 =>
aLoad false 1 v42 h37 fun v43 =>
aBin prog .neq 3 v41 v43 fun v44 =>
cnd v44
(Hold (W prog J 238 h.length 3 (subC [1,1,1,1,1,1,1,0,1] (codeOf f3)) (RG.p (RG.p (RG.p (RG.p (RG.p (RG.p (RG.p (RG.p (RG.p (RG.p (RG.p (RG.p (RG.p (RG.p (RG.p (RG.p (RG.p (RG.p (RG.p (RG.p (RG.p (RG.p (RG.p (RG.p (RG.p (RG.p (RG.p (RG.p (RG.p (RG.p (RG.p (RG.p (RG.p (RG.p (RG.p (RG.p (RG.p (RG.p (RG.p (RG.p (RG.p (RG.p (RG.p (RG.p (RG.p (RG.p (RG.p (RG.p (RG.p (RG.p (RG.p (RG.p (RG.p (RG.p (RG.p (RG.p (RG.p (RG.p (RG.p (RG.p (RG.p (RG.p (RG.p (RG.p (RG.p (RG.p (RG.p (RG.p (RG.p (RG.p (RG.p (RG.mk (regs [a0]) []) 2 (Value.bool false)) 22 a0) 23 v1) 3 v1) 25 v1) 26 v3) 24 v3) 27 v5) 28 v6) 29 v7) 4 v8) 5 v6) 6 v7) 30 v1) 31 v11) 7 v13) 32 v16) 33 v17) 34 v18) 35 v19) 37 v1) 38 v22) 39 v23) 40 v24) 42 v1) 43 v25) 44 v26) 45 v27) 46 v28) 48 v1) 41 v29) 47 v31) 49 v33) 8 v29) 9 v31) 10 v33) 51 v35) 52 v36) 50 v36) 53 v38) 54 v39) 11 v38) 12 v39) 55 v39) 56 v40) 57 v40) 57 (Value.bool false)) 58 v38) 59 v41) 60 v42) 61 v43) 62 v44) 63 v44) 64 v44) 64 (Value.bool true)) 65 undef) 66 undef) 67 undef) 68 undef) 69 undef) 70 undef) 71 (Value.bool true)) 72 (Value.bool true)) 72 (Value.bool true)) 73 undef) 74 undef) 75 undef) 76 undef) 77 undef) 78 undef) 79 (Value.bool true)) h37 (contX pl3 prog J 238 h.length 3 ct3 [1,1,1,1,1,1,1,0,1] (codeOf f3) [] (RetQ prog [.tmp 2] h.length K))))
(aIdx 2 v38 v29 fun v45 =>
aOff v45 0 fun v46 =>
aLoad false 1 v46 h37 fun v47 =>
aBin prog .lss 3 v47 (vint 0) fun v48 =>
cnd v48
(Hold (W prog J 238 h.length 3 (subC [1,1,1,1,1,1,1,0,1] (codeOf f3)) (RG.p (RG.p (RG.p (RG.p (RG.p (RG.p (RG.p (RG.p (RG.p (RG.p (RG.p (RG.p (RG.p (RG.p (RG.p (RG.p (RG.p (RG.p (RG.p (RG.p (RG.p (RG.p (RG.p (RG.p (RG.p (RG.p (RG.p (RG.p (RG.p (RG.p (RG.p (RG.p (RG.p (RG.p (RG.p (RG.p (RG.p (RG.p (RG.p (RG.p (RG.p (RG.p (RG.p (RG.p (RG.p (RG.p (RG.p (RG.p (RG.p (RG.p (RG.p (RG.p (RG.p (RG.p (RG.p (RG.p (RG.p (RG.p (RG.p (RG.p (RG.p (RG.p (RG.p (RG.p (RG.p (RG.p (RG.p (RG.p (RG.p (RG.p (RG.p (RG.mk (regs [a0]) []) 2 (Value.bool false)) 22 a0) 23 v1) 3 v1) 25 v1) 26 v3) 24 v3) 27 v5) 28 v6) 29 v7) 4 v8) 5 v6) 6 v7) 30 v1) 31 v11) 7 v13) 32 v16) 33 v17) 34 v18) 35 v19) 37 v1) 38 v22) 39 v23) 40 v24) 42 v1) 43 v25) 44 v26) 45 v27) 46 v28) 48 v1) 41 v29) 47 v31) 49 v33) 8 v29) 9 v31) 10 v33) 51 v35) 52 v36) 50 v36) 53 v38) 54 v39) 11 v38) 12 v39) 55 v39) 56 v40) 57 v40) 57 (Value.bool false)) 58 v38) 59 v41) 60 v42) 61 v43) 62 v44) 63 v44) 64 v44) 64 (Value.bool false)) 65 v38) 66 v29) 67 v45) 68 v46) 69 v47) 70 v48) 71 v48) 72 v48) 72 (Value.bool true)) 73 undef) 74 undef) 75 undef) 76 undef) 77 undef) 78 undef) 79 (Value.bool true)) h37 (contX pl3 prog J 238 h.length 3 ct3 [1,1,1,1,1,1,1,0,1] (codeOf f3) [] (RetQ prog [.tmp 2] h.length K))))
(aIdx 2 v38 v29 fun v49 =>
aOff v49 1 fun v50 =>
aLoad false 1 v50 h37 fun v51 =>
aBin prog .gtr 3 v51 (vint 100) fun v52 =>
Hold (W prog J 238 h.length 3 (subC [1,1,1,1,1,1,1,0,1] (codeOf f3)) (RG.p (RG.p (RG.p (RG.p (RG.p (RG.p (RG.p (RG.p (RG.p (RG.p (RG.p (RG.p (RG.p (RG.p (RG.p (RG.p (RG.p (RG.p (RG.p (RG.p (RG.p (RG.p (RG.p (RG.p (RG.p (RG.p (RG.p (RG.p (RG.p (RG.p (RG.p (RG.p (RG.p (RG.p (RG.p (RG.p (RG.p (RG.p (RG.p (RG.p (RG.p (RG.p (RG.p (RG.p (RG.p (RG.p (RG.p (RG.p (RG.p (RG.p (RG.p (RG.p (RG.p (RG.p (RG.p (RG.p (RG.p (RG.p (RG.p (RG.p (RG.p (RG.p (RG.p (RG.p (RG.p (RG.p (RG.p (RG.p (RG.p (RG.p (RG.p (RG.mk (regs [a0]) []) 2 (Value.bool false)) 22 a0) 23 v1) 3 v1) 25 v1) 26 v3) 24 v3) 27 v5) 28 v6) 29 v7) 4 v8) 5 v6) 6 v7) 30 v1) 31 v11) 7 v13) 32 v16) 33 v17) 34 v18) 35 v19) 37 v1) 38 v22) 39 v23) 40 v24) 42 v1) 43 v25) 44 v26) 45 v27) 46 v28) 48 v1) 41 v29) 47 v31) 49 v33) 8 v29) 9 v31) 10 v33) 51 v35) 52 v36) 50 v36) 53 v38) 54 v39) 11 v38) 12 v39) 55 v39) 56 v40) 57 v40) 57 (Value.bool false)) 58 v38) 59 v41) 60 v42) 61 v43) 62 v44) 63 v44) 64 v44) 64 (Value.bool false)) 65 v38) 66 v29) 67 v45) 68 v46) 69 v47) 70 v48) 71 v48) 72 v48) 72 (Value.bool false)) 73 v38) 74 v29) 75 v49) 76 v50) 77 v51) 78 v52) 79 v52) h37 (contX pl3 prog J 238 h.length 3 ct3 [1,1,1,1,1,1,1,0,1] (codeOf f3) [] (RetQ prog [.tmp 2] h.length K))))))))))))))) := top_eq pok3 ct3 (by kernel_rfl)
theorem g3 (hJ : Closed prog main J) {a0 : Value} (hs : heapOk h → W prog J 238 h.length 3 (codeOf f3) (RG.mk (regs [a0]) []) h (RetQ prog [.tmp 2] h.length K)) : Good prog J 3 [a0] h K :=
 good_of_W hJ mixed at3 body3 (by kernel_rfl) (Nat.le_of_ble_eq_true rfl) hs
theorem s3_1 {f : RG} : W prog J 238 n0 3 (subC [1,1,1,1,1,1,1,0,1] (codeOf f3)) f h (contX pl3 prog J 238 n0 3 ct3 [1,1,1,1,1,1,1,0,1] (codeOf f3) [] (RetQ prog [.tmp 2] n0 K)) =
(cnd (f.r 79)
(retL n0 K f.ds [(Value.bool false)] h)
(aIdx 2 (f.r 11) (f.r 8) fun v1 =>
aOff v1 0 fun v2 =>
aLoad false 1 v2 h fun v3 =>
Sem J 238 n0 3 (subC [1,1,1,1,1,1,1,1,1,0,1,0] (codeOf f3)) (RG.p (RG.p (RG.p (RG.p (RG.p (RG.p (RG.p (RG.p f 13 (vint 0)) 14 (vint (-1))) 80 (f.r 11)) 81 (f.r 8)) 82 v1) 83 v2) 84 v3) 15 v3) h (contX pl3 prog J 238 n0 3 ct3 [1,1,1,1,1,1,1,1,1,0,1,0] (codeOf f3) [] (RetQ prog [.tmp 2] n0 K)))) := sub_eq pok3 ct3 (by kernel_rfl)
theorem s3_2 {f : RG} {nx0 : RG → List AObj → Prop} : W prog J 238 n0 3 (subC [1,1,1,1,1,1,1,1,1,0,1,0,0] (codeOf f3)) f h (thenK nx0 (contX pl3 prog J 238 n0 3 ct3 [1,1,1,1,1,1,1,1,1,0,1,0] (codeOf f3) [] (RetQ prog [.tmp 2] n0 K))) =
(aIdx 2 (f.r 11) (f.r 8) fun v1 =>
aOff v1 1 fun v2 =>
aLoad false 1 v2 h fun v3 =>
aBin prog .leq 3 (f.r 15) v3 fun v4 =>
cnd v4
((∃ B,aLoad true 6 (f.r 7) h fun v5 =>
RdOk (some B) (ptrBlk (f.r 7)) ∧ (Good prog J 12 [(f.r 15),(f.r 9),(vint 40)] h fun v6 h7 =>
SameB (some B) h h7 ∧ (Good prog J 11 [v5,v6] h7 fun v8 h9 =>
aExt v8 0 fun v10 =>
aExt v8 1 fun v11 =>
(∃ B,aLoad true 6 (f.r 7) h9 fun v12 =>
RdOk (some B) (ptrBlk (f.r 7)) ∧ (Good prog J 12 [(f.r 15),(f.r 9),(f.r 10)] h9 fun v13 h14 =>
SameB (some B) h9 h14 ∧ (Good prog J 11 [v12,v13] h14 fun v15 h16 =>
aExt v15 0 fun v17 =>
aExt v15 1 fun v18 =>
aBin prog .neq 44 v11 (vint 0) fun v19 =>
cnd v19
(Hold (W prog J 238 n0 3 (subC [1,1,1,1,1,1,1,1,1,0,1,0,0,1,0,0,1,1,0,1] (codeOf f3)) (RG.p (RG.p (RG.p (RG.p (RG.p (RG.p (RG.p (RG.p (RG.p (RG.p (RG.p (RG.p (RG.p (RG.p (RG.p (RG.p (RG.p (RG.p (RG.p (RG.p (RG.p (RG.p (RG.p (RG.p (RG.p (RG.p (RG.p (RG.p (RG.p (RG.p (RG.p (RG.p (RG.p (RG.p (RG.p (RG.p (RG.p (RG.p (RG.p (RG.p (RG.p (RG.p (RG.p (RG.p (RG.p (RG.p (RG.p (RG.p (RG.p (RG.p (RG.p f 85 (f.r 15)) 86 (f.r 11)) 87 (f.r 8)) 88 v1) 89 v2) 90 v3) 91 v4) 95 v5) 96 (f.r 15)) 97 (f.r 9)) 98 v6) 99 v8) 94 v8) 100 v10) 101 v11) 16 v10) 17 v11) 103 v12) 104 (f.r 15)) 105 (f.r 9)) 106 (f.r 10)) 107 v13) 108 v15) 102 v15) 109 v17) 110 v18) 18 v17) 19 v18) 111 v11) 112 v19) 113 v19) 113 (Value.bool true)) 114 undef) 115 undef) 116 (Value.bool true)) 117 (Value.bool true)) 117 (Value.bool true)) 118 undef) 119 undef) 120 undef) 121 undef) 122 undef) 123 undef) 124 (Value.bool true)) 125 (Value.bool true)) 125 (Value.bool true)) 126 undef) 127 undef) 128 undef) 129 undef) 130 (Value.bool true)) h16 (contX pl3 prog J 238 n0 3 ct3 [1,1,1,1,1,1,1,1,1,0,1,0,0,1,0,0,1,1,0,1] (codeOf f3) [nx0] (RetQ prog [.tmp 2] n0 K))))
(aBin prog .neq 44 v18 (vint 0) fun v20 =>
cnd v20
(Hold (W prog J 238 n0 3 (subC [1,1,1,1,1,1,1,1,1,0,1,0,0,1,0,0,1,1,0,1] (codeOf f3)) (RG.p (RG.p (RG.p (RG.p (RG.p (RG.p (RG.p (RG.p (RG.p (RG.p (RG.p (RG.p (RG.p (RG.p (RG.p (RG.p (RG.p (RG.p (RG.p (RG.p (RG.p (RG.p (RG.p (RG.p (RG.p (RG.p (RG.p (RG.p (RG.p (RG.p (RG.p (RG.p (RG.p (RG.p (RG.p (RG.p (RG.p (RG.p (RG.p (RG.p (RG.p (RG.p (RG.p (RG.p (RG.p (RG.p (RG.p (RG.p (RG.p (RG.p (RG.p f 85 (f.r 15)) 86 (f.r 11)) 87 (f.r 8)) 88 v1) 89 v2) 90 v3) 91 v4) 95 v5) 96 (f.r 15)) 97 (f.r 9)) 98 v6) 99 v8) 94 v8) 100 v10) 101 v11) 16 v10) 17 v11) 103 v12) 104 (f.r 15)) 105 (f.r 9)) 106 (f.r 10)) 107 v13) 108 v15) 102 v15) 109 v17) 110 v18) 18 v17) 19 v18) 111 v11) 112 v19) 113 v19) 113 (Value.bool false)) 114 v18) 115 v20) 116 v20) 117 v20) 117 (Value.bool true)) 118 undef) 119 undef) 120 undef) 121 undef) 122 undef) 123 undef) 124 (Value.bool true)) 125 (Value.bool true)) 125 (Value.bool true)) 126 undef) 127 undef) 128 undef) 129 undef) 130 (Value.bool true)) h16 (contX pl3 prog J 238 n0 3 ct3 [1,1,1,1,1,1,1,1,1,0,1,0,0,1,0,0,1,1,0,1] (codeOf f3) [nx0] (RetQ prog [.tmp 2] n0 K))))
(aLenS v10 fun v21 =>
aOff (f.r 7) 4 fun v22 =>
aLoad false 1 v22 h16 fun v23 =>
aLenS v23 fun v24 =>
aBin prog .neq 3 v21 v24 fun v25 =>
cnd v25
(Hold (W prog J 238 n0 3 (subC [1,1,1,1,1,1,1,1,1,0,1,0,0,1,0,0,1,1,0,1] (codeOf f3)) (RG.p (RG.p (RG.p (RG.p (RG.p (RG.p (RG.p (RG.p (RG.p (RG.p (RG.p (RG.p (RG.p (RG.p (RG.p (RG.p (RG.p (RG.p (RG.p (RG.p (RG.p (RG.p (RG.p (RG.p (RG.p (RG.p (RG.p (RG.p (RG.p (RG.p (RG.p (RG.p (RG.p (RG.p (RG.p (RG.p (RG.p (RG.p (RG.p (RG.p (RG.p (RG.p (RG.p (RG.p (RG.p (RG.p (RG.p (RG.p (RG.p (RG.p (RG.p f 85 (f.r 15)) 86 (f.r 11)) 87 (f.r 8)) 88 v1) 89 v2) 90 v3) 91 v4) 95 v5) 96 (f.r 15)) 97 (f.r 9)) 98 v6) 99 v8) 94 v8) 100 v10) 101 v11) 16 v10) 17 v11) 103 v12) 104 (f.r 15)) 105 (f.r 9)) 106 (f.r 10)) 107 v13) 108 v15) 102 v15) 109 v17) 110 v18) 18 v17) 19 v18) 111 v11) 112 v19) 113 v19) 113 (Value.bool false)) 114 v18) 115 v20) 116 v20) 117 v20) 117 (Value.bool false)) 118 v10) 119 v21) 120 v22) 121 v23) 122 v24) 123 v25) 124 v25) 125 v25) 125 (Value.bool true)) 126 undef) 127 undef) 128 undef) 129 undef) 130 (Value.bool true)) h16 (contX pl3 prog J 238 n0 3 ct3 [1,1,1,1,1,1,1,1,1,0,1,0,0,1,0,0,1,1,0,1] (codeOf f3) [nx0] (RetQ prog [.tmp 2] n0 K))))
(Good prog J 13 [v10,v17] h16 fun v26 h27 =>
aUn .not v26 fun v28 =>
Hold (W prog J 238 n0 3 (subC [1,1,1,1,1,1,1,1,1,0,1,0,0,1,0,0,1,1,0,1] (codeOf f3)) (RG.p (RG.p (RG.p (RG.p (RG.p (RG.p (RG.p (RG.p (RG.p (RG.p (RG.p (RG.p (RG.p (RG.p (RG.p (RG.p (RG.p (RG.p (RG.p (RG.p (RG.p (RG.p (RG.p (RG.p (RG.p (RG.p (RG.p (RG.p (RG.p (RG.p (RG.p (RG.p (RG.p (RG.p (RG.p (RG.p (RG.p (RG.p (RG.p (RG.p (RG.p (RG.p (RG.p (RG.p (RG.p (RG.p (RG.p (RG.p (RG.p (RG.p (RG.p f 85 (f.r 15)) 86 (f.r 11)) 87 (f.r 8)) 88 v1) 89 v2) 90 v3) 91 v4) 95 v5) 96 (f.r 15)) 97 (f.r 9)) 98 v6) 99 v8) 94 v8) 100 v10) 101 v11) 16 v10) 17 v11) 103 v12) 104 (f.r 15)) 105 (f.r 9)) 106 (f.r 10)) 107 v13) 108 v15) 102 v15) 109 v17) 110 v18) 18 v17) 19 v18) 111 v11) 112 v19) 113 v19) 113 (Value.bool false)) 114 v18) 115 v20) 116 v20) 117 v20) 117 (Value.bool false)) 118 v10) 119 v21) 120 v22) 121 v23) 122 v24) 123 v25) 124 v25) 125 v25) 125 (Value.bool false)) 126 v10) 127 v17) 128 v26) 129 v28) 130 v28) h27 (contX pl3 prog J 238 n0 3 ct3 [1,1,1,1,1,1,1,1,1,0,1,0,0,1,0,0,1,1,0,1] (codeOf f3) [nx0] (RetQ prog [.tmp 2] n0 K)))))))))))))
((∃ B,aLoad true 6 (f.r 7) h fun v29 =>
RdOk (some B) (ptrBlk (f.r 7)) ∧ (aIdx 2 (f.r 11) (f.r 8) fun v30 =>
aOff v30 0 fun v31 =>
aLoad false 1 v31 h fun v32 =>
RdOk (some B) (ptrBlk v31) ∧ (Good prog J 12 [v32,(f.r 9),(vint 40)] h fun v33 h34 =>
SameB (some B) h h34 ∧ (Good prog J 11 [v29,v33] h34 fun v35 h36 =>
SameB (some B) h h36 ∧ (aExt v35 0 fun v37 =>
aExt v35 1 fun v38 =>
aBin prog .neq 44 v38 (vint 0) fun v39 =>
cnd v39
(Hold (W prog J 238 n0 3 (subC [1,1,1,1,1,1,1,1,1,1,1,0,1] (codeOf f3)) (RG.p (RG.p (RG.p (RG.p (RG.p (RG.p (RG.p (RG.p (RG.p (RG.p (RG.p (RG.p (RG.p (RG.p (RG.p (RG.p (RG.p (RG.p (RG.p (RG.p (RG.p (RG.p (RG.p (RG.p (RG.p (RG.p (RG.p (RG.p (RG.p (RG.p (RG.p (RG.p (RG.p (RG.p (RG.p (RG.p (RG.p (RG.p (RG.p (RG.p (RG.p (RG.p (RG.p (RG.p (RG.p (RG.p f 85 (f.r 15)) 86 (f.r 11)) 87 (f.r 8)) 88 v1) 89 v2) 90 v3) 91 v4) 172 v29) 173 (f.r 11)) 174 (f.r 8)) 175 v30) 176 v31) 177 v32) 178 (f.r 9)) 179 v33) 180 v35) 171 v35) 181 v37) 182 v38) 20 v37) 12 v38) 183 v38) 184 v39) 185 v39) 185 (Value.bool true)) 186 undef) 187 undef) 188 undef) 189 undef) 190 undef) 191 undef) 192 (Value.bool true)) 193 (Value.bool true)) 193 (Value.bool true)) 194 undef) 195 undef) 196 undef) 197 undef) 198 undef) 199 (Value.bool true)) 200 (Value.bool true)) 200 (Value.bool true)) 201 undef) 202 undef) 203 undef) 204 (Value.bool true)) h36 (contX pl3 prog J 238 n0 3 ct3 [1,1,1,1,1,1,1,1,1,1,1,0,1] (codeOf f3) [] (RetQ prog [.tmp 2] n0 K))))
(aLenS v37 fun v40 =>
aOff (f.r 7) 4 fun v41 =>
aLoad false 1 v41 h36 fun v42 =>
aLenS v42 fun v43 =>
aBin prog .neq 3 v40 v43 fun v44 =>
cnd v44
(Hold (W prog J 238 n0 3 (subC [1,1,1,1,1,1,1,1,1,1,1,0,1] (codeOf f3)) (RG.p (RG.p (RG.p (RG.p (RG.p (RG.p (RG.p (RG.p (RG.p (RG.p (RG.p (RG.p (RG.p (RG.p (RG.p (RG.p (RG.p (RG.p (RG.p (RG.p (RG.p (RG.p (RG.p (RG.p (RG.p (RG.p (RG.p (RG.p (RG.p (RG.p (RG.p (RG.p (RG.p (RG.p (RG.p (RG.p (RG.p (RG.p (RG.p (RG.p (RG.p (RG.p (RG.p (RG.p (RG.p (RG.p f 85 (f.r 15)) 86 (f.r 11)) 87 (f.r 8)) 88 v1) 89 v2) 90 v3) 91 v4) 172 v29) 173 (f.r 11)) 174 (f.r 8)) 175 v30) 176 v31) 177 v32) 178 (f.r 9)) 179 v33) 180 v35) 171 v35) 181 v37) 182 v38) 20 v37) 12 v38) 183 v38) 184 v39) 185 v39) 185 (Value.bool false)) 186 v37) 187 v40) 188 v41) 189 v42) 190 v43) 191 v44) 192 v44) 193 v44) 193 (Value.bool true)) 194 undef) 195 undef) 196 undef) 197 undef) 198 undef) 199 (Value.bool true)) 200 (Value.bool true)) 200 (Value.bool true)) 201 undef) 202 undef) 203 undef) 204 (Value.bool true)) h36 (contX pl3 prog J 238 n0 3 ct3 [1,1,1,1,1,1,1,1,1,1,1,0,1] (codeOf f3) [] (RetQ prog [.tmp 2] n0 K))))
(aIdx 1 v37 (vint 0) fun v45 =>
aLoad false 1 v45 h36 fun v46 =>
aBin prog .lss 3 (f.r 14) v46 fun v47 =>
cnd v47
(Hold (W prog J 238 n0 3 (subC [1,1,1,1,1,1,1,1,1,1,1,0,1] (codeOf f3)) (RG.p (RG.p (RG.p (RG.p (RG.p (RG.p (RG.p (RG.p (RG.p (RG.p (RG.p (RG.p (RG.p (RG.p (RG.p (RG.p (RG.p (RG.p (RG.p (RG.p (RG.p (RG.p (RG.p (RG.p (RG.p (RG.p (RG.p (RG.p (RG.p (RG.p (RG.p (RG.p (RG.p (RG.p (RG.p (RG.p (RG.p (RG.p (RG.p (RG.p (RG.p (RG.p (RG.p (RG.p (RG.p (RG.p f 85 (f.r 15)) 86 (f.r 11)) 87 (f.r 8)) 88 v1) 89 v2) 90 v3) 91 v4) 172 v29) 173 (f.r 11)) 174 (f.r 8)) 175 v30) 176 v31) 177 v32) 178 (f.r 9)) 179 v33) 180 v35) 171 v35) 181 v37) 182 v38) 20 v37) 12 v38) 183 v38) 184 v39) 185 v39) 185 (Value.bool false)) 186 v37) 187 v40) 188 v41) 189 v42) 190 v43) 191 v44) 192 v44) 193 v44) 193 (Value.bool false)) 194 (f.r 14)) 195 v37) 196 v45) 197 v46) 198 v47) 199 v47) 200 v47) 200 (Value.bool true)) 201 undef) 202 undef) 203 undef) 204 (Value.bool true)) h36 (contX pl3 prog J 238 n0 3 ct3 [1,1,1,1,1,1,1,1,1,1,1,0,1] (codeOf f3) [] (RetQ prog [.tmp 2] n0 K))))
(aBin prog .gtr 3 (f.r 14) (f.r 13) fun v48 =>
Hold (W prog J 238 n0 3 (subC [1,1,1,1,1,1,1,1,1,1,1,0,1] (codeOf f3)) (RG.p (RG.p (RG.p (RG.p (RG.p (RG.p (RG.p (RG.p (RG.p (RG.p (RG.p (RG.p (RG.p (RG.p (RG.p (RG.p (RG.p (RG.p (RG.p (RG.p (RG.p (RG.p (RG.p (RG.p (RG.p (RG.p (RG.p (RG.p (RG.p (RG.p (RG.p (RG.p (RG.p (RG.p (RG.p (RG.p (RG.p (RG.p (RG.p (RG.p (RG.p (RG.p (RG.p (RG.p (RG.p (RG.p f 85 (f.r 15)) 86 (f.r 11)) 87 (f.r 8)) 88 v1) 89 v2) 90 v3) 91 v4) 172 v29) 173 (f.r 11)) 174 (f.r 8)) 175 v30) 176 v31) 177 v32) 178 (f.r 9)) 179 v33) 180 v35) 171 v35) 181 v37) 182 v38) 20 v37) 12 v38) 183 v38) 184 v39) 185 v39) 185 (Value.bool false)) 186 v37) 187 v40) 188 v41) 189 v42) 190 v43) 191 v44) 192 v44) 193 v44) 193 (Value.bool false)) 194 (f.r 14)) 195 v37) 196 v45) 197 v46) 198 v47) 199 v47) 200 v47) 200 (Value.bool false)) 201 (f.r 14)) 202 (f.r 13)) 203 v48) 204 v48) h36 (contX pl3 prog J 238 n0 3 ct3 [1,1,1,1,1,1,1,1,1,1,1,0,1] (codeOf f3) [] (RetQ prog [.tmp 2] n0 K))))))))))))) := sub_eq pok3 ct3 (by kernel_rfl)
theorem l3_2 (hJ : Closed prog main J) {S : Type} (μ : S → Nat) (I : S → RG → List AObj → Prop) (hI : ∀ s f h,I s f h → heapOk h → n0 ≤ h.length → W prog J 238 n0 3 (subC [1,1,1,1,1,1,1,1,1,0,1,0,0] (codeOf f3)) f h (thenK (Nx n0 μ I s) (contX pl3 prog J 238 n0 3 ct3 [1,1,1,1,1,1,1,1,1,0,1,0] (codeOf f3) [] (RetQ prog [.tmp 2] n0 K))))
 {s : S} {f : RG} (hi : Gets n0 I s f h) : Sem J 238 n0 3 (subC [1,1,1,1,1,1,1,1,1,0,1,0] (codeOf f3)) f h (contX pl3 prog J 238 n0 3 ct3 [1,1,1,1,1,1,1,1,1,0,1,0] (codeOf f3) [] (RetQ prog [.tmp 2] n0 K)) :=
 loop_rule hJ mixed (b := subC [1,1,1,1,1,1,1,1,1,0,1,0,0] (codeOf f3)) (by kernel_rfl) μ I hI hi
theorem s3_3 {f : RG} {nx0 : RG → List AObj → Prop} : W prog J 238 n0 3 (subC [1,1,1,1,1,1,1,1,1,0,1,0,0,1,0,0,1,1,0,1] (codeOf f3)) f h (contX pl3 prog J 238 n0 3 ct3 [1,1,1,1,1,1,1,1,1,0,1,0,0,1,0,0,1,1,0,1] (codeOf f3) [nx0] (RetQ prog [.tmp 2] n0 K)) =
(cnd (f.r 130)
(retL n0 K f.ds [(Value.bool false)] h)
(aIdx 2 (f.r 11) (f.r 8) fun v1 =>
aOff v1 0 fun v2 =>
aLoad false 1 v2 h fun v3 =>
aBin prog .gtr 3 (f.r 15) v3 fun v4 =>
cnd v4
(aIdx 1 (f.r 16) (vint 0) fun v5 =>
aLoad false 1 v5 h fun v6 =>
aBin prog .lss 3 v6 (f.r 13) fun v7 =>
cnd v7
(Hold (W prog J 238 n0 3 (subC [1,1,1,1,1,1,1,1,1,0,1,0,0,1,0,0,1,1,1,0,1] (codeOf f3)) (RG.p (RG.p (RG.p (RG.p (RG.p (RG.p (RG.p (RG.p (RG.p (RG.p (RG.p (RG.p (RG.p (RG.p (RG.p (RG.p (RG.p (RG.p (RG.p (RG.p (RG.p (RG.p (RG.p (RG.p (RG.p (RG.p (RG.p (RG.p (RG.p (RG.p f 131 (f.r 15)) 132 (f.r 11)) 133 (f.r 8)) 134 v1) 135 v2) 136 v3) 137 v4) 138 v4) 138 (Value.bool true)) 139 (f.r 16)) 140 v5) 141 v6) 142 (f.r 13)) 143 v7) 144 v7) 144 (Value.bool true)) 145 undef) 146 undef) 147 undef) 148 undef) 149 undef) 150 undef) 151 undef) 152 undef) 153 undef) 154 undef) 155 undef) 156 undef) 157 (Value.bool true)) 158 (Value.bool true)) h (contX pl3 prog J 238 n0 3 ct3 [1,1,1,1,1,1,1,1,1,0,1,0,0,1,0,0,1,1,1,0,1] (codeOf f3) [nx0] (RetQ prog [.tmp 2] n0 K))))
(aIdx 1 (f.r 16) (vint 0) fun v8 =>
aLoad false 1 v8 h fun v9 =>
aOff (f.r 7) 5 fun v10 =>
aLoad false 1 v10 h fun v11 =>
aIdx 3 v11 (f.r 9) fun v12 =>
aOff v12 1 fun v13 =>
aLoad false 1 v13 h fun v14 =>
aBin prog .add 3 (f.r 13) v14 fun v15 =>
aBin prog .gtr 3 v9 v15 fun v16 =>
Hold (W prog J 238 n0 3 (subC [1,1,1,1,1,1,1,1,1,0,1,0,0,1,0,0,1,1,1,0,1] (codeOf f3)) (RG.p (RG.p (RG.p (RG.p (RG.p (RG.p (RG.p (RG.p (RG.p (RG.p (RG.p (RG.p (RG.p (RG.p (RG.p (RG.p (RG.p (RG.p (RG.p (RG.p (RG.p (RG.p (RG.p (RG.p (RG.p (RG.p (RG.p (RG.p (RG.p (RG.p f 131 (f.r 15)) 132 (f.r 11)) 133 (f.r 8)) 134 v1) 135 v2) 136 v3) 137 v4) 138 v4) 138 (Value.bool true)) 139 (f.r 16)) 140 v5) 141 v6) 142 (f.r 13)) 143 v7) 144 v7) 144 (Value.bool false)) 145 (f.r 16)) 146 v8) 147 v9) 148 (f.r 13)) 149 v10) 150 v11) 151 (f.r 9)) 152 v12) 153 v13) 154 v14) 155 v15) 156 v16) 157 v16) 158 v16) h (contX pl3 prog J 238 n0 3 ct3 [1,1,1,1,1,1,1,1,1,0,1,0,0,1,0,0,1,1,1,0,1] (codeOf f3) [nx0] (RetQ prog [.tmp 2] n0 K)))))
(Hold (W prog J 238 n0 3 (subC [1,1,1,1,1,1,1,1,1,0,1,0,0,1,0,0,1,1,1,0,1] (codeOf f3)) (RG.p (RG.p (RG.p (RG.p (RG.p (RG.p (RG.p (RG.p (RG.p (RG.p (RG.p (RG.p (RG.p (RG.p (RG.p (RG.p (RG.p (RG.p (RG.p (RG.p (RG.p (RG.p (RG.p (RG.p (RG.p (RG.p (RG.p (RG.p (RG.p f 131 (f.r 15)) 132 (f.r 11)) 133 (f.r 8)) 134 v1) 135 v2) 136 v3) 137 v4) 138 v4) 138 (Value.bool false)) 139 undef) 140 undef) 141 undef) 142 undef) 143 undef) 144 undef) 145 undef) 146 undef) 147 undef) 148 undef) 149 undef) 150 undef) 151 undef) 152 undef) 153 undef) 154 undef) 155 undef) 156 undef) 157 undef) 158 (Value.bool false)) h (contX pl3 prog J 238 n0 3 ct3 [1,1,1,1,1,1,1,1,1,0,1,0,0,1,0,0,1,1,1,0,1] (codeOf f3) [nx0] (RetQ prog [.tmp 2] n0 K)))))) := sub_eq pok3 ct3 (by kernel_rfl)
theorem s3_4 {f : RG} : W prog J 238 n0 3 (subC [1,1,1,1,1,1,1,1,1,1,1,0,1] (codeOf f3)) f h (contX pl3 prog J 238 n0 3 ct3 [1,1,1,1,1,1,1,1,1,1,1,0,1] (codeOf f3) [] (RetQ prog [.tmp 2] n0 K)) =
(cnd (f.r 204)
(retL n0 K f.ds [(Value.bool false)] h)
(aLoad true 6 (f.r 4) h fun v1 =>
aIdx 1 (f.r 5) (f.r 8) fun v2 =>
aLoad false 1 v2 h fun v3 =>
Good prog J 14 [v1,(f.r 8),v3] h fun v4 h5 =>
aExt v4 0 fun v6 =>
aExt v4 1 fun v7 =>
aBin prog .eql 44 v7 (vint 0) fun v8 =>
cnd v8
(aBin prog .neq 3 v6 (vint 1) fun v9 =>
cnd v9
(Good prog J 7 [] h5 fun v10 h11 =>
retL n0 K f.ds [v10] h11)
(aIdx 1 (f.r 20) (vint 0) fun v12 =>
aLoad false 1 v12 h5 fun v13 =>
aBin prog .eql 3 v13 (f.r 13) fun v14 =>
cnd v14
(aIdx 1 (f.r 20) (vint 0) fun v15 =>
aLoad false 1 v15 h5 fun v16 =>
aBin prog .eql 3 v16 (f.r 14) fun v17 =>
cnd v17
(Good prog J 7 [] h5 fun v18 h19 =>
retL n0 K f.ds [v18] h19)
(retL n0 K f.ds [(Value.bool false)] h5))
(retL n0 K f.ds [(Value.bool false)] h5)))
(retL n0 K f.ds [(Value.bool false)] h5))) := sub_eq pok3 ct3 (by kernel_rfl)
theorem s3_5 {f : RG} {nx0 : RG → List AObj → Prop} : W prog J 238 n0 3 (subC [1,1,1,1,1,1,1,1,1,0,1,0,0,1,0,0,1,1,1,0,1] (codeOf f3)) f h (contX pl3 prog J 238 n0 3 ct3 [1,1,1,1,1,1,1,1,1,0,1,0,0,1,0,0,1,1,1,0,1] (codeOf f3) [nx0] (RetQ prog [.tmp 2] n0 K)) =
(cnd (f.r 158)
(retL n0 K f.ds [(Value.bool false)] h)
(aIdx 1 (f.r 16) (vint 0) fun v1 =>
aLoad false 1 v1 h fun v2 =>
aIdx 1 (f.r 5) (f.r 8) fun v3 =>
aLoad false 1 v3 h fun v4 =>
aBin prog .eql 3 (f.r 15) v4 fun v5 =>
cnd v5
(aIdx 1 (f.r 16) (vint 0) fun v6 =>
aLoad false 1 v6 h fun v7 =>
aBin prog .add 3 (f.r 15) (vint 1) fun v8 =>
nx0 (RG.p (RG.p (RG.p (RG.p (RG.p (RG.p (RG.p (RG.p (RG.p (RG.p (RG.p (RG.p (RG.p (RG.p (RG.p (RG.p (RG.p f 159 (f.r 16)) 160 v1) 161 v2) 13 v2) 162 (f.r 15)) 163 (f.r 5)) 164 (f.r 8)) 165 v3) 166 v4) 167 v5) 168 (f.r 16)) 169 v6) 170 v7) 14 v7) 92 (f.r 15)) 93 v8) 15 v8) h)
(aBin prog .add 3 (f.r 15) (vint 1) fun v9 =>
nx0 (RG.p (RG.p (RG.p (RG.p (RG.p (RG.p (RG.p (RG.p (RG.p (RG.p (RG.p (RG.p (RG.p f 159 (f.r 16)) 160 v1) 161 v2) 13 v2) 162 (f.r 15)) 163 (f.r 5)) 164 (f.r 8)) 165 v3) 166 v4) 167 v5) 92 (f.r 15)) 93 v9) 15 v9) h))) := sub_eq pok3 ct3 (by kernel_rfl)
end
section
variable {main : Bool} {J : JT} {n0 : Nat} {h : List AObj} {K : Value → List AObj → Prop}
theorem at12 : prog.funcs[12]? = some f12 := by kernel_rfl
theorem body12 : f12.body = some (codeOf f12) := by kernel_rfl
def pl12 : Plans := []
def ct12 : Cuts := .go
theorem pok12 : plansOk prog pl12 (codeOf f12) = true := by kernel_rfl
theorem e12 {a0 a1 a2 : Value} : W prog J 24 h.length 12 (codeOf f12) (RG.mk (regs [a0,a1,a2]) []) h (RetQ prog [.tmp 6] h.length K) =
(Sem J 24 h.length 12 (subC [1,1,0,0] (codeOf f12)) (RG.p (RG.p (RG.mk (regs [a0,a1,a2]) []) 6 (Value.slice none 0 0)) 7 (Value.slice none 0 0)) h (contX pl12 prog J 24 h.length 12 ct12 [1,1,0,0] (codeOf f12) [] (RetQ prog [.tmp 6] h.length K))) := top_eq pok12 ct12 (by kernel_rfl)
theorem g12 (hJ : Closed prog main J) {a0 a1 a2 : Value} (hs : heapOk h → W prog J 24 h.length 12 (codeOf f12) (RG.mk (regs [a0,a1,a2]) []) h (RetQ prog [.tmp 6] h.length K)) : Good prog J 12 [a0,a1,a2] h K :=
 good_of_W hJ mixed at12 body12 (by kernel_rfl) (Nat.le_of_ble_eq_true rfl) hs
theorem s12_1 {f : RG} {nx0 : RG → List AObj → Prop} : W prog J 24 n0 12 (subC [1,1,0,0,0] (codeOf f12)) f h (thenK nx0 (contX pl12 prog J 24 n0 12 ct12 [1,1,0,0] (codeOf f12) [] (RetQ prog [.tmp 6] n0 K))) =
(aBin prog .gtr 3 (f.r 0) (vint 0) fun v1 =>
cnd v1
(aMin (f.r 0) [(f.r 2)] fun v2 =>
aFill [(vint 0),(vint 0),(vint 0)] [(0,1,(f.r 1)),(2,1,v2)] fun c3 =>
(((1 * 3 : Nat) ≤ 16777216 ∧ (1 : Nat) ≤ 16777216 ∧ List.length [(vint 0),(vint 0),(vint 0)] = 3) ∧ aFill (zrep [(vint 0),(vint 0),(vint 0)] 1) [(0,3,(Value.agg ⟨c3⟩))] fun c4 =>
aNewS 1 c4 h fun v5 h6 =>
((List.length [(vint 0),(vint 0),(vint 0)] = 3 ∧ 0 < (3 : Nat) ∧ 0 < (24 : Nat) ∧ (24 : Nat) ≤ 1024) ∧ aApp 3 (f.r 7) v5 h6 fun v7 h8 =>
aBin prog .sub 3 (f.r 0) v2 fun v9 =>
nx0 (RG.p (RG.p (RG.p (RG.p (RG.p (RG.p (RG.p (RG.p (RG.p (RG.p (RG.p (RG.p (RG.p (RG.p (RG.p (RG.p (RG.p f 9 (f.r 0)) 10 v1) 11 (f.r 0)) 12 (f.r 2)) 13 v2) 8 v2) 14 (f.r 7)) 15 (f.r 1)) 16 v2) 17 (Value.agg ⟨c3⟩)) 18 v5) 19 v7) 20 (f.r 0)) 21 v2) 22 v9) 7 v7) 0 v9) h8)))
(retL n0 K f.ds [(f.r 7)] h)) := sub_eq pok12 ct12 (by kernel_rfl)
theorem l12_1 (hJ : Closed prog main J) {S : Type} (μ : S → Nat) (I : S → RG → List AObj → Prop) (hI : ∀ s f h,I s f h → heapOk h → n0 ≤ h.length → W prog J 24 n0 12 (subC [1,1,0,0,0] (codeOf f12)) f h (thenK (Nx n0 μ I s) (contX pl12 prog J 24 n0 12 ct12 [1,1,0,0] (codeOf f12) [] (RetQ prog [.tmp 6] n0 K))))
 {s : S} {f : RG} (hi : Gets n0 I s f h) : Sem J 24 n0 12 (subC [1,1,0,0] (codeOf f12)) f h (contX pl12 prog J 24 n0 12 ct12 [1,1,0,0] (codeOf f12) [] (RetQ prog [.tmp 6] n0 K)) :=
 loop_rule hJ mixed (b := subC [1,1,0,0,0] (codeOf f12)) (by kernel_rfl) μ I hI hi
theorem at18 : prog.funcs[18]? = some f18 := by kernel_rfl
theorem body18 : f18.body = some (codeOf f18) := by kernel_rfl
def pl18 : Plans := []
def ct18 : Cuts := .go
theorem pok18 : plansOk prog pl18 (codeOf f18) = true := by kernel_rfl
theorem e18 : W prog J 7 h.length 18 (codeOf f18) (RG.mk (regs []) []) h (RetQ prog [.cell 0 30] h.length K) =
(aAlloc [(vint 0),(vint 0),(vint 0),(Value.slice none 0 0),(vint 0),(Value.slice none 0 0)] h fun v1 h2 =>
aFill [(vint 0),(vint 0)] [(0,1,(vint 10)),(1,1,(vint 10))] fun c3 =>
aFill [(vint 0),(vint 0)] [] fun c4 =>
(((1 * 2 : Nat) ≤ 16777216 ∧ (1 : Nat) ≤ 16777216 ∧ List.length [(vint 0),(vint 0)] = 2) ∧ aFill (zrep [(vint 0),(vint 0)] 1) [(0,2,(Value.agg ⟨c4⟩))] fun c5 =>
aNewS 1 c5 h2 fun v6 h7 =>
aFill [(vint 0),(vint 0),(vint 0),(vint 0)] [(0,1,(vint 1)),(1,1,(vint 1)),(2,1,(vint 7))] fun c8 =>
(((1 * 4 : Nat) ≤ 16777216 ∧ (1 : Nat) ≤ 16777216 ∧ List.length [(vint 0),(vint 0),(vint 0),(vint 0)] = 4) ∧ aFill (zrep [(vint 0),(vint 0),(vint 0),(vint 0)] 1) [(0,4,(Value.agg ⟨c8⟩))] fun c9 =>
aNewS 1 c9 h7 fun v10 h11 =>
aFill [(vint 0),(vint 0),(vint 0),(Value.slice none 0 0),(vint 0),(Value.slice none 0 0)] [(0,1,(vint 2)),(1,2,(Value.agg ⟨c3⟩)),(3,1,v6),(4,1,(vint 5)),(5,1,v10)] fun c12 =>
aStore 6 v1 (Value.agg ⟨c12⟩) h11 fun h13 =>
RetQ prog [.cell 0 30] h.length K .ret (RG.p (RG.p (RG.p (RG.p (RG.p (RG.p (RG.p (RG.mk (regs []) []) 0 v1) 1 (Value.agg ⟨c3⟩)) 2 (Value.agg ⟨c4⟩)) 3 v6) 4 (Value.agg ⟨c8⟩)) 5 v10) 6 (Value.agg ⟨c12⟩)) h13))) := top_eq pok18 ct18 (by kernel_rfl)
theorem g18 (hJ : Closed prog main J) (hs : heapOk h → W prog J 7 h.length 18 (codeOf f18) (RG.mk (regs []) []) h (RetQ prog [.cell 0 30] h.length K)) : Good prog J 18 [] h K :=
 good_of_W hJ mixed at18 body18 (by kernel_rfl) (Nat.le_of_ble_eq_true rfl) hs
theorem at28 : prog.funcs[28]? = some f28 := by kernel_rfl
theorem body28 : f28.body = some (codeOf f28) := by kernel_rfl
def pl28 : Plans := []
def ct28 : Cuts := .go
theorem pok28 : plansOk prog pl28 (codeOf f28) = true := by kernel_rfl
theorem e28 : W prog J 14 h.length 28 (codeOf f28) (RG.mk (regs []) []) h (RetQ prog [.cell 0 91] h.length K) =
(aAlloc [(vint 0),(vint 0),(Value.slice none 0 0),(vint 0),(vint 0),(vint 0),(Value.slice none 0 0),(vint 0),(Value.slice none 0 0)] h fun v1 h2 =>
Good prog J 45 [] h2 fun v3 h4 =>
aAlloc [(vint 0),(vint 0),(vint 0),(vint 0),(vint 0),(vint 0)] h4 fun v5 h6 =>
aStore 6 v5 v3 h6 fun h7 =>
aFill [(vint 0),(vint 0),(vint 0),(vint 0),(vint 0),(vint 0),(vint 0)] [(1,1,(vint 1)),(2,1,(vint 4)),(3,1,(vint 90)),(4,1,(vint 1))] fun c8 =>
(((1 * 7 : Nat) ≤ 16777216 ∧ (1 : Nat) ≤ 16777216 ∧ List.length [(vint 0),(vint 0),(vint 0),(vint 0),(vint 0),(vint 0),(vint 0)] = 7) ∧ aFill (zrep [(vint 0),(vint 0),(vint 0),(vint 0),(vint 0),(vint 0),(vint 0)] 1) [(0,7,(Value.agg ⟨c8⟩))] fun c9 =>
aNewS 1 c9 h7 fun v10 h11 =>
aFill [(vint 0),(vint 0),(Value.slice none 0 0)] [(0,1,(vint 2)),(1,1,(vint 2)),(2,1,v10)] fun c12 =>
aFill [(vint 0),(vint 0),(vint 0)] [(0,1,(vint 2)),(1,1,(vint 2)),(2,1,(vint 2))] fun c13 =>
aLoad true 6 v5 h11 fun v14 =>
aLoad true 6 v5 h11 fun v15 =>
(((2 * 6 : Nat) ≤ 16777216 ∧ (2 : Nat) ≤ 16777216 ∧ List.length [(vint 0),(vint 0),(vint 0),(vint 0),(vint 0),(vint 0)] = 6) ∧ aFill (zrep [(vint 0),(vint 0),(vint 0),(vint 0),(vint 0),(vint 0)] 2) [(0,6,v14),(6,6,v15)] fun c16 =>
aNewS 2 c16 h11 fun v17 h18 =>
aFill [(vint 0),(vint 0)] [(0,1,(vint 5)),(1,1,(vint 5))] fun c19 =>
aFill [(vint 0),(vint 0),(vint 0),(vint 0),(Value.bool false)] [(0,2,(Value.agg ⟨c19⟩))] fun c20 =>
(((1 * 5 : Nat) ≤ 16777216 ∧ (1 : Nat) ≤ 16777216 ∧ List.length [(vint 0),(vint 0),(vint 0),(vint 0),(Value.bool false)] = 5) ∧ aFill (zrep [(vint 0),(vint 0),(vint 0),(vint 0),(Value.bool false)] 1) [(0,5,(Value.agg ⟨c20⟩))] fun c21 =>
aNewS 1 c21 h18 fun v22 h23 =>
aFill [(vint 0),(vint 0),(Value.slice none 0 0),(vint 0),(vint 0),(vint 0),(Value.slice none 0 0),(vint 0),(Value.slice none 0 0)] [(0,3,(Value.agg ⟨c12⟩)),(3,3,(Value.agg ⟨c13⟩)),(6,1,v17),(7,1,(vint 1)),(8,1,v22)] fun c24 =>
aStore 9 v1 (Value.agg ⟨c24⟩) h23 fun h25 =>
RetQ prog [.cell 0 91] h.length K .ret (RG.p (RG.p (RG.p (RG.p (RG.p (RG.p (RG.p (RG.p (RG.p (RG.p (RG.p (RG.p (RG.p (RG.p (RG.mk (regs []) []) 0 v1) 2 v3) 1 v5) 3 (Value.agg ⟨c8⟩)) 4 v10) 5 (Value.agg ⟨c12⟩)) 6 (Value.agg ⟨c13⟩)) 7 v14) 8 v15) 9 v17) 10 (Value.agg ⟨c19⟩)) 11 (Value.agg ⟨c20⟩)) 12 v22) 13 (Value.agg ⟨c24⟩)) h25)))) := top_eq pok28 ct28 (by kernel_rfl)
theorem g28 (hJ : Closed prog main J) (hs : heapOk h → W prog J 14 h.length 28 (codeOf f28) (RG.mk (regs []) []) h (RetQ prog [.cell 0 91] h.length K)) : Good prog J 28 [] h K :=
 good_of_W hJ mixed at28 body28 (by kernel_rfl) (Nat.le_of_ble_eq_true rfl) hs
theorem at19 : prog.funcs[19]? = some f19 := by kernel_rfl
theorem body19 : f19.body = some (codeOf f19) := by kernel_rfl
def pl19 : Plans := []
def ct19 : Cuts := .go
theorem pok19 : plansOk prog pl19 (codeOf f19) = true := by kernel_rfl
theorem e19 : W prog J 8 h.length 19 (codeOf f19) (RG.mk (regs []) []) h (RetQ prog [.cell 0 39] h.length K) =
(aAlloc [(vint 0),(vint 0),(Value.slice none 0 0),(vint 0),(Value.slice none 0 0),(Value.slice none 0 0)] h fun v1 h2 =>
Good prog J 28 [] h2 fun v3 h4 =>
aField true 3 0 v3 fun v5 =>
aFill [(vint 0),(vint 0),(Value.bool false)] [(0,1,(vint 10))] fun c6 =>
(((1 * 3 : Nat) ≤ 16777216 ∧ (1 : Nat) ≤ 16777216 ∧ List.length [(vint 0),(vint 0),(Value.bool false)] = 3) ∧ aFill (zrep [(vint 0),(vint 0),(Value.bool false)] 1) [(0,3,(Value.agg ⟨c6⟩))] fun c7 =>
aNewS 1 c7 h4 fun v8 h9 =>
aFill [(vint 0),(vint 0),(vint 0)] [(1,1,(vint 50)),(2,1,(vint 1))] fun c10 =>
(((1 * 3 : Nat) ≤ 16777216 ∧ (1 : Nat) ≤ 16777216 ∧ List.length [(vint 0),(vint 0),(vint 0)] = 3) ∧ aFill (zrep [(vint 0),(vint 0),(vint 0)] 1) [(0,3,(Value.agg ⟨c10⟩))] fun c11 =>
aNewS 1 c11 h9 fun v12 h13 =>
aFill [(vint 0),(vint 0),(Value.slice none 0 0),(vint 0),(Value.slice none 0 0),(Value.slice none 0 0)] [(0,3,v5),(3,1,(vint 5)),(4,1,v8),(5,1,v12)] fun c14 =>
aStore 6 v1 (Value.agg ⟨c14⟩) h13 fun h15 =>
RetQ prog [.cell 0 39] h.length K .ret (RG.p (RG.p (RG.p (RG.p (RG.p (RG.p (RG.p (RG.p (RG.mk (regs []) []) 0 v1) 1 v3) 2 v5) 3 (Value.agg ⟨c6⟩)) 4 v8) 5 (Value.agg ⟨c10⟩)) 6 v12) 7 (Value.agg ⟨c14⟩)) h15))) := top_eq pok19 ct19 (by kernel_rfl)
theorem g19 (hJ : Closed prog main J) (hs : heapOk h → W prog J 8 h.length 19 (codeOf f19) (RG.mk (regs []) []) h (RetQ prog [.cell 0 39] h.length K)) : Good prog J 19 [] h K :=
 good_of_W hJ mixed at19 body19 (by kernel_rfl) (Nat.le_of_ble_eq_true rfl) hs
theorem at45 : prog.funcs[45]? = some f45 := by kernel_rfl
theorem body45 : f45.body = some (codeOf f45) := by kernel_rfl
def pl45 : Plans := []
def ct45 : Cuts := .go
theorem pok45 : plansOk prog pl45 (codeOf f45) = true := by kernel_rfl
theorem e45 : W prog J 2 h.length 45 (codeOf f45) (RG.mk (regs []) []) h (RetQ prog [.cell 0 125] h.length K) =
(aAlloc [(vint 0),(vint 0),(vint 0),(vint 0),(vint 0),(vint 0)] h fun v1 h2 =>
aFill [(vint 0),(vint 0),(vint 0),(vint 0),(vint 0),(vint 0)] [(0,1,(vint 12)),(1,1,(vint 20)),(2,1,(vint 1)),(3,1,(vint 4)),(4,1,(vint 3)),(5,1,(vint 2))] fun c3 =>
aStore 6 v1 (Value.agg ⟨c3⟩) h2 fun h4 =>
RetQ prog [.cell 0 125] h.length K .ret (RG.p (RG.p (RG.mk (regs []) []) 0 v1) 1 (Value.agg ⟨c3⟩)) h4) := top_eq pok45 ct45 (by kernel_rfl)
theorem g45 (hJ : Closed prog main J) (hs : heapOk h → W prog J 2 h.length 45 (codeOf f45) (RG.mk (regs []) []) h (RetQ prog [.cell 0 125] h.length K)) : Good prog J 45 [] h K :=
 good_of_W hJ mixed at45 body45 (by kernel_rfl) (Nat.le_of_ble_eq_true rfl) hs
theorem at7 : prog.funcs[7]? = some f7 := by kernel_rfl
theorem body7 : f7.body = some (codeOf f7) := by kernel_rfl
def pl7 : Plans := []
def ct7 : Cuts := .go
theorem pok7 : plansOk prog pl7 (codeOf f7) = true := by kernel_rfl
theorem e7 : W prog J 36 h.length 7 (codeOf f7) (RG.mk (regs []) []) h (RetQ prog [.tmp 0] h.length K) =
(Good prog J 18 [] h fun v1 h2 =>
Good prog J 10 [v1] h2 fun v3 h4 =>
aExt v3 0 fun v5 =>
aExt v3 1 fun v6 =>
Good prog J 19 [] h4 fun v7 h8 =>
aFill [(vint 0),(vint 0),(vint 0)] [(2,1,(vint 3))] fun c9 =>
aFill [(vint 0),(vint 0),(vint 0)] [(2,1,(vint 4))] fun c10 =>
(((2 * 3 : Nat) ≤ 16777216 ∧ (2 : Nat) ≤ 16777216 ∧ List.length [(vint 0),(vint 0),(vint 0)] = 3) ∧ aFill (zrep [(vint 0),(vint 0),(vint 0)] 2) [(0,3,(Value.agg ⟨c9⟩)),(3,3,(Value.agg ⟨c10⟩))] fun c11 =>
aNewS 2 c11 h8 fun v12 h13 =>
Good prog J 11 [v7,v12] h13 fun v14 h15 =>
aExt v14 0 fun v16 =>
aExt v14 1 fun v17 =>
aBin prog .eql 44 v6 (vint 0) fun v18 =>
cnd v18
(aBin prog .eql 44 v17 (vint 0) fun v19 =>
cnd v19
(aFill [(vint 0),(vint 0)] [(0,1,(vint 10)),(1,1,(vint 10))] fun c20 =>
aFill [(vint 0),(vint 0)] [(0,1,(vint 7)),(1,1,(vint 7))] fun c21 =>
(((2 * 2 : Nat) ≤ 16777216 ∧ (2 : Nat) ≤ 16777216 ∧ List.length [(vint 0),(vint 0)] = 2) ∧ aFill (zrep [(vint 0),(vint 0)] 2) [(0,2,(Value.agg ⟨c20⟩)),(2,2,(Value.agg ⟨c21⟩))] fun c22 =>
aNewS 2 c22 h15 fun v23 h24 =>
Good prog J 20 [v5,v23] h24 fun v25 h26 =>
cnd v25
((((1 * 1 : Nat) ≤ 16777216 ∧ (1 : Nat) ≤ 16777216 ∧ List.length [(vint 0)] = 1) ∧ aFill (zrep [(vint 0)] 1) [(0,1,(vint 4))] fun c27 =>
aNewS 1 c27 h26 fun v28 h29 =>
Good prog J 13 [v16,v28] h29 fun v30 h31 =>
retL h.length K [] [v30] h31))
(retL h.length K [] [(Value.bool false)] h26)))
(retL h.length K [] [(Value.bool false)] h15))
(retL h.length K [] [(Value.bool false)] h15))) := top_eq pok7 ct7 (by kernel_rfl)
theorem g7 (hJ : Closed prog main J) (hs : heapOk h → W prog J 36 h.length 7 (codeOf f7) (RG.mk (regs []) []) h (RetQ prog [.tmp 0] h.length K)) : Good prog J 7 [] h K :=
 good_of_W hJ mixed at7 body7 (by kernel_rfl) (Nat.le_of_ble_eq_true rfl) hs
end
section
variable {main : Bool} {J : JT} {n0 : Nat} {h : List AObj} {K : Value → List AObj → Prop}
section
variable {Sx : RG → List AObj → Prop}
theorem at25 : prog.funcs[25]? = some f25 := by kernel_rfl
theorem body25 : f25.body = some (codeOf f25) := by kernel_rfl
def pl25 : Plans := []
def ct25 : Cuts := .go
theorem pok25 : plansOk prog pl25 (trunc 2 (codeOf f25)) = true := by kernel_rfl
theorem e25 {a0 a1 : Value} : W prog J 46 h.length 25 (trunc 2 (codeOf f25)) (RG.mk (regs [a0,a1]) []) h (thenK Sx (RetQ prog [.tmp 4] h.length K)) =
(aBox a1 h fun v1 h2 =>
((16 : Nat) ≤ 1024 ∧ aMkC (vint 0) h2 fun v3 h4 =>
aAlloc [(Value.chan none)] h4 fun v5 h6 =>
aStore 1 v5 v3 h6 fun h7 =>
Sx (RG.p (RG.p (RG.p (RG.p (RG.mk (regs [a0,a1]) []) 3 v1) 4 (Value.slice none 0 0)) 9 v3) 5 v5) h7)) := top_eq pok25 ct25 (by kernel_rfl)
end
theorem q25_1 {f : RG} {fr : FuncId} {Q : QT} : W prog J 46 n0 fr (subC [1,1,0,0] (codeOf f25)) f h Q =
(aNil (f.r 0) fun v1 =>
aOff v1 0 fun v2 =>
aOff v2 4 fun v3 =>
aLoad false 1 v3 h fun v4 =>
aLenS v4 fun v5 =>
Q .normal (RG.p (RG.p (RG.p (RG.p (RG.p (RG.p (RG.p f 10 (f.r 0)) 11 v1) 12 v2) 13 v3) 14 v4) 15 v5) 16 (vint 0)) h) := by kernel_rfl
theorem q25_2 {f : RG} {fr : FuncId} {Q : QT} : W prog J 46 n0 fr (subC [1,1,0,1,0,0,0] (codeOf f25)) f h Q =
(aBin prog .lss 3 (f.r 16) (f.r 15) fun v1 =>
Q .normal (RG.p f 17 v1) h) := by kernel_rfl
theorem q25_3 {f : RG} {fr : FuncId} {Q : QT} : W prog J 46 n0 fr (subC [1,1,0,1,0,0,1,0] (codeOf f25)) f h Q =
(cnd (f.r 17)
(Q .normal f h)
(Q (.exit 0) f h)) := by kernel_rfl
theorem q25_4 {f : RG} {fr : FuncId} {Q : QT} : W prog J 46 n0 fr (subC [1,1,0,1,0,0,1,1,0,0,0] (codeOf f25)) f h Q =
(aAlloc [(vint 0)] h fun v1 h2 =>
aStore 1 v1 (f.r 16) h2 fun h3 =>
Q .normal (RG.p (RG.p f 18 (f.r 16)) 6 v1) h3) := by kernel_rfl
theorem q25_5 {f : RG} {fr : FuncId} {Q : QT} : W prog J 46 n0 fr (subC [1,1,0,1,0,0,1,1,1] (codeOf f25)) f h Q =
(aBin prog .add 3 (f.r 16) (vint 1) fun v1 =>
Q .normal (RG.p (RG.p f 20 v1) 16 v1) h) := by kernel_rfl
theorem q25_6 {f : RG} {fr : FuncId} {Q : QT} : W prog J 46 n0 fr (subC [1,1,1,0] (codeOf f25)) f h Q =
(aNil (f.r 0) fun v1 =>
aOff v1 0 fun v2 =>
aOff v2 4 fun v3 =>
aLoad false 1 v3 h fun v4 =>
aLenS v4 fun v5 =>
((List.length [(vint 0)] = 1 ∧ (8 : Nat) ≤ 1024) ∧ aMkS [(vint 0)] v5 v5 h fun v6 h7 =>
Q .normal (RG.p (RG.p (RG.p (RG.p (RG.p (RG.p (RG.p (RG.p f 21 (f.r 0)) 22 v1) 23 v2) 24 v3) 25 v4) 26 v5) 27 v6) 7 v6) h7)) := by kernel_rfl
theorem q25_7 {f : RG} {fr : FuncId} {Q : QT} : W prog J 46 n0 fr (subC [1,1,1,1,0,0] (codeOf f25)) f h Q =
(aNil (f.r 0) fun v1 =>
aOff v1 0 fun v2 =>
aOff v2 4 fun v3 =>
aLoad false 1 v3 h fun v4 =>
aLenS v4 fun v5 =>
Q .normal (RG.p (RG.p (RG.p (RG.p (RG.p (RG.p (RG.p f 28 (f.r 0)) 29 v1) 30 v2) 31 v3) 32 v4) 33 v5) 34 (vint 0)) h) := by kernel_rfl
theorem q25_8 {f : RG} {fr : FuncId} {Q : QT} : W prog J 46 n0 fr (subC [1,1,1,1,0,1,0,0,0] (codeOf f25)) f h Q =
(aBin prog .lss 3 (f.r 34) (f.r 33) fun v1 =>
Q .normal (RG.p f 35 v1) h) := by kernel_rfl
theorem q25_9 {f : RG} {fr : FuncId} {Q : QT} : W prog J 46 n0 fr (subC [1,1,1,1,0,1,0,0,1,0] (codeOf f25)) f h Q =
(cnd (f.r 35)
(Q .normal f h)
(Q (.exit 2) f h)) := by kernel_rfl
theorem q25_10 {f : RG} {fr : FuncId} {Q : QT} : W prog J 46 n0 fr (subC [1,1,1,1,0,1,0,0,1,1,0,0,1] (codeOf f25)) f h Q =
(aOff (f.r 8) 0 fun v1 =>
aLoad false 1 v1 h fun v2 =>
aOff (f.r 8) 1 fun v3 =>
aLoad false 1 v3 h fun v4 =>
aIdx 1 (f.r 7) v2 fun v5 =>
aStore 1 v5 v4 h fun h6 =>
Q .normal (RG.p (RG.p (RG.p (RG.p (RG.p (RG.p f 38 (f.r 7)) 39 v1) 40 v2) 41 v3) 42 v4) 43 v5) h6) := by kernel_rfl
theorem q25_11 {f : RG} {fr : FuncId} {Q : QT} : W prog J 46 n0 fr (subC [1,1,1,1,0,1,0,0,1,1,1] (codeOf f25)) f h Q =
(aBin prog .add 3 (f.r 34) (vint 1) fun v1 =>
Q .normal (RG.p (RG.p f 44 v1) 34 v1) h) := by kernel_rfl
noncomputable def ops25_1 : Array Oper := opsAt [1,1,0,1,0,0,1,1,0,0,1] (codeOf f25)
theorem z25_1 : ops25_1.size = 2 := by kernel_rfl
noncomputable def p25_1_0 : Oper := opGet ops25_1 0
theorem o25_1_0 {J : JT} : ops25_1[0]? = some p25_1_0 ∧ p25_1_0.dst = some 19 ∧ dstOk 46 p25_1_0 = true ∧ (∀ r,gd ops25_1 p25_1_0 r = some true) ∧ (∀ (f : RG) (h : List AObj) (H : Value → List AObj → Prop),opW prog (Good prog J) p25_1_0 f.r h H = (aMkF 41 [] [(f.r 5),(f.r 6),(f.r 3)] fun v1 =>
H v1 h)) := ⟨by kernel_rfl,by kernel_rfl,by kernel_rfl,fun _ => by kernel_rfl,fun _ _ _ => by kernel_rfl⟩
noncomputable def p25_1_1 : Oper := opGet ops25_1 1
theorem o25_1_1 {J : JT} : ops25_1[1]? = some p25_1_1 ∧ p25_1_1.dst = none ∧ dstOk 46 p25_1_1 = true ∧ (∀ r,gd ops25_1 p25_1_1 r = some true) ∧ (p25_1_1.op = (Go.Op.go { callee := (Go.Callee.value (Go.Operand.tmp 19)),args := #[],argTypes := #[] })) := ⟨by kernel_rfl,by kernel_rfl,by kernel_rfl,fun _ => by kernel_rfl,by kernel_rfl⟩
noncomputable def ops25_2 : Array Oper := opsAt [1,1,1,1,0,1,0,0,1,1,0,0,0] (codeOf f25)
theorem z25_2 : ops25_2.size = 4 := by kernel_rfl
noncomputable def p25_2_0 : Oper := opGet ops25_2 0
theorem o25_2_0 {J : JT} : ops25_2[0]? = some p25_2_0 ∧ p25_2_0.dst = some 36 ∧ dstOk 46 p25_2_0 = true ∧ (∀ r,gd ops25_2 p25_2_0 r = some true) ∧ (∀ (f : RG) (h : List AObj) (H : Value → List AObj → Prop),opW prog (Good prog J) p25_2_0 f.r h H = (aLoad false 1 (f.r 5) h fun v1 =>
H v1 h)) := ⟨by kernel_rfl,by kernel_rfl,by kernel_rfl,fun _ => by kernel_rfl,fun _ _ _ => by kernel_rfl⟩
noncomputable def p25_2_1 : Oper := opGet ops25_2 1
theorem o25_2_1 {J : JT} : ops25_2[1]? = some p25_2_1 ∧ p25_2_1.dst = some 37 ∧ dstOk 46 p25_2_1 = true ∧ (∀ r,gd ops25_2 p25_2_1 r = some true) ∧ (p25_2_1.op = (Go.Op.recv 117 (Go.Operand.tmp 36) false)) := ⟨by kernel_rfl,by kernel_rfl,by kernel_rfl,fun _ => by kernel_rfl,by kernel_rfl⟩
noncomputable def p25_2_2 : Oper := opGet ops25_2 2
theorem o25_2_2 {J : JT} : ops25_2[2]? = some p25_2_2 ∧ p25_2_2.dst = some 8 ∧ dstOk 46 p25_2_2 = true ∧ (∀ r,gd ops25_2 p25_2_2 r = some true) ∧ (∀ (f : RG) (h : List AObj) (H : Value → List AObj → Prop),opW prog (Good prog J) p25_2_2 f.r h H = (aAlloc [(vint 0),(vint 0)] h fun v1 h2 =>
H v1 h2)) := ⟨by kernel_rfl,by kernel_rfl,by kernel_rfl,fun _ => by kernel_rfl,fun _ _ _ => by kernel_rfl⟩
noncomputable def p25_2_3 : Oper := opGet ops25_2 3
theorem o25_2_3 {J : JT} : ops25_2[3]? = some p25_2_3 ∧ p25_2_3.dst = none ∧ dstOk 46 p25_2_3 = true ∧ (∀ r,gd ops25_2 p25_2_3 r = some true) ∧ (∀ (f : RG) (h : List AObj) (H : Value → List AObj → Prop),opW prog (Good prog J) p25_2_3 f.r h H = (aStore 2 (f.r 8) (f.r 37) h fun h1 =>
H unk h1)) := ⟨by kernel_rfl,by kernel_rfl,by kernel_rfl,fun _ => by kernel_rfl,fun _ _ _ => by kernel_rfl⟩
def pl25t : Plans := []
def ct25t : Cuts := .bin (.go) (.bin (.go) (.bin (.go) (.bin (.go) (.bin (.go) (.cut (.go))))))
theorem pok25t : plansOk prog pl25t (codeOf f25) = true := by kernel_rfl
theorem s25t_1 {f : RG} : W prog J 46 n0 25 (subC [1,1,1,1,1] (codeOf f25)) f h (contX pl25t prog J 46 n0 25 ct25t [1,1,1,1,1] (codeOf f25) [] (RetQ prog [.tmp 4] n0 K)) =
(retL n0 K f.ds [(f.r 7)] h) := sub_eq pok25t ct25t (by kernel_rfl)
end
section
variable {main : Bool} {J : JT} {n0 : Nat} {h : List AObj} {K : Value → List AObj → Prop}
theorem at41 : prog.funcs[41]? = some f41 := by kernel_rfl
theorem body41 : f41.body = some (codeOf f41) := by kernel_rfl
noncomputable def ops41_1 : Array Oper := opsAt [] (codeOf f41)
theorem r41_1 : subC [] (codeOf f41) = .region 0 ops41_1 true := by kernel_rfl
theorem z41_1 : ops41_1.size = 7 := by kernel_rfl
noncomputable def p41_1_6 : Oper := opGet ops41_1 6
theorem o41_1_6 {J : JT} : ops41_1[6]? = some p41_1_6 ∧ p41_1_6.dst = none ∧ dstOk 9 p41_1_6 = true ∧ (∀ r,gd ops41_1 p41_1_6 r = some true) ∧ (p41_1_6.op = (Go.Op.send (Go.Operand.tmp 3) (Go.Operand.tmp 8))) := ⟨by kernel_rfl,by kernel_rfl,by kernel_rfl,fun _ => by kernel_rfl,by kernel_rfl⟩
end
section
variable {main : Bool} {J : JT} {n0 : Nat} {h : List AObj} {K : Value → List AObj → Prop}
theorem at24 : prog.funcs[24]? = some f24 := by kernel_rfl
theorem body24 : f24.body = some (codeOf f24) := by kernel_rfl
def pl24 : Plans := [(14,true,.take 0 (.take 1 (.take 2 (.take 3 (.take 4 (.take 5 (.take 6 (.take 7 (.take 8 (.take 10 (.take 11 (.alt 9 false (.take 12 (.last 13 false (.take 14 (.last 15 false (.fin))))) (.last 13 false (.take 14 (.last 9 false (.take 12 (.last 15 false (.fin))))))))))))))))))]
def ct24 : Cuts := .bin (.go) (.bin (.go) (.bin (.go) (.bin (.go) (.bin (.bin (.go) (.un (.un (.bin (.go) (.bin (.go) (.bin (.un (.bin (.go) (.bin (.bin (.go) (.cut (.go))) (.go)))) (.go))))))) (.go)))))
theorem pok24 : plansOk prog pl24 (codeOf f24) = true := by kernel_rfl
theorem e24 {a0 a1 : Value} : W prog J 64 h.length 24 (codeOf f24) (RG.mk (regs [a0,a1]) []) h (RetQ prog [.tmp 4,.tmp 5] h.length K) =
(aBox a0 h fun v1 h2 =>
aLoad true 6 v1 h2 fun v3 =>
Good prog J 38 [v3] h2 fun v4 h5 =>
aBin prog .neq 44 v4 (vint 0) fun v6 =>
cnd v6
(retL h.length K [] [(Value.pointer none),v4] h5)
(aLenS a1 fun v7 =>
aBin prog .gtr 3 v7 (vint 24) fun v8 =>
cnd v8
(retL h.length K [] [(Value.pointer none),(vint 6)] h5)
(aLoad true 6 v1 h5 fun v9 =>
aNewM h5 fun v10 h11 =>
aFill [(vint 0),(vint 0),(Value.slice none 0 0),(vint 0),(Value.slice none 0 0),(Value.slice none 0 0),(Value.map none)] [(0,6,v9),(6,1,v10)] fun c12 =>
aBox (Value.agg ⟨c12⟩) h11 fun v13 h14 =>
aLenS a1 fun v15 =>
Sem J 64 h.length 24 (subC [1,1,1,1,0,1,0] (codeOf f24)) (RG.p (RG.p (RG.p (RG.p (RG.p (RG.p (RG.p (RG.p (RG.p (RG.p (RG.p (RG.p (RG.p (RG.p (RG.p (RG.p (RG.p (RG.p (RG.p (RG.mk (regs [a0,a1]) []) 2 v1) 4 (Value.pointer none)) 5 (vint 0)) 10 v3) 11 v4) 6 v4) 12 v4) 13 v6) 15 a1) 16 v7) 17 v8) 18 v9) 19 v10) 20 (Value.agg ⟨c12⟩)) 21 v13) 7 v13) 22 a1) 23 v15) 24 (vint 0)) h14 (contX pl24 prog J 64 h.length 24 ct24 [1,1,1,1,0,1,0] (codeOf f24) [] (RetQ prog [.tmp 4,.tmp 5] h.length K))))) := top_eq pok24 ct24 (by kernel_rfl)
theorem g24 (hJ : Closed prog main J) {a0 a1 : Value} (hs : heapOk h → W prog J 64 h.length 24 (codeOf f24) (RG.mk (regs [a0,a1]) []) h (RetQ prog [.tmp 4,.tmp 5] h.length K)) : Good prog J 24 [a0,a1] h K :=
 good_of_W hJ mixed at24 body24 (by kernel_rfl) (Nat.le_of_ble_eq_true rfl) hs
theorem s24_1 {f : RG} {nx0 : RG → List AObj → Prop} : W prog J 64 n0 24 (subC [1,1,1,1,0,1,0,0] (codeOf f24)) f h (thenK nx0 (contX pl24 prog J 64 n0 24 ct24 [1,1,1,1,0,1,0] (codeOf f24) [] (RetQ prog [.tmp 4,.tmp 5] n0 K))) =
(aBin prog .lss 3 (f.r 24) (f.r 23) fun v1 =>
cnd v1
(aIdx 3 (f.r 22) (f.r 24) fun v2 =>
aLoad true 3 v2 h fun v3 =>
aAlloc [(vint 0),(vint 0),(vint 0)] h fun v4 h5 =>
aStore 3 v4 v3 h5 fun h6 =>
aOff v4 0 fun v7 =>
aLoad false 1 v7 h6 fun v8 =>
aOff (f.r 2) 5 fun v9 =>
aLoad false 1 v9 h6 fun v10 =>
aLenS v10 fun v11 =>
aBin prog .sub 3 v11 (vint 1) fun v12 =>
Good prog J 39 [v8,(vint 0),v12] h6 fun v13 h14 =>
aUn .not v13 fun v15 =>
cnd v15
(Hold (W prog J 64 n0 24 (subC [1,1,1,1,0,1,0,0,1,1,0,0,1,0,1] (codeOf f24)) (RG.p (RG.p (RG.p (RG.p (RG.p (RG.p (RG.p (RG.p (RG.p (RG.p (RG.p (RG.p (RG.p (RG.p (RG.p (RG.p (RG.p (RG.p (RG.p (RG.p f 25 v1) 26 v2) 27 v3) 9 v4) 28 v7) 29 v8) 30 v9) 31 v10) 32 v11) 33 v12) 34 v13) 35 v15) 36 v15) 36 (Value.bool true)) 37 undef) 38 undef) 39 undef) 40 undef) 41 undef) 42 (Value.bool true)) h14 (contX pl24 prog J 64 n0 24 ct24 [1,1,1,1,0,1,0,0,1,1,0,0,1,0,1] (codeOf f24) [nx0] (RetQ prog [.tmp 4,.tmp 5] n0 K))))
(aOff v4 1 fun v16 =>
aLoad false 1 v16 h14 fun v17 =>
Good prog J 40 [(f.r 7),v17] h14 fun v18 h19 =>
aUn .not v18 fun v20 =>
Hold (W prog J 64 n0 24 (subC [1,1,1,1,0,1,0,0,1,1,0,0,1,0,1] (codeOf f24)) (RG.p (RG.p (RG.p (RG.p (RG.p (RG.p (RG.p (RG.p (RG.p (RG.p (RG.p (RG.p (RG.p (RG.p (RG.p (RG.p (RG.p (RG.p (RG.p (RG.p f 25 v1) 26 v2) 27 v3) 9 v4) 28 v7) 29 v8) 30 v9) 31 v10) 32 v11) 33 v12) 34 v13) 35 v15) 36 v15) 36 (Value.bool false)) 37 (f.r 7)) 38 v16) 39 v17) 40 v18) 41 v20) 42 v20) h19 (contX pl24 prog J 64 n0 24 ct24 [1,1,1,1,0,1,0,0,1,1,0,0,1,0,1] (codeOf f24) [nx0] (RetQ prog [.tmp 4,.tmp 5] n0 K)))))
(retL n0 K f.ds [(f.r 7),(vint 0)] h)) := sub_eq pok24 ct24 (by kernel_rfl)
theorem l24_1 (hJ : Closed prog main J) {S : Type} (μ : S → Nat) (I : S → RG → List AObj → Prop) (hI : ∀ s f h,I s f h → heapOk h → n0 ≤ h.length → W prog J 64 n0 24 (subC [1,1,1,1,0,1,0,0] (codeOf f24)) f h (thenK (Nx n0 μ I s) (contX pl24 prog J 64 n0 24 ct24 [1,1,1,1,0,1,0] (codeOf f24) [] (RetQ prog [.tmp 4,.tmp 5] n0 K))))
 {s : S} {f : RG} (hi : Gets n0 I s f h) : Sem J 64 n0 24 (subC [1,1,1,1,0,1,0] (codeOf f24)) f h (contX pl24 prog J 64 n0 24 ct24 [1,1,1,1,0,1,0] (codeOf f24) [] (RetQ prog [.tmp 4,.tmp 5] n0 K)) :=
 loop_rule hJ mixed (b := subC [1,1,1,1,0,1,0,0] (codeOf f24)) (by kernel_rfl) μ I hI hi
theorem s24_2 {f : RG} {nx0 : RG → List AObj → Prop} : W prog J 64 n0 24 (subC [1,1,1,1,0,1,0,0,1,1,0,0,1,0,1] (codeOf f24)) f h (contX pl24 prog J 64 n0 24 ct24 [1,1,1,1,0,1,0,0,1,1,0,0,1,0,1] (codeOf f24) [nx0] (RetQ prog [.tmp 4,.tmp 5] n0 K)) =
(cnd (f.r 42)
(retL n0 K f.ds [(Value.pointer none),(vint 3)] h)
(aOff (f.r 9) 2 fun v1 =>
aLoad false 1 v1 h fun v2 =>
Good prog J 39 [v2,(vint 1),(vint 40)] h fun v3 h4 =>
aUn .not v3 fun v5 =>
cnd v5
(retL n0 K f.ds [(Value.pointer none),(vint 1)] h4)
(aNil (f.r 7) fun v6 =>
aOff v6 6 fun v7 =>
aLoad false 1 v7 h4 fun v8 =>
aOff (f.r 9) 0 fun v9 =>
aLoad false 1 v9 h4 fun v10 =>
aOff (f.r 9) 1 fun v11 =>
aLoad false 1 v11 h4 fun v12 =>
aFill [(vint 0),(vint 0)] [(0,1,v10),(1,1,v12)] fun c13 =>
aOff (f.r 9) 2 fun v14 =>
aLoad false 1 v14 h4 fun v15 =>
(aLook prog 111 false v8 (Value.agg ⟨c13⟩) h4 fun v16 =>
aBin prog .add 3 v16 v15 fun v17 =>
aEnt prog 111 v8 (Value.agg ⟨c13⟩) h4 fun v18 h19 =>
aExt v18 1 fun v20 =>
((VOk h19.length v17 ∧ one v17 = true) ∧ aEnS v8 v20 v17 h19 fun h21 =>
aBin prog .add 3 (f.r 24) (vint 1) fun v22 =>
nx0 (RG.p (RG.p (RG.p (RG.p (RG.p (RG.p (RG.p (RG.p (RG.p (RG.p (RG.p (RG.p (RG.p (RG.p (RG.p (RG.p (RG.p (RG.p (RG.p (RG.p (RG.p f 43 v1) 44 v2) 45 v3) 46 v5) 47 (f.r 7)) 48 v6) 49 v7) 50 v8) 51 v9) 52 v10) 53 v11) 54 v12) 55 (Value.agg ⟨c13⟩)) 57 v14) 58 v15) 56 v16) 59 v17) 60 v18) 61 v20) 62 v22) 24 v22) h21)) ∧ (aEnt prog 111 v8 (Value.agg ⟨c13⟩) h4 fun v23 h24 =>
aExt v23 1 fun v25 =>
aLook prog 111 false v8 (Value.agg ⟨c13⟩) h24 fun v26 =>
aBin prog .add 3 v26 v15 fun v27 =>
((VOk h24.length v27 ∧ one v27 = true) ∧ aEnS v8 v25 v27 h24 fun h28 =>
aBin prog .add 3 (f.r 24) (vint 1) fun v29 =>
nx0 (RG.p (RG.p (RG.p (RG.p (RG.p (RG.p (RG.p (RG.p (RG.p (RG.p (RG.p (RG.p (RG.p (RG.p (RG.p (RG.p (RG.p (RG.p (RG.p (RG.p (RG.p f 43 v1) 44 v2) 45 v3) 46 v5) 47 (f.r 7)) 48 v6) 49 v7) 50 v8) 51 v9) 52 v10) 53 v11) 54 v12) 55 (Value.agg ⟨c13⟩)) 57 v14) 58 v15) 60 v23) 61 v25) 56 v26) 59 v27) 62 v29) 24 v29) h28))))) := sub_eq pok24 ct24 (by kernel_rfl)
theorem at11 : prog.funcs[11]? = some f11 := by kernel_rfl
theorem body11 : f11.body = some (codeOf f11) := by kernel_rfl
def pl11 : Plans := []
def ct11 : Cuts := .go
theorem pok11 : plansOk prog pl11 (codeOf f11) = true := by kernel_rfl
theorem e11 {a0 a1 : Value} : W prog J 21 h.length 11 (codeOf f11) (RG.mk (regs [a0,a1]) []) h (RetQ prog [.tmp 4,.tmp 5] h.length K) =
(aBox a0 h fun v1 h2 =>
aLoad true 6 v1 h2 fun v3 =>
Good prog J 24 [v3,a1] h2 fun v4 h5 =>
aExt v4 0 fun v6 =>
aExt v4 1 fun v7 =>
aBin prog .neq 44 v7 (vint 0) fun v8 =>
cnd v8
(retL h.length K [] [(Value.slice none 0 0),v7] h5)
(aMkF 26 [v6] [] fun v9 =>
Good prog J 25 [v6,v9] h5 fun v10 h11 =>
retL h.length K [] [v10,(vint 0)] h11)) := top_eq pok11 ct11 (by kernel_rfl)
theorem g11 (hJ : Closed prog main J) {a0 a1 : Value} (hs : heapOk h → W prog J 21 h.length 11 (codeOf f11) (RG.mk (regs [a0,a1]) []) h (RetQ prog [.tmp 4,.tmp 5] h.length K)) : Good prog J 11 [a0,a1] h K :=
 good_of_W hJ mixed at11 body11 (by kernel_rfl) (Nat.le_of_ble_eq_true rfl) hs
end
section
variable {main : Bool} {J : JT} {n0 : Nat} {h : List AObj} {K : Value → List AObj → Prop}
theorem at40 : prog.funcs[40]? = some f40 := by kernel_rfl
theorem body40 : f40.body = some (codeOf f40) := by kernel_rfl
def pl40 : Plans := []
def ct40 : Cuts := .go
theorem pok40 : plansOk prog pl40 (codeOf f40) = true := by kernel_rfl
theorem e40 {a0 a1 : Value} : W prog J 14 h.length 40 (codeOf f40) (RG.mk (regs [a0,a1]) []) h (RetQ prog [.tmp 4] h.length K) =
(aNil a0 fun v1 =>
aOff v1 0 fun v2 =>
aOff v2 4 fun v3 =>
aLoad false 1 v3 h fun v4 =>
aLenS v4 fun v5 =>
aBin prog .sub 3 v5 (vint 1) fun v6 =>
Good prog J 39 [a1,(vint 0),v6] h fun v7 h8 =>
retL h.length K [] [v7] h8) := top_eq pok40 ct40 (by kernel_rfl)
theorem g40 (hJ : Closed prog main J) {a0 a1 : Value} (hs : heapOk h → W prog J 14 h.length 40 (codeOf f40) (RG.mk (regs [a0,a1]) []) h (RetQ prog [.tmp 4] h.length K)) : Good prog J 40 [a0,a1] h K :=
 good_of_W hJ mixed at40 body40 (by kernel_rfl) (Nat.le_of_ble_eq_true rfl) hs
theorem at54 : prog.funcs[54]? = some f54 := by kernel_rfl
theorem body54 : f54.body = some (codeOf f54) := by kernel_rfl
def pl54 : Plans := [(1,true,.take 0 (.take 1 (.take 2 (.take 3 (.take 4 (.take 5 (.take 6 (.take 7 (.take 8 (.take 9 (.take 10 (.take 11 (.take 12 (.take 13 (.take 14 (.take 15 (.fin)))))))))))))))))]
def ct54 : Cuts := .go
theorem pok54 : plansOk prog pl54 (codeOf f54) = true := by kernel_rfl
theorem e54 {a0 a1 a2 a3 : Value} : W prog J 31 h.length 54 (codeOf f54) (RG.mk (regs [a0,a1,a2,a3]) []) h (RetQ prog [.tmp 8] h.length K) =
(aBox a1 h fun v1 h2 =>
aOff v1 1 fun v3 =>
aLoad false 1 v3 h2 fun v4 =>
aBin prog .sub 3 a3 v4 fun v5 =>
aMax (vint 0) [v5] fun v6 =>
aNil a0 fun v7 =>
aOff v7 0 fun v8 =>
aOff v8 5 fun v9 =>
aLoad false 1 v9 h2 fun v10 =>
aIdx 3 v10 a2 fun v11 =>
aOff v11 1 fun v12 =>
aLoad false 1 v12 h2 fun v13 =>
aBin prog .mul 3 v6 v13 fun v14 =>
aOff v1 2 fun v15 =>
aLoad false 1 v15 h2 fun v16 =>
aUn .not v16 fun v17 =>
cnd v17
(aBin prog .mul 3 v14 (vint 2) fun v18 =>
retL h.length K [] [v18] h2)
(retL h.length K [] [v14] h2)) := top_eq pok54 ct54 (by kernel_rfl)
theorem g54 (hJ : Closed prog main J) {a0 a1 a2 a3 : Value} (hs : heapOk h → W prog J 31 h.length 54 (codeOf f54) (RG.mk (regs [a0,a1,a2,a3]) []) h (RetQ prog [.tmp 8] h.length K)) : Good prog J 54 [a0,a1,a2,a3] h K :=
 good_of_W hJ mixed at54 body54 (by kernel_rfl) (Nat.le_of_ble_eq_true rfl) hs
theorem at43 : prog.funcs[43]? = some f43 := by kernel_rfl
theorem body43 : f43.body = some (codeOf f43) := by kernel_rfl
def pl43 : Plans := [(1,false,.take 0 (.take 1 (.take 2 (.take 3 (.take 4 (.take 5 (.take 6 (.take 7 (.take 8 (.take 9 (.take 10 (.take 11 (.take 12 (.take 13 (.take 14 (.take 15 (.take 16 (.take 17 (.last 18 true (.take 19 (.fin)))))))))))))))))))))]
def ct43 : Cuts := .go
theorem pok43 : plansOk prog pl43 (codeOf f43) = true := by kernel_rfl
theorem e43 {a0 a1 a2 : Value} : W prog J 26 h.length 43 (codeOf f43) (RG.mk (regs [a0,a1,a2]) []) h (RetQ prog [.tmp 6] h.length K) =
((∃ B,aNil a0 fun v1 =>
aOff v1 0 fun v2 =>
aOff v2 4 fun v3 =>
aLoad false 1 v3 h fun v4 =>
RdOk (some B) (ptrBlk v3) ∧ (aIdx 3 v4 a1 fun v5 =>
aLoad true 3 v5 h fun v6 =>
RdOk (some B) (ptrBlk v5) ∧ (aNil a0 fun v7 =>
aOff v7 6 fun v8 =>
aLoad false 1 v8 h fun v9 =>
RdOk (some B) (ptrBlk v8) ∧ (aFill [(vint 0),(vint 0)] [(0,1,a2),(1,1,a1)] fun c10 =>
aLook prog 111 false v9 (Value.agg ⟨c10⟩) h fun v11 =>
RdOk (some B) (mapBlk v9) ∧ (Good prog J 54 [a0,v6,a2,v11] h fun v12 h13 =>
SameB (some B) h h13 ∧ (retL h.length K [] [v12] h13))))))) := top_eq pok43 ct43 (by kernel_rfl)
theorem g43 (hJ : Closed prog main J) {a0 a1 a2 : Value} (hs : heapOk h → W prog J 26 h.length 43 (codeOf f43) (RG.mk (regs [a0,a1,a2]) []) h (RetQ prog [.tmp 6] h.length K)) : Good prog J 43 [a0,a1,a2] h K :=
 good_of_W hJ mixed at43 body43 (by kernel_rfl) (Nat.le_of_ble_eq_true rfl) hs
theorem at42 : prog.funcs[42]? = some f42 := by kernel_rfl
theorem body42 : f42.body = some (codeOf f42) := by kernel_rfl
def pl42 : Plans := []
def ct42 : Cuts := .go
theorem pok42 : plansOk prog pl42 (codeOf f42) = true := by kernel_rfl
theorem e42 {a0 a1 a2 : Value} : W prog J 26 h.length 42 (codeOf f42) (RG.mk (regs [a0,a1,a2]) []) h (RetQ prog [.tmp 6] h.length K) =
(aNil a0 fun v1 =>
aOff v1 0 fun v2 =>
aOff v2 5 fun v3 =>
aLoad false 1 v3 h fun v4 =>
aLenS v4 fun v5 =>
Sem J 26 h.length 42 (subC [1,1,0,1,0] (codeOf f42)) (RG.p (RG.p (RG.p (RG.p (RG.p (RG.p (RG.p (RG.p (RG.p (RG.mk (regs [a0,a1,a2]) []) 6 (vint 0)) 7 (vint 0)) 9 a0) 10 v1) 11 v2) 12 v3) 13 v4) 14 v5) 15 (vint 0)) h (contX pl42 prog J 26 h.length 42 ct42 [1,1,0,1,0] (codeOf f42) [] (RetQ prog [.tmp 6] h.length K))) := top_eq pok42 ct42 (by kernel_rfl)
theorem g42 (hJ : Closed prog main J) {a0 a1 a2 : Value} (hs : heapOk h → W prog J 26 h.length 42 (codeOf f42) (RG.mk (regs [a0,a1,a2]) []) h (RetQ prog [.tmp 6] h.length K)) : Good prog J 42 [a0,a1,a2] h K :=
 good_of_W hJ mixed at42 body42 (by kernel_rfl) (Nat.le_of_ble_eq_true rfl) hs
theorem s42_1 {f : RG} {nx0 : RG → List AObj → Prop} : W prog J 26 n0 42 (subC [1,1,0,1,0,0] (codeOf f42)) f h (thenK nx0 (contX pl42 prog J 26 n0 42 ct42 [1,1,0,1,0] (codeOf f42) [] (RetQ prog [.tmp 6] n0 K))) =
(aBin prog .lss 3 (f.r 15) (f.r 14) fun v1 =>
cnd v1
(callV prog (Good prog J) (f.r 2) [(f.r 1),(f.r 15)] h fun v2 h3 =>
aBin prog .add 120 (f.r 7) v2 fun v4 =>
aBin prog .add 3 (f.r 15) (vint 1) fun v5 =>
nx0 (RG.p (RG.p (RG.p (RG.p (RG.p (RG.p (RG.p (RG.p (RG.p (RG.p (RG.p (RG.p f 16 v1) 17 (f.r 15)) 8 (f.r 15)) 18 (f.r 7)) 19 (f.r 2)) 20 (f.r 1)) 21 (f.r 15)) 22 v2) 23 v4) 7 v4) 24 v5) 15 v5) h3)
(retL n0 K f.ds [(f.r 7)] h)) := sub_eq pok42 ct42 (by kernel_rfl)
theorem l42_1 (hJ : Closed prog main J) {S : Type} (μ : S → Nat) (I : S → RG → List AObj → Prop) (hI : ∀ s f h,I s f h → heapOk h → n0 ≤ h.length → W prog J 26 n0 42 (subC [1,1,0,1,0,0] (codeOf f42)) f h (thenK (Nx n0 μ I s) (contX pl42 prog J 26 n0 42 ct42 [1,1,0,1,0] (codeOf f42) [] (RetQ prog [.tmp 6] n0 K))))
 {s : S} {f : RG} (hi : Gets n0 I s f h) : Sem J 26 n0 42 (subC [1,1,0,1,0] (codeOf f42)) f h (contX pl42 prog J 26 n0 42 ct42 [1,1,0,1,0] (codeOf f42) [] (RetQ prog [.tmp 6] n0 K)) :=
 loop_rule hJ mixed (b := subC [1,1,0,1,0,0] (codeOf f42)) (by kernel_rfl) μ I hI hi
theorem at26 : prog.funcs[26]? = some f26 := by kernel_rfl
theorem body26 : f26.body = some (codeOf f26) := by kernel_rfl
def pl26 : Plans := []
def ct26 : Cuts := .go
theorem pok26 : plansOk prog pl26 (codeOf f26) = true := by kernel_rfl
theorem e26 {a0 a1 : Value} : W prog J 11 h.length 26 (codeOf f26) (RG.mk (regs [a0,a1]) []) h (RetQ prog [.tmp 4] h.length K) =
(aMkF 43 [a0] [] fun v1 =>
Good prog J 42 [a0,a1,v1] h fun v2 h3 =>
Good prog J 44 [v2] h3 fun v4 h5 =>
retL h.length K [] [v4] h5) := top_eq pok26 ct26 (by kernel_rfl)
theorem g26 (hJ : Closed prog main J) {a0 a1 : Value} (hs : heapOk h → W prog J 11 h.length 26 (codeOf f26) (RG.mk (regs [a0,a1]) []) h (RetQ prog [.tmp 4] h.length K)) : Good prog J 26 [a0,a1] h K :=
 good_of_W hJ mixed at26 body26 (by kernel_rfl) (Nat.le_of_ble_eq_true rfl) hs
theorem at44 : prog.funcs[44]? = some f44 := by kernel_rfl
theorem body44 : f44.body = some (codeOf f44) := by kernel_rfl
def pl44 : Plans := []
def ct44 : Cuts := .go
theorem pok44 : plansOk prog pl44 (codeOf f44) = true := by kernel_rfl
theorem e44 {a0 : Value} : W prog J 6 h.length 44 (codeOf f44) (RG.mk (regs [a0]) []) h (RetQ prog [.tmp 2] h.length K) =
(aBin prog .add 120 a0 (vint 199) fun v1 =>
aBin prog .quo 3 v1 (vint 200) fun v2 =>
retL h.length K [] [v2] h) := top_eq pok44 ct44 (by kernel_rfl)
theorem g44 (hJ : Closed prog main J) {a0 : Value} (hs : heapOk h → W prog J 6 h.length 44 (codeOf f44) (RG.mk (regs [a0]) []) h (RetQ prog [.tmp 2] h.length K)) : Good prog J 44 [a0] h K :=
 good_of_W hJ mixed at44 body44 (by kernel_rfl) (Nat.le_of_ble_eq_true rfl) hs
end
section
variable {main : Bool} {J : JT} {n0 : Nat} {h : List AObj} {K : Value → List AObj → Prop}
theorem at39 : prog.funcs[39]? = some f39 := by kernel_rfl
theorem body39 : f39.body = some (codeOf f39) := by kernel_rfl
def pl39 : Plans := []
def ct39 : Cuts := .go
theorem pok39 : plansOk prog pl39 (codeOf f39) = true := by kernel_rfl
theorem e39 {a0 a1 a2 : Value} : W prog J 15 h.length 39 (codeOf f39) (RG.mk (regs [a0,a1,a2]) []) h (RetQ prog [.tmp 6] h.length K) =
(aBin prog .leq 3 a1 a0 fun v1 =>
cnd v1
(aBin prog .leq 3 a0 a2 fun v2 =>
retL h.length K [] [v2] h)
(retL h.length K [] [(Value.bool false)] h)) := top_eq pok39 ct39 (by kernel_rfl)
theorem g39 (hJ : Closed prog main J) {a0 a1 a2 : Value} (hs : heapOk h → W prog J 15 h.length 39 (codeOf f39) (RG.mk (regs [a0,a1,a2]) []) h (RetQ prog [.tmp 6] h.length K)) : Good prog J 39 [a0,a1,a2] h K :=
 good_of_W hJ mixed at39 body39 (by kernel_rfl) (Nat.le_of_ble_eq_true rfl) hs
theorem at52 : prog.funcs[52]? = some f52 := by kernel_rfl
theorem body52 : f52.body = some (codeOf f52) := by kernel_rfl
def pl52 : Plans := []
def ct52 : Cuts := .go
theorem pok52 : plansOk prog pl52 (codeOf f52) = true := by kernel_rfl
theorem e52 {a0 a1 a2 : Value} : W prog J 15 h.length 52 (codeOf f52) (RG.mk (regs [a0,a1,a2]) []) h (RetQ prog [.tmp 6] h.length K) =
(aBin prog .lss 3 a0 a1 fun v1 =>
cnd v1
(retL h.length K [] [(vint 7)] h)
(aBin prog .gtr 3 a0 a2 fun v2 =>
cnd v2
(retL h.length K [] [(vint 6)] h)
(retL h.length K [] [(vint 0)] h))) := top_eq pok52 ct52 (by kernel_rfl)
theorem g52 (hJ : Closed prog main J) {a0 a1 a2 : Value} (hs : heapOk h → W prog J 15 h.length 52 (codeOf f52) (RG.mk (regs [a0,a1,a2]) []) h (RetQ prog [.tmp 6] h.length K)) : Good prog J 52 [a0,a1,a2] h K :=
 good_of_W hJ mixed at52 body52 (by kernel_rfl) (Nat.le_of_ble_eq_true rfl) hs
theorem at55 : prog.funcs[55]? = some f55 := by kernel_rfl
theorem body55 : f55.body = some (codeOf f55) := by kernel_rfl
def pl55 : Plans := []
def ct55 : Cuts := .go
theorem pok55 : plansOk prog pl55 (codeOf f55) = true := by kernel_rfl
theorem e55 {a0 a1 a2 : Value} : W prog J 15 h.length 55 (codeOf f55) (RG.mk (regs [a0,a1,a2]) []) h (RetQ prog [.tmp 6] h.length K) =
(aBin prog .leq 3 a1 a0 fun v1 =>
cnd v1
(aBin prog .leq 3 a0 a2 fun v2 =>
retL h.length K [] [v2] h)
(retL h.length K [] [(Value.bool false)] h)) := top_eq pok55 ct55 (by kernel_rfl)
theorem g55 (hJ : Closed prog main J) {a0 a1 a2 : Value} (hs : heapOk h → W prog J 15 h.length 55 (codeOf f55) (RG.mk (regs [a0,a1,a2]) []) h (RetQ prog [.tmp 6] h.length K)) : Good prog J 55 [a0,a1,a2] h K :=
 good_of_W hJ mixed at55 body55 (by kernel_rfl) (Nat.le_of_ble_eq_true rfl) hs
theorem at56 : prog.funcs[56]? = some f56 := by kernel_rfl
theorem body56 : f56.body = some (codeOf f56) := by kernel_rfl
def pl56 : Plans := []
def ct56 : Cuts := .bin (.go) (.bin (.go) (.bin (.go) (.cut (.go))))
theorem pok56 : plansOk prog pl56 (codeOf f56) = true := by kernel_rfl
theorem e56 {a0 a1 : Value} : W prog J 56 h.length 56 (codeOf f56) (RG.mk (regs [a0,a1]) []) h (RetQ prog [.tmp 4] h.length K) =
(aBox a0 h fun v1 h2 =>
aOff v1 4 fun v3 =>
aLoad false 1 v3 h2 fun v4 =>
aBin prog .eql 3 v4 (vint 1) fun v5 =>
cnd v5
(aOff v1 5 fun v6 =>
aLoad false 1 v6 h2 fun v7 =>
aBin prog .eql 3 v7 (vint 0) fun v8 =>
cnd v8
(aOff v1 6 fun v9 =>
aLoad false 1 v9 h2 fun v10 =>
aBin prog .eql 3 v10 (vint 0) fun v11 =>
Hold (W prog J 56 h.length 56 (subC [1,1,1] (codeOf f56)) (RG.p (RG.p (RG.p (RG.p (RG.p (RG.p (RG.p (RG.p (RG.p (RG.p (RG.p (RG.p (RG.p (RG.p (RG.p (RG.p (RG.p (RG.mk (regs [a0,a1]) []) 2 v1) 4 (vint 0)) 5 (Value.bool false)) 6 v3) 7 v4) 9 v5) 8 v5) 10 v6) 11 v7) 12 v8) 13 v8) 13 (Value.bool true)) 14 v9) 15 v10) 16 v11) 17 v11) 5 v11) h2 (contX pl56 prog J 56 h.length 56 ct56 [1,1,1] (codeOf f56) [] (RetQ prog [.tmp 4] h.length K))))
(Hold (W prog J 56 h.length 56 (subC [1,1,1] (codeOf f56)) (RG.p (RG.p (RG.p (RG.p (RG.p (RG.p (RG.p (RG.p (RG.p (RG.p (RG.p (RG.p (RG.p (RG.p (RG.p (RG.p (RG.p (RG.mk (regs [a0,a1]) []) 2 v1) 4 (vint 0)) 5 (Value.bool false)) 6 v3) 7 v4) 9 v5) 8 v5) 10 v6) 11 v7) 12 v8) 13 v8) 13 (Value.bool false)) 14 undef) 15 undef) 16 undef) 17 (Value.bool false)) 5 (Value.bool false)) h2 (contX pl56 prog J 56 h.length 56 ct56 [1,1,1] (codeOf f56) [] (RetQ prog [.tmp 4] h.length K)))))
(aBin prog .eql 3 v4 (vint 2) fun v12 =>
cnd v12
(aOff v1 5 fun v13 =>
aLoad false 1 v13 h2 fun v14 =>
aBin prog .sub 3 a1 (vint 1) fun v15 =>
Good prog J 55 [v14,(vint 0),v15] h2 fun v16 h17 =>
cnd v16
(aOff v1 6 fun v18 =>
aLoad false 1 v18 h17 fun v19 =>
aOff v1 5 fun v20 =>
aLoad false 1 v20 h17 fun v21 =>
aBin prog .sub 3 a1 (vint 1) fun v22 =>
Good prog J 55 [v19,v21,v22] h17 fun v23 h24 =>
Hold (W prog J 56 h.length 56 (subC [1,1,1] (codeOf f56)) (RG.p (RG.p (RG.p (RG.p (RG.p (RG.p (RG.p (RG.p (RG.p (RG.p (RG.p (RG.p (RG.p (RG.p (RG.p (RG.p (RG.p (RG.p (RG.p (RG.p (RG.p (RG.p (RG.p (RG.p (RG.p (RG.mk (regs [a0,a1]) []) 2 v1) 4 (vint 0)) 5 (Value.bool false)) 6 v3) 7 v4) 9 v5) 8 v5) 19 v12) 18 v12) 20 v13) 21 v14) 22 a1) 23 v15) 24 v16) 25 v16) 25 (Value.bool true)) 26 v18) 27 v19) 28 v20) 29 v21) 30 a1) 31 v22) 32 v23) 33 v23) 5 v23) h24 (contX pl56 prog J 56 h.length 56 ct56 [1,1,1] (codeOf f56) [] (RetQ prog [.tmp 4] h.length K))))
(Hold (W prog J 56 h.length 56 (subC [1,1,1] (codeOf f56)) (RG.p (RG.p (RG.p (RG.p (RG.p (RG.p (RG.p (RG.p (RG.p (RG.p (RG.p (RG.p (RG.p (RG.p (RG.p (RG.p (RG.p (RG.p (RG.p (RG.p (RG.p (RG.p (RG.p (RG.p (RG.p (RG.mk (regs [a0,a1]) []) 2 v1) 4 (vint 0)) 5 (Value.bool false)) 6 v3) 7 v4) 9 v5) 8 v5) 19 v12) 18 v12) 20 v13) 21 v14) 22 a1) 23 v15) 24 v16) 25 v16) 25 (Value.bool false)) 26 undef) 27 undef) 28 undef) 29 undef) 30 undef) 31 undef) 32 undef) 33 (Value.bool false)) 5 (Value.bool false)) h17 (contX pl56 prog J 56 h.length 56 ct56 [1,1,1] (codeOf f56) [] (RetQ prog [.tmp 4] h.length K)))))
(aBin prog .eql 3 v4 (vint 3) fun v25 =>
cnd v25
(aOff v1 5 fun v26 =>
aLoad false 1 v26 h2 fun v27 =>
Good prog J 55 [v27,(vint 0),(vint 20)] h2 fun v28 h29 =>
cnd v28
(aOff v1 6 fun v30 =>
aLoad false 1 v30 h29 fun v31 =>
Good prog J 55 [v31,(vint (-5)),(vint 5)] h29 fun v32 h33 =>
Hold (W prog J 56 h.length 56 (subC [1,1,1] (codeOf f56)) (RG.p (RG.p (RG.p (RG.p (RG.p (RG.p (RG.p (RG.p (RG.p (RG.p (RG.p (RG.p (RG.p (RG.p (RG.p (RG.p (RG.p (RG.p (RG.p (RG.p (RG.p (RG.mk (regs [a0,a1]) []) 2 v1) 4 (vint 0)) 5 (Value.bool false)) 6 v3) 7 v4) 9 v5) 8 v5) 19 v12) 18 v12) 35 v25) 34 v25) 36 v26) 37 v27) 38 v28) 39 v28) 39 (Value.bool true)) 40 v30) 41 v31) 42 v32) 43 v32) 5 v32) h33 (contX pl56 prog J 56 h.length 56 ct56 [1,1,1] (codeOf f56) [] (RetQ prog [.tmp 4] h.length K))))
(Hold (W prog J 56 h.length 56 (subC [1,1,1] (codeOf f56)) (RG.p (RG.p (RG.p (RG.p (RG.p (RG.p (RG.p (RG.p (RG.p (RG.p (RG.p (RG.p (RG.p (RG.p (RG.p (RG.p (RG.p (RG.p (RG.p (RG.p (RG.p (RG.mk (regs [a0,a1]) []) 2 v1) 4 (vint 0)) 5 (Value.bool false)) 6 v3) 7 v4) 9 v5) 8 v5) 19 v12) 18 v12) 35 v25) 34 v25) 36 v26) 37 v27) 38 v28) 39 v28) 39 (Value.bool false)) 40 undef) 41 undef) 42 undef) 43 (Value.bool false)) 5 (Value.bool false)) h29 (contX pl56 prog J 56 h.length 56 ct56 [1,1,1] (codeOf f56) [] (RetQ prog [.tmp 4] h.length K)))))
(aBin prog .eql 3 v4 (vint 4) fun v34 =>
cnd v34
(aOff v1 5 fun v35 =>
aLoad false 1 v35 h2 fun v36 =>
Good prog J 55 [v36,(vint 1),(vint 40)] h2 fun v37 h38 =>
cnd v37
(aOff v1 6 fun v39 =>
aLoad false 1 v39 h38 fun v40 =>
aBin prog .eql 3 v40 (vint 0) fun v41 =>
Hold (W prog J 56 h.length 56 (subC [1,1,1] (codeOf f56)) (RG.p (RG.p (RG.p (RG.p (RG.p (RG.p (RG.p (RG.p (RG.p (RG.p (RG.p (RG.p (RG.p (RG.p (RG.p (RG.p (RG.p (RG.p (RG.p (RG.p (RG.p (RG.p (RG.p (RG.mk (regs [a0,a1]) []) 2 v1) 4 (vint 0)) 5 (Value.bool false)) 6 v3) 7 v4) 9 v5) 8 v5) 19 v12) 18 v12) 35 v25) 34 v25) 45 v34) 44 v34) 46 v35) 47 v36) 48 v37) 49 v37) 49 (Value.bool true)) 50 v39) 51 v40) 52 v41) 53 v41) 5 v41) h38 (contX pl56 prog J 56 h.length 56 ct56 [1,1,1] (codeOf f56) [] (RetQ prog [.tmp 4] h.length K))))
(Hold (W prog J 56 h.length 56 (subC [1,1,1] (codeOf f56)) (RG.p (RG.p (RG.p (RG.p (RG.p (RG.p (RG.p (RG.p (RG.p (RG.p (RG.p (RG.p (RG.p (RG.p (RG.p (RG.p (RG.p (RG.p (RG.p (RG.p (RG.p (RG.p (RG.p (RG.mk (regs [a0,a1]) []) 2 v1) 4 (vint 0)) 5 (Value.bool false)) 6 v3) 7 v4) 9 v5) 8 v5) 19 v12) 18 v12) 35 v25) 34 v25) 45 v34) 44 v34) 46 v35) 47 v36) 48 v37) 49 v37) 49 (Value.bool false)) 50 undef) 51 undef) 52 undef) 53 (Value.bool false)) 5 (Value.bool false)) h38 (contX pl56 prog J 56 h.length 56 ct56 [1,1,1] (codeOf f56) [] (RetQ prog [.tmp 4] h.length K)))))
(retL h.length K [] [(vint 8)] h2))))) := top_eq pok56 ct56 (by kernel_rfl)
theorem g56 (hJ : Closed prog main J) {a0 a1 : Value} (hs : heapOk h → W prog J 56 h.length 56 (codeOf f56) (RG.mk (regs [a0,a1]) []) h (RetQ prog [.tmp 4] h.length K)) : Good prog J 56 [a0,a1] h K :=
 good_of_W hJ mixed at56 body56 (by kernel_rfl) (Nat.le_of_ble_eq_true rfl) hs
theorem s56_1 {f : RG} : W prog J 56 n0 56 (subC [1,1,1] (codeOf f56)) f h (contX pl56 prog J 56 n0 56 ct56 [1,1,1] (codeOf f56) [] (RetQ prog [.tmp 4] n0 K)) =
(aUn .not (f.r 5) fun v1 =>
cnd v1
(retL n0 K f.ds [(vint 1)] h)
(retL n0 K f.ds [(vint 0)] h)) := sub_eq pok56 ct56 (by kernel_rfl)
theorem at51 : prog.funcs[51]? = some f51 := by kernel_rfl
theorem body51 : f51.body = some (codeOf f51) := by kernel_rfl
def pl51 : Plans := []
def ct51 : Cuts := .bin (.go) (.bin (.bin (.go) (.cut (.go))) (.bin (.go) (.bin (.bin (.go) (.un (.un (.bin (.go) (.bin (.go) (.bin (.un (.bin (.go) (.bin (.un (.bin (.go) (.cut (.bin (.go) (.bin (.go) (.bin (.go) (.bin (.go) (.cut (.go))))))))) (.go)))) (.go))))))) (.go))))
theorem pok51 : plansOk prog pl51 (codeOf f51) = true := by kernel_rfl
theorem e51 {a0 : Value} : W prog J 69 h.length 51 (codeOf f51) (RG.mk (regs [a0]) []) h (RetQ prog [.tmp 2] h.length K) =
(aBox a0 h fun v1 h2 =>
aOff v1 0 fun v3 =>
aLoad false 1 v3 h2 fun v4 =>
Good prog J 55 [v4,(vint 1),(vint 10)] h2 fun v5 h6 =>
aUn .not v5 fun v7 =>
cnd v7
(Hold (W prog J 69 h.length 51 (subC [1,0,1] (codeOf f51)) (RG.p (RG.p (RG.p (RG.p (RG.p (RG.p (RG.p (RG.p (RG.p (RG.p (RG.p (RG.p (RG.p (RG.mk (regs [a0]) []) 1 v1) 2 (vint 0)) 6 v3) 7 v4) 8 v5) 9 v7) 10 v7) 10 (Value.bool true)) 11 undef) 12 undef) 13 undef) 14 undef) 15 (Value.bool true)) h6 (contX pl51 prog J 69 h.length 51 ct51 [1,0,1] (codeOf f51) [] (RetQ prog [.tmp 2] h.length K))))
(aOff v1 1 fun v8 =>
aLoad false 1 v8 h6 fun v9 =>
Good prog J 55 [v9,(vint 1),(vint 6)] h6 fun v10 h11 =>
aUn .not v10 fun v12 =>
Hold (W prog J 69 h.length 51 (subC [1,0,1] (codeOf f51)) (RG.p (RG.p (RG.p (RG.p (RG.p (RG.p (RG.p (RG.p (RG.p (RG.p (RG.p (RG.p (RG.p (RG.mk (regs [a0]) []) 1 v1) 2 (vint 0)) 6 v3) 7 v4) 8 v5) 9 v7) 10 v7) 10 (Value.bool false)) 11 v8) 12 v9) 13 v10) 14 v12) 15 v12) h11 (contX pl51 prog J 69 h.length 51 ct51 [1,0,1] (codeOf f51) [] (RetQ prog [.tmp 2] h.length K))))) := top_eq pok51 ct51 (by kernel_rfl)
theorem g51 (hJ : Closed prog main J) {a0 : Value} (hs : heapOk h → W prog J 69 h.length 51 (codeOf f51) (RG.mk (regs [a0]) []) h (RetQ prog [.tmp 2] h.length K)) : Good prog J 51 [a0] h K :=
 good_of_W hJ mixed at51 body51 (by kernel_rfl) (Nat.le_of_ble_eq_true rfl) hs
theorem s51_1 {f : RG} : W prog J 69 n0 51 (subC [1,0,1] (codeOf f51)) f h (contX pl51 prog J 69 n0 51 ct51 [1,0,1] (codeOf f51) [] (RetQ prog [.tmp 2] n0 K)) =
(cnd (f.r 15)
(retL n0 K f.ds [(vint 1)] h)
(aOff (f.r 1) 2 fun v1 =>
aLoad false 1 v1 h fun v2 =>
aLenS v2 fun v3 =>
aBin prog .gtr 3 v3 (vint 8) fun v4 =>
cnd v4
(retL n0 K f.ds [(vint 6)] h)
(aOff (f.r 1) 2 fun v5 =>
aLoad false 1 v5 h fun v6 =>
aLenS v6 fun v7 =>
Sem J 69 n0 51 (subC [1,1,1,0,1,0] (codeOf f51)) (RG.p (RG.p (RG.p (RG.p (RG.p (RG.p (RG.p (RG.p f 16 v1) 17 v2) 18 v3) 19 v4) 20 v5) 21 v6) 22 v7) 23 (vint 0)) h (contX pl51 prog J 69 n0 51 ct51 [1,1,1,0,1,0] (codeOf f51) [] (RetQ prog [.tmp 2] n0 K))))) := sub_eq pok51 ct51 (by kernel_rfl)
theorem s51_2 {f : RG} {nx0 : RG → List AObj → Prop} : W prog J 69 n0 51 (subC [1,1,1,0,1,0,0] (codeOf f51)) f h (thenK nx0 (contX pl51 prog J 69 n0 51 ct51 [1,1,1,0,1,0] (codeOf f51) [] (RetQ prog [.tmp 2] n0 K))) =
(aBin prog .lss 3 (f.r 23) (f.r 22) fun v1 =>
cnd v1
(aIdx 7 (f.r 21) (f.r 23) fun v2 =>
aLoad true 7 v2 h fun v3 =>
aAlloc [(vint 0),(vint 0),(vint 0),(vint 0),(vint 0),(vint 0),(vint 0)] h fun v4 h5 =>
aStore 7 v4 v3 h5 fun h6 =>
aOff v4 0 fun v7 =>
aLoad false 1 v7 h6 fun v8 =>
aOff (f.r 1) 1 fun v9 =>
aLoad false 1 v9 h6 fun v10 =>
aBin prog .sub 3 v10 (vint 1) fun v11 =>
Good prog J 55 [v8,(vint 0),v11] h6 fun v12 h13 =>
aUn .not v12 fun v14 =>
cnd v14
(Hold (W prog J 69 n0 51 (subC [1,1,1,0,1,0,0,1,1,0,0,1,0,0,1] (codeOf f51)) (RG.p (RG.p (RG.p (RG.p (RG.p (RG.p (RG.p (RG.p (RG.p (RG.p (RG.p (RG.p (RG.p (RG.p (RG.p (RG.p (RG.p (RG.p (RG.p (RG.p (RG.p (RG.p f 24 v1) 25 v2) 26 v3) 4 v4) 28 v7) 29 v8) 30 v9) 31 v10) 32 v11) 33 v12) 34 v14) 35 v14) 35 (Value.bool true)) 36 undef) 37 undef) 38 undef) 39 undef) 40 undef) 41 undef) 42 undef) 43 (Value.bool true)) 27 (Value.bool true)) h13 (contX pl51 prog J 69 n0 51 ct51 [1,1,1,0,1,0,0,1,1,0,0,1,0,0,1] (codeOf f51) [nx0] (RetQ prog [.tmp 2] n0 K))))
(aOff v4 1 fun v15 =>
aLoad false 1 v15 h13 fun v16 =>
aOff (f.r 1) 1 fun v17 =>
aLoad false 1 v17 h13 fun v18 =>
aBin prog .sub 3 v18 (vint 1) fun v19 =>
Good prog J 55 [v16,(vint 0),v19] h13 fun v20 h21 =>
aUn .not v20 fun v22 =>
Hold (W prog J 69 n0 51 (subC [1,1,1,0,1,0,0,1,1,0,0,1,0,0,1] (codeOf f51)) (RG.p (RG.p (RG.p (RG.p (RG.p (RG.p (RG.p (RG.p (RG.p (RG.p (RG.p (RG.p (RG.p (RG.p (RG.p (RG.p (RG.p (RG.p (RG.p (RG.p (RG.p (RG.p f 24 v1) 25 v2) 26 v3) 4 v4) 28 v7) 29 v8) 30 v9) 31 v10) 32 v11) 33 v12) 34 v14) 35 v14) 35 (Value.bool false)) 36 v15) 37 v16) 38 v17) 39 v18) 40 v19) 41 v20) 42 v22) 43 v22) 27 v22) h21 (contX pl51 prog J 69 n0 51 ct51 [1,1,1,0,1,0,0,1,1,0,0,1,0,0,1] (codeOf f51) [nx0] (RetQ prog [.tmp 2] n0 K)))))
(retL n0 K f.ds [(vint 0)] h)) := sub_eq pok51 ct51 (by kernel_rfl)
theorem l51_2 (hJ : Closed prog main J) {S : Type} (μ : S → Nat) (I : S → RG → List AObj → Prop) (hI : ∀ s f h,I s f h → heapOk h → n0 ≤ h.length → W prog J 69 n0 51 (subC [1,1,1,0,1,0,0] (codeOf f51)) f h (thenK (Nx n0 μ I s) (contX pl51 prog J 69 n0 51 ct51 [1,1,1,0,1,0] (codeOf f51) [] (RetQ prog [.tmp 2] n0 K))))
 {s : S} {f : RG} (hi : Gets n0 I s f h) : Sem J 69 n0 51 (subC [1,1,1,0,1,0] (codeOf f51)) f h (contX pl51 prog J 69 n0 51 ct51 [1,1,1,0,1,0] (codeOf f51) [] (RetQ prog [.tmp 2] n0 K)) :=
 loop_rule hJ mixed (b := subC [1,1,1,0,1,0,0] (codeOf f51)) (by kernel_rfl) μ I hI hi
theorem s51_3 {f : RG} {nx0 : RG → List AObj → Prop} : W prog J 69 n0 51 (subC [1,1,1,0,1,0,0,1,1,0,0,1,0,0,1] (codeOf f51)) f h (contX pl51 prog J 69 n0 51 ct51 [1,1,1,0,1,0,0,1,1,0,0,1,0,0,1] (codeOf f51) [nx0] (RetQ prog [.tmp 2] n0 K)) =
(cnd (f.r 27)
(retL n0 K f.ds [(vint 3)] h)
(aOff (f.r 4) 0 fun v1 =>
aLoad false 1 v1 h fun v2 =>
aOff (f.r 4) 1 fun v3 =>
aLoad false 1 v3 h fun v4 =>
aBin prog .eql 3 v2 v4 fun v5 =>
cnd v5
(retL n0 K f.ds [(vint 4)] h)
(aOff (f.r 4) 2 fun v6 =>
aLoad false 1 v6 h fun v7 =>
Good prog J 55 [v7,(vint 1),(vint 9)] h fun v8 h9 =>
aUn .not v8 fun v10 =>
cnd v10
(Hold (W prog J 69 n0 51 (subC [1,1,1,0,1,0,0,1,1,0,0,1,0,0,1,1,1,1,1] (codeOf f51)) (RG.p (RG.p (RG.p (RG.p (RG.p (RG.p (RG.p (RG.p (RG.p (RG.p (RG.p (RG.p (RG.p (RG.p (RG.p (RG.p (RG.p (RG.p f 45 v1) 46 v2) 47 v3) 48 v4) 49 v5) 44 v5) 51 v6) 52 v7) 53 v8) 54 v10) 55 v10) 55 (Value.bool true)) 56 undef) 57 undef) 58 undef) 59 undef) 60 (Value.bool true)) 50 (Value.bool true)) h9 (contX pl51 prog J 69 n0 51 ct51 [1,1,1,0,1,0,0,1,1,0,0,1,0,0,1,1,1,1,1] (codeOf f51) [nx0] (RetQ prog [.tmp 2] n0 K))))
(aOff (f.r 4) 3 fun v11 =>
aLoad false 1 v11 h9 fun v12 =>
Good prog J 55 [v12,(vint 1),(vint 99)] h9 fun v13 h14 =>
aUn .not v13 fun v15 =>
Hold (W prog J 69 n0 51 (subC [1,1,1,0,1,0,0,1,1,0,0,1,0,0,1,1,1,1,1] (codeOf f51)) (RG.p (RG.p (RG.p (RG.p (RG.p (RG.p (RG.p (RG.p (RG.p (RG.p (RG.p (RG.p (RG.p (RG.p (RG.p (RG.p (RG.p (RG.p f 45 v1) 46 v2) 47 v3) 48 v4) 49 v5) 44 v5) 51 v6) 52 v7) 53 v8) 54 v10) 55 v10) 55 (Value.bool false)) 56 v11) 57 v12) 58 v13) 59 v15) 60 v15) 50 v15) h14 (contX pl51 prog J 69 n0 51 ct51 [1,1,1,0,1,0,0,1,1,0,0,1,0,0,1,1,1,1,1] (codeOf f51) [nx0] (RetQ prog [.tmp 2] n0 K))))))) := sub_eq pok51 ct51 (by kernel_rfl)
theorem s51_4 {f : RG} {nx0 : RG → List AObj → Prop} : W prog J 69 n0 51 (subC [1,1,1,0,1,0,0,1,1,0,0,1,0,0,1,1,1,1,1] (codeOf f51)) f h (contX pl51 prog J 69 n0 51 ct51 [1,1,1,0,1,0,0,1,1,0,0,1,0,0,1,1,1,1,1] (codeOf f51) [nx0] (RetQ prog [.tmp 2] n0 K)) =
(cnd (f.r 50)
(retL n0 K f.ds [(vint 1)] h)
(aLoad true 7 (f.r 4) h fun v1 =>
aOff (f.r 1) 0 fun v2 =>
aLoad false 1 v2 h fun v3 =>
Good prog J 56 [v1,v3] h fun v4 h5 =>
aBin prog .neq 44 v4 (vint 0) fun v6 =>
cnd v6
(retL n0 K f.ds [v4] h5)
(aBin prog .add 3 (f.r 23) (vint 1) fun v7 =>
nx0 (RG.p (RG.p (RG.p (RG.p (RG.p (RG.p (RG.p (RG.p (RG.p f 61 v1) 62 v2) 63 v3) 64 v4) 5 v4) 65 v4) 66 v6) 68 v7) 23 v7) h5))) := sub_eq pok51 ct51 (by kernel_rfl)
theorem at53 : prog.funcs[53]? = some f53 := by kernel_rfl
theorem body53 : f53.body = some (codeOf f53) := by kernel_rfl
def pl53 : Plans := []
def ct53 : Cuts := .bin (.go) (.bin (.go) (.bin (.bin (.go) (.un (.un (.bin (.go) (.bin (.go) (.bin (.un (.bin (.go) (.bin (.go) (.bin (.bin (.go) (.cut (.go))) (.bin (.go) (.un (.un (.bin (.go) (.bin (.go) (.bin (.un (.bin (.go) (.bin (.go) (.cut (.go))))) (.go))))))))))) (.go))))))) (.go)))
theorem pok53 : plansOk prog pl53 (codeOf f53) = true := by kernel_rfl
theorem e53 {a0 : Value} : W prog J 61 h.length 53 (codeOf f53) (RG.mk (regs [a0]) []) h (RetQ prog [.tmp 2] h.length K) =
(aBox a0 h fun v1 h2 =>
aOff v1 5 fun v3 =>
aLoad false 1 v3 h2 fun v4 =>
aLenS v4 fun v5 =>
aBin prog .gtr 3 v5 (vint 6) fun v6 =>
cnd v6
(retL h.length K [] [(vint 6)] h2)
(aOff v1 5 fun v7 =>
aLoad false 1 v7 h2 fun v8 =>
aLenS v8 fun v9 =>
Sem J 61 h.length 53 (subC [1,1,0,1,0] (codeOf f53)) (RG.p (RG.p (RG.p (RG.p (RG.p (RG.p (RG.p (RG.p (RG.p (RG.p (RG.mk (regs [a0]) []) 1 v1) 2 (vint 0)) 7 v3) 8 v4) 9 v5) 10 v6) 11 v7) 12 v8) 13 v9) 14 (vint 0)) h2 (contX pl53 prog J 61 h.length 53 ct53 [1,1,0,1,0] (codeOf f53) [] (RetQ prog [.tmp 2] h.length K)))) := top_eq pok53 ct53 (by kernel_rfl)
theorem g53 (hJ : Closed prog main J) {a0 : Value} (hs : heapOk h → W prog J 61 h.length 53 (codeOf f53) (RG.mk (regs [a0]) []) h (RetQ prog [.tmp 2] h.length K)) : Good prog J 53 [a0] h K :=
 good_of_W hJ mixed at53 body53 (by kernel_rfl) (Nat.le_of_ble_eq_true rfl) hs
theorem s53_1 {f : RG} {nx0 : RG → List AObj → Prop} : W prog J 61 n0 53 (subC [1,1,0,1,0,0] (codeOf f53)) f h (thenK nx0 (contX pl53 prog J 61 n0 53 ct53 [1,1,0,1,0] (codeOf f53) [] (RetQ prog [.tmp 2] n0 K))) =
(aBin prog .lss 3 (f.r 14) (f.r 13) fun v1 =>
cnd v1
(aIdx 3 (f.r 12) (f.r 14) fun v2 =>
aLoad true 3 v2 h fun v3 =>
aAlloc [(vint 0),(vint 0),(vint 0)] h fun v4 h5 =>
aStore 3 v4 v3 h5 fun h6 =>
aOff v4 0 fun v7 =>
aLoad false 1 v7 h6 fun v8 =>
aOff (f.r 1) 0 fun v9 =>
aOff v9 2 fun v10 =>
aLoad false 1 v10 h6 fun v11 =>
aLenS v11 fun v12 =>
aBin prog .sub 3 v12 (vint 1) fun v13 =>
Good prog J 39 [v8,(vint 0),v13] h6 fun v14 h15 =>
aUn .not v14 fun v16 =>
cnd v16
(retL n0 K f.ds [(vint 3)] h15)
(aOff v4 1 fun v17 =>
aLoad false 1 v17 h15 fun v18 =>
Good prog J 39 [v18,(vint 0),(vint 500)] h15 fun v19 h20 =>
aUn .not v19 fun v21 =>
cnd v21
(Hold (W prog J 61 n0 53 (subC [1,1,0,1,0,0,1,1,0,0,1,1,0,1] (codeOf f53)) (RG.p (RG.p (RG.p (RG.p (RG.p (RG.p (RG.p (RG.p (RG.p (RG.p (RG.p (RG.p (RG.p (RG.p (RG.p (RG.p (RG.p (RG.p (RG.p (RG.p (RG.p (RG.p (RG.p (RG.p (RG.p (RG.p f 15 v1) 16 (f.r 14)) 17 v2) 18 v3) 4 v4) 3 (f.r 14)) 19 v7) 20 v8) 21 v9) 22 v10) 23 v11) 24 v12) 25 v13) 26 v14) 27 v16) 28 v17) 29 v18) 30 v19) 31 v21) 32 v21) 32 (Value.bool true)) 33 undef) 34 undef) 35 undef) 36 undef) 37 (Value.bool true)) h20 (contX pl53 prog J 61 n0 53 ct53 [1,1,0,1,0,0,1,1,0,0,1,1,0,1] (codeOf f53) [nx0] (RetQ prog [.tmp 2] n0 K))))
(aOff v4 2 fun v22 =>
aLoad false 1 v22 h20 fun v23 =>
Good prog J 39 [v23,(vint 1),(vint 4)] h20 fun v24 h25 =>
aUn .not v24 fun v26 =>
Hold (W prog J 61 n0 53 (subC [1,1,0,1,0,0,1,1,0,0,1,1,0,1] (codeOf f53)) (RG.p (RG.p (RG.p (RG.p (RG.p (RG.p (RG.p (RG.p (RG.p (RG.p (RG.p (RG.p (RG.p (RG.p (RG.p (RG.p (RG.p (RG.p (RG.p (RG.p (RG.p (RG.p (RG.p (RG.p (RG.p (RG.p f 15 v1) 16 (f.r 14)) 17 v2) 18 v3) 4 v4) 3 (f.r 14)) 19 v7) 20 v8) 21 v9) 22 v10) 23 v11) 24 v12) 25 v13) 26 v14) 27 v16) 28 v17) 29 v18) 30 v19) 31 v21) 32 v21) 32 (Value.bool false)) 33 v22) 34 v23) 35 v24) 36 v26) 37 v26) h25 (contX pl53 prog J 61 n0 53 ct53 [1,1,0,1,0,0,1,1,0,0,1,1,0,1] (codeOf f53) [nx0] (RetQ prog [.tmp 2] n0 K))))))
(retL n0 K f.ds [(vint 0)] h)) := sub_eq pok53 ct53 (by kernel_rfl)
theorem l53_1 (hJ : Closed prog main J) {S : Type} (μ : S → Nat) (I : S → RG → List AObj → Prop) (hI : ∀ s f h,I s f h → heapOk h → n0 ≤ h.length → W prog J 61 n0 53 (subC [1,1,0,1,0,0] (codeOf f53)) f h (thenK (Nx n0 μ I s) (contX pl53 prog J 61 n0 53 ct53 [1,1,0,1,0] (codeOf f53) [] (RetQ prog [.tmp 2] n0 K))))
 {s : S} {f : RG} (hi : Gets n0 I s f h) : Sem J 61 n0 53 (subC [1,1,0,1,0] (codeOf f53)) f h (contX pl53 prog J 61 n0 53 ct53 [1,1,0,1,0] (codeOf f53) [] (RetQ prog [.tmp 2] n0 K)) :=
 loop_rule hJ mixed (b := subC [1,1,0,1,0,0] (codeOf f53)) (by kernel_rfl) μ I hI hi
theorem s53_2 {f : RG} {nx0 : RG → List AObj → Prop} : W prog J 61 n0 53 (subC [1,1,0,1,0,0,1,1,0,0,1,1,0,1] (codeOf f53)) f h (contX pl53 prog J 61 n0 53 ct53 [1,1,0,1,0,0,1,1,0,0,1,1,0,1] (codeOf f53) [nx0] (RetQ prog [.tmp 2] n0 K)) =
(cnd (f.r 37)
(retL n0 K f.ds [(vint 1)] h)
(aOff (f.r 1) 5 fun v1 =>
aLoad false 1 v1 h fun v2 =>
aSl2 3 v2 none (some (f.r 3)) h fun v3 =>
aLenS v3 fun v4 =>
Sem J 61 n0 53 (subC [1,1,0,1,0,0,1,1,0,0,1,1,1,1,0] (codeOf f53)) (RG.p (RG.p (RG.p (RG.p (RG.p (RG.p f 38 v1) 39 v2) 40 (f.r 3)) 41 v3) 42 v4) 43 (vint 0)) h (contX pl53 prog J 61 n0 53 ct53 [1,1,0,1,0,0,1,1,0,0,1,1,1,1,0] (codeOf f53) [nx0] (RetQ prog [.tmp 2] n0 K)))) := sub_eq pok53 ct53 (by kernel_rfl)
theorem s53_3 {f : RG} {nx0 nx1 : RG → List AObj → Prop} : W prog J 61 n0 53 (subC [1,1,0,1,0,0,1,1,0,0,1,1,1,1,0,0] (codeOf f53)) f h (thenK nx1 (contX pl53 prog J 61 n0 53 ct53 [1,1,0,1,0,0,1,1,0,0,1,1,1,1,0] (codeOf f53) [nx0] (RetQ prog [.tmp 2] n0 K))) =
(aBin prog .lss 3 (f.r 43) (f.r 42) fun v1 =>
cnd v1
(aIdx 3 (f.r 41) (f.r 43) fun v2 =>
aLoad true 3 v2 h fun v3 =>
aAlloc [(vint 0),(vint 0),(vint 0)] h fun v4 h5 =>
aStore 3 v4 v3 h5 fun h6 =>
aOff v4 0 fun v7 =>
aLoad false 1 v7 h6 fun v8 =>
aOff (f.r 4) 0 fun v9 =>
aLoad false 1 v9 h6 fun v10 =>
aBin prog .eql 3 v8 v10 fun v11 =>
cnd v11
(aOff v4 2 fun v12 =>
aLoad false 1 v12 h6 fun v13 =>
aOff (f.r 4) 2 fun v14 =>
aLoad false 1 v14 h6 fun v15 =>
aBin prog .eql 3 v13 v15 fun v16 =>
Hold (W prog J 61 n0 53 (subC [1,1,0,1,0,0,1,1,0,0,1,1,1,1,0,0,1,1,0,0,1,1] (codeOf f53)) (RG.p (RG.p (RG.p (RG.p (RG.p (RG.p (RG.p (RG.p (RG.p (RG.p (RG.p (RG.p (RG.p (RG.p (RG.p (RG.p (RG.p f 44 v1) 45 v2) 46 v3) 6 v4) 47 v7) 48 v8) 49 v9) 50 v10) 51 v11) 52 v11) 52 (Value.bool true)) 53 v12) 54 v13) 55 v14) 56 v15) 57 v16) 58 v16) h6 (contX pl53 prog J 61 n0 53 ct53 [1,1,0,1,0,0,1,1,0,0,1,1,1,1,0,0,1,1,0,0,1,1] (codeOf f53) [nx0,nx1] (RetQ prog [.tmp 2] n0 K))))
(Hold (W prog J 61 n0 53 (subC [1,1,0,1,0,0,1,1,0,0,1,1,1,1,0,0,1,1,0,0,1,1] (codeOf f53)) (RG.p (RG.p (RG.p (RG.p (RG.p (RG.p (RG.p (RG.p (RG.p (RG.p (RG.p (RG.p (RG.p (RG.p (RG.p (RG.p (RG.p f 44 v1) 45 v2) 46 v3) 6 v4) 47 v7) 48 v8) 49 v9) 50 v10) 51 v11) 52 v11) 52 (Value.bool false)) 53 undef) 54 undef) 55 undef) 56 undef) 57 undef) 58 (Value.bool false)) h6 (contX pl53 prog J 61 n0 53 ct53 [1,1,0,1,0,0,1,1,0,0,1,1,1,1,0,0,1,1,0,0,1,1] (codeOf f53) [nx0,nx1] (RetQ prog [.tmp 2] n0 K)))))
(aBin prog .add 3 (f.r 14) (vint 1) fun v17 =>
nx0 (RG.p (RG.p (RG.p f 44 v1) 60 v17) 14 v17) h)) := sub_eq pok53 ct53 (by kernel_rfl)
theorem l53_3 (hJ : Closed prog main J) {nx0 : RG → List AObj → Prop} {S : Type} (μ : S → Nat) (I : S → RG → List AObj → Prop) (hI : ∀ s f h,I s f h → heapOk h → n0 ≤ h.length → W prog J 61 n0 53 (subC [1,1,0,1,0,0,1,1,0,0,1,1,1,1,0,0] (codeOf f53)) f h (thenK (Nx n0 μ I s) (contX pl53 prog J 61 n0 53 ct53 [1,1,0,1,0,0,1,1,0,0,1,1,1,1,0] (codeOf f53) [nx0] (RetQ prog [.tmp 2] n0 K))))
 {s : S} {f : RG} (hi : Gets n0 I s f h) : Sem J 61 n0 53 (subC [1,1,0,1,0,0,1,1,0,0,1,1,1,1,0] (codeOf f53)) f h (contX pl53 prog J 61 n0 53 ct53 [1,1,0,1,0,0,1,1,0,0,1,1,1,1,0] (codeOf f53) [nx0] (RetQ prog [.tmp 2] n0 K)) :=
 loop_rule hJ mixed (b := subC [1,1,0,1,0,0,1,1,0,0,1,1,1,1,0,0] (codeOf f53)) (by kernel_rfl) μ I hI hi
theorem s53_4 {f : RG} {nx0 nx1 : RG → List AObj → Prop} : W prog J 61 n0 53 (subC [1,1,0,1,0,0,1,1,0,0,1,1,1,1,0,0,1,1,0,0,1,1] (codeOf f53)) f h (contX pl53 prog J 61 n0 53 ct53 [1,1,0,1,0,0,1,1,0,0,1,1,1,1,0,0,1,1,0,0,1,1] (codeOf f53) [nx0,nx1] (RetQ prog [.tmp 2] n0 K)) =
(cnd (f.r 58)
(retL n0 K f.ds [(vint 4)] h)
(aBin prog .add 3 (f.r 43) (vint 1) fun v1 =>
nx1 (RG.p (RG.p f 59 v1) 43 v1) h)) := sub_eq pok53 ct53 (by kernel_rfl)
theorem at38 : prog.funcs[38]? = some f38 := by kernel_rfl
theorem body38 : f38.body = some (codeOf f38) := by kernel_rfl
def pl38 : Plans := []
def ct38 : Cuts := .bin (.go) (.bin (.go) (.bin (.go) (.bin (.go) (.bin (.go) (.bin (.bin (.go) (.un (.un (.bin (.go) (.bin (.go) (.bin (.un (.bin (.go) (.bin (.bin (.go) (.cut (.go))) (.go)))) (.go))))))) (.go))))))
theorem pok38 : plansOk prog pl38 (codeOf f38) = true := by kernel_rfl
theorem e38 {a0 : Value} : W prog J 52 h.length 38 (codeOf f38) (RG.mk (regs [a0]) []) h (RetQ prog [.tmp 2] h.length K) =
(aBox a0 h fun v1 h2 =>
aOff v1 0 fun v3 =>
aLoad true 3 v3 h2 fun v4 =>
Good prog J 51 [v4] h2 fun v5 h6 =>
aBin prog .neq 44 v5 (vint 0) fun v7 =>
cnd v7
(retL h.length K [] [v5] h6)
(aOff v1 3 fun v8 =>
aLoad false 1 v8 h6 fun v9 =>
Good prog J 39 [v9,(vint 1),(vint 9)] h6 fun v10 h11 =>
aUn .not v10 fun v12 =>
cnd v12
(retL h.length K [] [(vint 1)] h11)
(aOff v1 4 fun v13 =>
aLoad false 1 v13 h11 fun v14 =>
aLenS v14 fun v15 =>
Good prog J 52 [v15,(vint 1),(vint 4)] h11 fun v16 h17 =>
aBin prog .neq 44 v16 (vint 0) fun v18 =>
cnd v18
(retL h.length K [] [v16] h17)
(aOff v1 4 fun v19 =>
aLoad false 1 v19 h17 fun v20 =>
aLenS v20 fun v21 =>
Sem J 52 h.length 38 (subC [1,1,1,1,1,0,1,0] (codeOf f38)) (RG.p (RG.p (RG.p (RG.p (RG.p (RG.p (RG.p (RG.p (RG.p (RG.p (RG.p (RG.p (RG.p (RG.p (RG.p (RG.p (RG.p (RG.p (RG.p (RG.p (RG.p (RG.p (RG.p (RG.p (RG.mk (regs [a0]) []) 1 v1) 2 (vint 0)) 8 v3) 9 v4) 10 v5) 3 v5) 11 v5) 12 v7) 14 v8) 15 v9) 16 v10) 17 v12) 18 v13) 19 v14) 20 v15) 21 v16) 4 v16) 22 v16) 23 v18) 5 (vint 0)) 25 v19) 26 v20) 27 v21) 28 (vint 0)) h17 (contX pl38 prog J 52 h.length 38 ct38 [1,1,1,1,1,0,1,0] (codeOf f38) [] (RetQ prog [.tmp 2] h.length K)))))) := top_eq pok38 ct38 (by kernel_rfl)
theorem g38 (hJ : Closed prog main J) {a0 : Value} (hs : heapOk h → W prog J 52 h.length 38 (codeOf f38) (RG.mk (regs [a0]) []) h (RetQ prog [.tmp 2] h.length K)) : Good prog J 38 [a0] h K :=
 good_of_W hJ mixed at38 body38 (by kernel_rfl) (Nat.le_of_ble_eq_true rfl) hs
theorem s38_1 {f : RG} {nx0 : RG → List AObj → Prop} : W prog J 52 n0 38 (subC [1,1,1,1,1,0,1,0,0] (codeOf f38)) f h (thenK nx0 (contX pl38 prog J 52 n0 38 ct38 [1,1,1,1,1,0,1,0] (codeOf f38) [] (RetQ prog [.tmp 2] n0 K))) =
(aBin prog .lss 3 (f.r 28) (f.r 27) fun v1 =>
cnd v1
(aIdx 3 (f.r 26) (f.r 28) fun v2 =>
aLoad true 3 v2 h fun v3 =>
aAlloc [(vint 0),(vint 0),(Value.bool false)] h fun v4 h5 =>
aStore 3 v4 v3 h5 fun h6 =>
aOff v4 0 fun v7 =>
aLoad false 1 v7 h6 fun v8 =>
Good prog J 39 [v8,(vint 0),(vint 40)] h6 fun v9 h10 =>
aUn .not v9 fun v11 =>
cnd v11
(Hold (W prog J 52 n0 38 (subC [1,1,1,1,1,0,1,0,0,1,1,0,0,1,0,1] (codeOf f38)) (RG.p (RG.p (RG.p (RG.p (RG.p (RG.p (RG.p (RG.p (RG.p (RG.p (RG.p (RG.p (RG.p (RG.p (RG.p f 29 v1) 30 v2) 31 v3) 7 v4) 32 v7) 33 v8) 34 v9) 35 v11) 36 v11) 36 (Value.bool true)) 37 undef) 38 undef) 39 undef) 40 undef) 41 (Value.bool true)) h10 (contX pl38 prog J 52 n0 38 ct38 [1,1,1,1,1,0,1,0,0,1,1,0,0,1,0,1] (codeOf f38) [nx0] (RetQ prog [.tmp 2] n0 K))))
(aOff v4 1 fun v12 =>
aLoad false 1 v12 h10 fun v13 =>
Good prog J 39 [v13,(vint 0),(vint 40)] h10 fun v14 h15 =>
aUn .not v14 fun v16 =>
Hold (W prog J 52 n0 38 (subC [1,1,1,1,1,0,1,0,0,1,1,0,0,1,0,1] (codeOf f38)) (RG.p (RG.p (RG.p (RG.p (RG.p (RG.p (RG.p (RG.p (RG.p (RG.p (RG.p (RG.p (RG.p (RG.p (RG.p f 29 v1) 30 v2) 31 v3) 7 v4) 32 v7) 33 v8) 34 v9) 35 v11) 36 v11) 36 (Value.bool false)) 37 v12) 38 v13) 39 v14) 40 v16) 41 v16) h15 (contX pl38 prog J 52 n0 38 ct38 [1,1,1,1,1,0,1,0,0,1,1,0,0,1,0,1] (codeOf f38) [nx0] (RetQ prog [.tmp 2] n0 K)))))
(Good prog J 39 [(f.r 5),(vint 1),(vint 40)] h fun v17 h18 =>
aUn .not v17 fun v19 =>
cnd v19
(retL n0 K f.ds [(vint 1)] h18)
(aLoad true 6 (f.r 1) h18 fun v20 =>
Good prog J 53 [v20] h18 fun v21 h22 =>
retL n0 K f.ds [v21] h22))) := sub_eq pok38 ct38 (by kernel_rfl)
theorem l38_1 (hJ : Closed prog main J) {S : Type} (μ : S → Nat) (I : S → RG → List AObj → Prop) (hI : ∀ s f h,I s f h → heapOk h → n0 ≤ h.length → W prog J 52 n0 38 (subC [1,1,1,1,1,0,1,0,0] (codeOf f38)) f h (thenK (Nx n0 μ I s) (contX pl38 prog J 52 n0 38 ct38 [1,1,1,1,1,0,1,0] (codeOf f38) [] (RetQ prog [.tmp 2] n0 K))))
 {s : S} {f : RG} (hi : Gets n0 I s f h) : Sem J 52 n0 38 (subC [1,1,1,1,1,0,1,0] (codeOf f38)) f h (contX pl38 prog J 52 n0 38 ct38 [1,1,1,1,1,0,1,0] (codeOf f38) [] (RetQ prog [.tmp 2] n0 K)) :=
 loop_rule hJ mixed (b := subC [1,1,1,1,1,0,1,0,0] (codeOf f38)) (by kernel_rfl) μ I hI hi
theorem s38_2 {f : RG} {nx0 : RG → List AObj → Prop} : W prog J 52 n0 38 (subC [1,1,1,1,1,0,1,0,0,1,1,0,0,1,0,1] (codeOf f38)) f h (contX pl38 prog J 52 n0 38 ct38 [1,1,1,1,1,0,1,0,0,1,1,0,0,1,0,1] (codeOf f38) [nx0] (RetQ prog [.tmp 2] n0 K)) =
(cnd (f.r 41)
(retL n0 K f.ds [(vint 1)] h)
(aOff (f.r 7) 0 fun v1 =>
aLoad false 1 v1 h fun v2 =>
aBin prog .add 3 (f.r 5) v2 fun v3 =>
aBin prog .add 3 (f.r 28) (vint 1) fun v4 =>
nx0 (RG.p (RG.p (RG.p (RG.p (RG.p (RG.p (RG.p f 42 (f.r 5)) 43 v1) 44 v2) 45 v3) 5 v3) 46 v4) 28 v4) h)) := sub_eq pok38 ct38 (by kernel_rfl)
end
end Go.Proofs.Ytfljbanjmplcfaa
namespace Go.Proofs.Ytfljbanjmplcfaa
open Go.Conc Go.Proofs.Try
set_option maxRecDepth 100000
structure Strp where
 a : Int
 b : Int
 lg : Int
 wd : Int
 kd : Int
 x : Int
 y : Int
def Strp.cells (s : Strp) : List Value := [vint s.a,vint s.b,vint s.lg,vint s.wd,vint s.kd,vint s.x,vint s.y]
structure Payr where
 heads : Int
 free : Int
 half : Bool
def Payr.cells (p : Payr) : List Value := [vint p.heads,vint p.free,.bool p.half]
structure Toll where
 strip : Int
 rate : Int
 farmer : Int
def Toll.cells (t : Toll) : List Value := [vint t.strip,vint t.rate,vint t.farmer]
structure Tarf where
 days : Int
 stages : Int
 strips : List Strp
 pace : Int
 payers : List Payr
 tolls : List Toll
def tarCells (t : Tarf) (sv pv tv : Value) : List Value := [vint t.days,vint t.stages,sv,vint t.pace,pv,tv]
def kindOk (days : Int) (s : Strp) : Prop := (s.kd = 1 ∧ s.x = 0 ∧ s.y = 0) ∨ (s.kd = 2 ∧ (0 ≤ s.x ∧ s.x ≤ days - 1) ∧ (s.x ≤ s.y ∧ s.y ≤ days - 1)) ∨ (s.kd = 3 ∧ (0 ≤ s.x ∧ s.x ≤ 20) ∧ (-5 ≤ s.y ∧ s.y ≤ 5)) ∨ (s.kd = 4 ∧ (1 ≤ s.x ∧ s.x ≤ 40) ∧ s.y = 0)
structure StrpOk (days stages : Int) (s : Strp) : Prop where
 a : 0 ≤ s.a ∧ s.a ≤ stages - 1
 b : 0 ≤ s.b ∧ s.b ≤ stages - 1
 ab : s.a ≠ s.b
 lg : 1 ≤ s.lg ∧ s.lg ≤ 9
 wd : 1 ≤ s.wd ∧ s.wd ≤ 99
 kd : kindOk days s
def PayrOk (p : Payr) : Prop := (0 ≤ p.heads ∧ p.heads ≤ 40) ∧ (0 ≤ p.free ∧ p.free ≤ 40)
structure TollOk (strips : Nat) (t : Toll) : Prop where
 strip : 0 ≤ t.strip ∧ t.strip ≤ (strips : Int) - 1
 rate : 0 ≤ t.rate ∧ t.rate ≤ 500
 farmer : 1 ≤ t.farmer ∧ t.farmer ≤ 4
def apartT (t u : Toll) : Prop := t.strip ≠ u.strip ∨ t.farmer ≠ u.farmer
def headSum (l : List Payr) : Int := (l.map Payr.heads).foldl (· + ·) 0
structure TarOk (t : Tarf) : Prop where
 days : 1 ≤ t.days ∧ t.days ≤ 10
 stages : 1 ≤ t.stages ∧ t.stages ≤ 6
 ns : t.strips.length ≤ 8
 strips : ∀ s ∈ t.strips,StrpOk t.days t.stages s
 pace : 1 ≤ t.pace ∧ t.pace ≤ 9
 np : 1 ≤ t.payers.length ∧ t.payers.length ≤ 4
 payers : ∀ p ∈ t.payers,PayrOk p
 sum : 1 ≤ headSum t.payers ∧ headSum t.payers ≤ 40
 nt : t.tolls.length ≤ 6
 tolls : ∀ x ∈ t.tolls,TollOk t.strips.length x
 apart : ∀ (i j : Nat) x y,j < i → t.tolls[i]? = some x → t.tolls[j]? = some y → apartT x y
structure TarAt (H : List AObj) (t : Tarf) (sv pv tv : Value) : Prop where
 s : SliE H sv 7 Strp.cells t.strips
 p : SliE H pv 3 Payr.cells t.payers
 o : ∃ o,OwnX H 3 (t.tolls.flatMap Toll.cells) t.tolls.length tv o
theorem TarAt.t {H : List AObj} {t : Tarf} {sv pv tv : Value} (a : TarAt H t sv pv tv) : SliE H tv 3 Toll.cells t.tolls := a.o.elim fun _ O => ownX_sli O
theorem TarAt.same {H H' : List AObj} {t : Tarf} {sv pv tv : Value} {X : List Nat} (a : TarAt H t sv pv tv) (S : SameX X H H') (hX : ∀ x ∈ X,H.length ≤ x) : TarAt H' t sv pv tv := ⟨S.sli a.s hX,S.sli a.p hX,a.o.elim fun o O => ⟨o,ownX_keep O S fun i hi hm => by have := hX i hm; have := ownX_lt O i hi; omega⟩⟩
theorem TarAt.one {H : List AObj} {t : Tarf} {sv pv tv : Value} (a : TarAt H t sv pv tv) : (tarCells t sv pv tv).all one = true := by
 simp [tarCells,(sli_one a.s).2.1,(sli_one a.p).2.1,(sli_one a.t).2.1]
 exact ⟨rfl,rfl,rfl⟩
theorem TarAt.kn {H : List AObj} {t : Tarf} {sv pv tv : Value} (a : TarAt H t sv pv tv) : kn (tarCells t sv pv tv) = true := by
 simp [Go.Proofs.Ytfljbanjmplcfaa.kn,tarCells,(sli_one a.s).2.2,(sli_one a.p).2.2,(sli_one a.t).2.2]
 exact ⟨rfl,rfl,rfl⟩
section
variable {main : Bool} {J : JT} {n0 : Nat} {H : List AObj} {K : Value → List AObj → Prop}
theorem leqT {KV : Value → Prop} {a b : Int} {t : TypeId} (h : a ≤ b) (hk : KV (.bool true)) : aBin prog .leq t (vint a) (vint b) KV := leqI (by rw [decide_eq_true h]; exact hk)
theorem eqlT {KV : Value → Prop} {a b : Int} {t : TypeId} (h : a = b) (hk : KV (.bool true)) : aBin prog .eql t (vint a) (vint b) KV := eqlI (by rw [decide_eq_true h]; exact hk)
theorem eqlF {KV : Value → Prop} {a b : Int} {t : TypeId} (h : a ≠ b) (hk : KV (.bool false)) : aBin prog .eql t (vint a) (vint b) KV := eqlI (by rw [decide_eq_false h]; exact hk)
theorem neqF {KV : Value → Prop} {a b : Int} {t : TypeId} (h : a = b) (hk : KV (.bool false)) : aBin prog .neq t (vint a) (vint b) KV := neqI (by rw [decide_eq_false (not_not_intro h)]; exact hk)
theorem gtrF {KV : Value → Prop} {a b : Int} {t : TypeId} (h : ¬ a > b) (hk : KV (.bool false)) : aBin prog .gtr t (vint a) (vint b) KV := gtrI (by rw [decide_eq_false h]; exact hk)
theorem gtrT {KV : Value → Prop} {a b : Int} {t : TypeId} (h : a > b) (hk : KV (.bool true)) : aBin prog .gtr t (vint a) (vint b) KV := gtrI (by rw [decide_eq_true h]; exact hk)
theorem lssF {KV : Value → Prop} {a b : Int} {t : TypeId} (h : ¬ a < b) (hk : KV (.bool false)) : aBin prog .lss t (vint a) (vint b) KV := lssI (by rw [decide_eq_false h]; exact hk)
theorem good55 (hJ : Closed prog main J) {n lo hi : Int} (h : lo ≤ n ∧ n ≤ hi) (hK : K (.bool true) H) : Good prog J 55 [vint n,vint lo,vint hi] H K := by
 refine g55 hJ fun ok => ?_
 rw [e55]
 exact leqT h.1 (cnd_true.2 (leqT h.2 (retL_same (by simp [unk]) hK)))
theorem good39 (hJ : Closed prog main J) {n lo hi : Int} (h : lo ≤ n ∧ n ≤ hi) (hK : K (.bool true) H) : Good prog J 39 [vint n,vint lo,vint hi] H K := by
 refine g39 hJ fun ok => ?_
 rw [e39]
 exact leqT h.1 (cnd_true.2 (leqT h.2 (retL_same (by simp [unk]) hK)))
theorem good52 (hJ : Closed prog main J) {n lo hi : Int} (h : lo ≤ n ∧ n ≤ hi) (hK : K (vint 0) H) : Good prog J 52 [vint n,vint lo,vint hi] H K := by
 refine g52 hJ fun ok => ?_
 rw [e52]
 exact lssF (by omega) (cnd_false.2 (gtrF (by omega) (cnd_false.2 (retL_same (by simp [unk]) hK))))
theorem kd1 {f : RG} (ds : f.ds = []) (r5 : f.r 5 = .bool true) (hK : K (vint 0) H) :
  W prog J 56 n0 56 (subC [1,1,1] (codeOf f56)) f H (contX pl56 prog J 56 n0 56 ct56 [1,1,1] (codeOf f56) [] (RetQ prog [.tmp 4] n0 K)) := by
 rw [s56_1,r5,ds]
 exact notI (cnd_false.2 (retL_same (by simp [unk]) hK))
theorem good56 (hJ : Closed prog main J) {s : Strp} {days : Int} (hd : 1 ≤ days ∧ days ≤ 10) (hk : kindOk days s) (hK : ∀ H',SameX [] H H' → K (vint 0) H') : Good prog J 56 [.agg ⟨s.cells⟩,vint days] H K := by
 refine g56 hJ fun ok => ?_
 rw [e56]
 refine qBox (l := s.cells) rfl fun H1 p1 e1 S1 c1 l1 => offI (ldI (v := vint s.kd) c1 rfl rfl ?_)
 rcases hk with ⟨hk,hx,hy⟩ | ⟨hk,hx,hy⟩ | ⟨hk,hx,hy⟩ | ⟨hk,hx,hy⟩
 ·refine eqlT hk (cnd_true.2 (offI (ldI (v := vint s.x) c1 rfl rfl (eqlT hx (cnd_true.2 (offI (ldI (v := vint s.y) c1 rfl rfl (eqlT hy (hold.2 ?_)))))))))
  exact kd1 rfl rfl (hK H1 S1)
 ·refine eqlF (by omega) (cnd_false.2 (eqlT hk (cnd_true.2 (offI (ldI (v := vint s.x) c1 rfl rfl (subI (by omega) (good55 hJ hx (cnd_true.2 ?_))))))))
  refine offI (ldI (v := vint s.y) c1 rfl rfl (offI (ldI (v := vint s.x) c1 rfl rfl (subI (by omega) (good55 hJ hy (hold.2 ?_))))))
  exact kd1 rfl rfl (hK H1 S1)
 ·refine eqlF (by omega) (cnd_false.2 (eqlF (by omega) (cnd_false.2 (eqlT hk (cnd_true.2 (offI (ldI (v := vint s.x) c1 rfl rfl (good55 hJ hx (cnd_true.2 ?_)))))))))
  refine offI (ldI (v := vint s.y) c1 rfl rfl (good55 hJ hy (hold.2 ?_)))
  exact kd1 rfl rfl (hK H1 S1)
 ·refine eqlF (by omega) (cnd_false.2 (eqlF (by omega) (cnd_false.2 (eqlF (by omega) (cnd_false.2 (eqlT hk (cnd_true.2 (offI (ldI (v := vint s.x) c1 rfl rfl (good55 hJ hx (cnd_true.2 ?_)))))))))))
  refine offI (ldI (v := vint s.y) c1 rfl rfl (eqlT hy (hold.2 ?_)))
  exact kd1 rfl rfl (hK H1 S1)
theorem elemE {α : Type} {v : Value} {s : Nat} {enc : α → List Value} {xs : List α} (hen : ∀ x,(enc x).length = s) (hpos : 0 < s) (hs : SliE H v s enc xs) {i : Nat} (hi : i < xs.length) {K2 : Value → Value → Prop} (hK : ∀ p,K2 p (.agg ⟨enc xs[i]⟩)) : aIdx s v (vint (i : Nat)) fun p => aLoad true s p H (K2 p) := by
 obtain ⟨b,o,cs,wr,sz,hidx,hb,hos,htk,hkn⟩ := sliE_elem hen hpos hs hi
 exact hidx _ (load_part hb hos htk hkn (hK _))
theorem good51 (hJ : Closed prog main J) {days stages : Int} {sv : Value} {l : List Strp} (hd : 1 ≤ days ∧ days ≤ 10) (hs : 1 ≤ stages ∧ stages ≤ 6) (hl : SliE H sv 7 Strp.cells l) (hn : l.length ≤ 8) (hok : ∀ s ∈ l,StrpOk days stages s) (hK : ∀ H',SameX [] H H' → K (vint 0) H') : Good prog J 51 [.agg ⟨[vint days,vint stages,sv]⟩] H K := by
 refine g51 hJ fun ok => ?_
 rw [e51]
 have kk := sli_one hl
 refine qBox (l := [vint days,vint stages,sv]) (by simp [kk.2.1]; exact ⟨rfl,rfl⟩) fun H1 p1 e1 S1 c1 l1 => ?_
 refine offI (ldI (v := vint days) c1 rfl rfl (good55 hJ (by omega) (notI (cnd_false.2 (offI (ldI (v := vint stages) c1 rfl rfl (good55 hJ (by omega) (notI (hold.2 ?_)))))))))
 rw [s51_1]
 refine cnd_false.2 (offI (ldI (v := sv) c1 rfl kk.2.2 ?_))
 rw [sliE_len (S1.sli hl (by simp))]
 refine gtrF (by omega) (cnd_false.2 (offI (ldI (v := sv) c1 rfl kk.2.2 ?_)))
 rw [sliE_len (S1.sli hl (by simp))]
 have hp1 := lt_of_get c1
 refine l51_2 hJ (fun k : Nat => l.length - k) (fun k F H' => k ≤ l.length ∧ SameX [] H1 H' ∧ F.ds = [] ∧ F.r 1 = ptr p1 0 ∧ F.r 21 = sv ∧ F.r 22 = vint (l.length : Nat) ∧ F.r 23 = vint (k : Nat)) ?_ (s := 0)
  (.inl ⟨by omega,SameX.refl,rfl,rfl,rfl,rfl,rfl⟩)
 rintro k F H' ⟨hk,S,ds,r1,r21,r22,r23⟩ okc hnc
 rw [s51_2,r1,r21,r22,r23,ds]
 refine lssI (cndI (fun hlt => ?_) fun hge => retL_same (by simp [unk]) (hK H' (S1.trans S)))
 have hkl : k < l.length := by omega
 obtain ⟨o1,o2,o3,o4,o5,o6⟩ := hok _ (List.getElem_mem hkl)
 refine elemE (enc := Strp.cells) (fun _ => rfl) (by decide) ((S1.trans S).sli hl (by simp)) hkl fun q => ?_
 generalize l[k] = x at *
 refine qAl fun H2 p2 e2 S2 c2 l2 => qStA (c := x.cells) c2 rfl rfl rfl fun H3 S3 c3 l3 => ?_
 have T3 : SameX [] H1 H3 := (S.trans S2).thru S3 (by have := S.1; simp; omega)
 have d1 := T3.get c1 (by simp)
 refine offI (ldI (v := vint x.a) c3 rfl rfl (offI (ldI (v := vint stages) d1 rfl rfl (subI (by omega) (good55 hJ o1 (notI (cnd_false.2 ?_)))))))
 refine offI (ldI (v := vint x.b) c3 rfl rfl (offI (ldI (v := vint stages) d1 rfl rfl (subI (by omega) (good55 hJ o2 (notI (hold.2 ?_)))))))
 rw [s51_3]
 refine cnd_false.2 (offI (ldI (v := vint x.a) c3 rfl rfl (offI (ldI (v := vint x.b) c3 rfl rfl (eqlF o3 (cnd_false.2 ?_))))))
 refine offI (ldI (v := vint x.lg) c3 rfl rfl (good55 hJ o4 (notI (cnd_false.2 ?_))))
 refine offI (ldI (v := vint x.wd) c3 rfl rfl (good55 hJ o5 (notI (hold.2 ?_))))
 rw [s51_4]
 refine cnd_false.2 (load_part (c := x.cells) c3 (by simp [Strp.cells]) rfl rfl ?_)
 show aOff (F.r 1) _ _
 rw [r1]
 refine offI (ldI (v := vint days) d1 rfl rfl (good56 hJ hd o6 fun H4 S4 => neqF rfl (cnd_false.2 ?_)))
 show aBin prog .add _ (F.r 23) _ _
 rw [r23]
 exact addI (by omega) ⟨k + 1,by dsimp only; omega,.inl ⟨by omega,T3.trans S4,ds,r1,r21,r22,by show vint _ = vint _; congr 1⟩⟩
theorem sl2E {s : Nat} {cs : List Value} {len k : Nat} {v : Value} {o : Option Nat} {KV : Value → Prop} (O : OwnX H s cs len v o) (h0 : 0 < s) (hk : k ≤ len) (hl : len < 1000000) (hn : 0 < len) (hK : ∀ v',Sli H v' s k (cs.take (k * s)) → KV v') : aSl2 s v none (some (vint (k : Nat))) H KV := by
 obtain ⟨h1,h2,⟨h3,_⟩ | ⟨i',c,sz,hi,rfl,h5,h6⟩⟩ := O
 ·omega
 have hle : k * s ≤ len * s := Nat.mul_le_mul_right s hk
 have hkn : kn (cs.take (k * s)) = true := by
  unfold kn at h2 ⊢
  rw [List.all_eq_true] at h2 ⊢
  exact fun x hx => h2 x (List.mem_of_mem_take hx)
 have hb : bnd len (some (vint (k : Nat))) = some k := by
  show (bif decide (0 ≤ (k : Int)) then some (k : Int).toNat else none) = some k
  rw [decide_eq_true (by omega)]
  simp
 have hs : ∀ o c,o = 0 → Sli H (.slice (some ⟨i',o,none⟩) (k - 0) c) s k (cs.take (k * s)) := fun o c ho => by
  subst ho
  refine ⟨_,_,rfl,⟨by simp; omega,hkn⟩,.inr ⟨i',0,rfl,.inr ⟨cs,true,sz,h5,?_⟩⟩⟩
  rw [List.drop_zero]
 have hfz : (1000000 : Nat) < fz := by decide
 unfold aSl2
 dsimp only
 rw [hb]
 refine ⟨Nat.zero_le _,fun hc => ⟨?_,?_⟩,fun hc => ?_⟩
 ·rcases h6 with ⟨rfl,_⟩ | rfl
  ·exact absurd hc (Nat.lt_irrefl _)
  ·omega
 ·refine hK _ (hs _ _ ?_)
  cases Nat.beq c 0 <;> simp
 ·rcases h6 with ⟨rfl,rfl⟩ | rfl
  ·rw [h5]
   exact ⟨⟨rfl,rfl,h0,by omega,.inl rfl⟩,hK _ (hs _ _ (by omega))⟩
  ·omega
theorem flat_pre {α : Type} {enc : α → List Value} {s : Nat} (hen : ∀ x,(enc x).length = s) : ∀ (xs : List α) (k : Nat),k ≤ xs.length → (xs.flatMap enc).take (k * s) = (xs.take k).flatMap enc
 | [],k,hk => by simp at hk; subst hk; simp
 | x :: xs,0,_ => by simp
 | x :: xs,k + 1,hk => by
  have ih := flat_pre hen xs k (by simpa using hk)
  rw [List.flatMap_cons,List.take_succ_cons,List.flatMap_cons,← ih,Nat.succ_mul,Nat.add_comm,List.take_append]
  rw [hen x,List.take_of_length_le (by rw [hen]; omega)]
  congr 2
  omega
theorem good53 (hJ : Closed prog main J) {t : Tarf} {sv pv tv : Value} (ht : TarAt H t sv pv tv) (ok : TarOk t) (hK : ∀ H',SameX [] H H' → K (vint 0) H') : Good prog J 53 [.agg ⟨tarCells t sv pv tv⟩] H K := by
 refine g53 hJ fun okh => ?_
 rw [e53]
 have kt := sli_one ht.t
 have ks := sli_one ht.s
 have nt := ok.nt
 have ns := ok.ns
 refine qBox (l := tarCells t sv pv tv) ht.one fun H1 p1 e1 S1 c1 l1 => ?_
 have t1 := ht.same S1 (by simp)
 refine offI (ldI (v := tv) c1 rfl kt.2.2 ?_)
 rw [sliE_len t1.t]
 refine gtrF (by omega) (cnd_false.2 (offI (ldI (v := tv) c1 rfl kt.2.2 ?_)))
 rw [sliE_len t1.t]
 have hp1 := lt_of_get c1
 refine l53_1 hJ (fun k : Nat => t.tolls.length - k) (fun k F H' => k ≤ t.tolls.length ∧ SameX [] H1 H' ∧ F.ds = [] ∧ F.r 1 = ptr p1 0 ∧ F.r 12 = tv ∧ F.r 13 = vint (t.tolls.length : Nat) ∧ F.r 14 = vint (k : Nat)) ?_ (s := 0)
  (.inl ⟨by omega,SameX.refl,rfl,rfl,rfl,rfl,rfl⟩)
 rintro k F H' ⟨hk,S,ds,r1,r12,r13,r14⟩ okc hnc
 rw [s53_1,r1,r12,r13,r14,ds]
 refine lssI (cndI (fun hlt => ?_) fun hge => retL_same (by simp [unk]) (hK H' (S1.trans S)))
 have hkl : k < t.tolls.length := by omega
 obtain ⟨o1,o2,o3⟩ := ok.tolls _ (List.getElem_mem hkl)
 refine elemE (enc := Toll.cells) (fun _ => rfl) (by decide) (t1.same S (by simp)).t hkl fun q => ?_
 have hget : t.tolls[k]? = some t.tolls[k] := List.getElem?_eq_getElem hkl
 generalize t.tolls[k] = x at *
 refine qAl fun H2 p2 e2 S2 c2 l2 => qStA (c := x.cells) c2 rfl rfl rfl fun H3 S3 c3 l3 => ?_
 have T3 : SameX [] H1 H3 := (S.trans S2).thru S3 (by have := S.1; simp; omega)
 have d1 := T3.get c1 (by simp)
 have t3 := t1.same T3 (by simp)
 refine offI (ldI (v := vint x.strip) c3 rfl rfl (offI (offI (ldI (v := sv) d1 rfl ks.2.2 ?_))))
 rw [sliE_len t3.s]
 refine subI (by omega) (good39 hJ o1 (notI (cnd_false.2 ?_)))
 refine offI (ldI (v := vint x.rate) c3 rfl rfl (good39 hJ o2 (notI (cnd_false.2 ?_))))
 refine offI (ldI (v := vint x.farmer) c3 rfl rfl (good39 hJ o3 (notI (hold.2 ?_))))
 rw [s53_2]
 refine cnd_false.2 ?_
 show aOff (F.r 1) _ _
 rw [r1]
 refine offI (ldI (v := tv) d1 rfl kt.2.2 ?_)
 obtain ⟨o,O⟩ := t3.o
 show aSl2 3 tv none (some (vint (k : Nat))) H3 _
 refine sl2E O (by decide) hk (by omega) (by omega) fun w hw => ?_
 rw [flat_pre (enc := Toll.cells) (s := 3) (fun _ => rfl) _ _ hk] at hw
 have hw : SliE H3 w 3 Toll.cells (t.tolls.take k) := by
  unfold SliE
  rw [List.length_take,Nat.min_eq_left hk]
  exact hw
 rw [sliE_len hw,List.length_take,Nat.min_eq_left hk]
 have hp3 := lt_of_get c3
 refine l53_3 hJ (fun j : Nat => k - j) (fun j F' H'' => j ≤ k ∧ SameX [] H3 H'' ∧ F'.ds = [] ∧ F'.r 1 = ptr p1 0 ∧ F'.r 12 = tv ∧ F'.r 13 = vint (t.tolls.length : Nat) ∧ F'.r 14 = vint (k : Nat) ∧ F'.r 4 = ptr p2 0 ∧ F'.r 41 = w ∧ F'.r 42 = vint (k : Nat) ∧ F'.r 43 = vint (j : Nat)) ?_ (s := 0)
  (.inl ⟨by omega,SameX.refl,ds,r1,r12,r13,r14,rfl,rfl,rfl,rfl⟩)
 clear ds r1 r12 r13 r14
 rintro j F' H'' ⟨hj,S',ds,r1,r12,r13,r14,r4,r41,r42,r43⟩ okc' hnc'
 rw [s53_3,r4,r41,r42,r43,r14]
 refine lssI (cndI (fun hlt2 => ?_) fun hge => addI (by omega) ⟨k + 1,by dsimp only; omega,.inl ⟨by omega,T3.trans S',ds,r1,r12,r13,by show vint _ = vint _; congr 1⟩⟩)
 have hjk : j < (t.tolls.take k).length := by rw [List.length_take]; omega
 refine elemE (enc := Toll.cells) (fun _ => rfl) (by decide) (S'.sli hw (by simp)) hjk fun q2 => ?_
 have hgj : t.tolls[j]? = some (t.tolls.take k)[j] := by
  rw [List.getElem_take]
  exact List.getElem?_eq_getElem (by omega)
 have hap := ok.apart k j _ _ (by omega) hget hgj
 generalize (t.tolls.take k)[j] = y at *
 refine qAl fun H4 p4 e4 S4 c4 l4 => qStA (c := y.cells) c4 rfl rfl rfl fun H5 S5 c5 l5 => ?_
 have T5 : SameX [] H3 H5 := (S'.trans S4).thru S5 (by have := S'.1; simp; omega)
 have c3' := T5.get c3 (by simp)
 refine offI (ldI (v := vint y.strip) c5 rfl rfl (offI (ldI (v := vint x.strip) c3' rfl rfl ?_)))
 have next : ∀ {F2 : RG},F2.ds = [] → F2.r 1 = ptr p1 0 → F2.r 12 = tv → F2.r 13 = vint (t.tolls.length : Nat) → F2.r 14 = vint (k : Nat) → F2.r 4 = ptr p2 0 → F2.r 41 = w → F2.r 42 = vint (k : Nat) → F2.r 43 = vint (j : Nat) → F2.r 58 = .bool false →
   ∀ nx0,W prog J 61 H.length 53 (subC [1,1,0,1,0,0,1,1,0,0,1,1,1,1,0,0,1,1,0,0,1,1] (codeOf f53)) F2 H5 (contX pl53 prog J 61 H.length 53 ct53 [1,1,0,1,0,0,1,1,0,0,1,1,1,1,0,0,1,1,0,0,1,1] (codeOf f53) [nx0,Nx H.length (fun j : Nat => k - j) (fun j F' H'' => j ≤ k ∧ SameX [] H3 H'' ∧ F'.ds = [] ∧ F'.r 1 = ptr p1 0 ∧ F'.r 12 = tv ∧ F'.r 13 = vint (t.tolls.length : Nat) ∧ F'.r 14 = vint (k : Nat) ∧ F'.r 4 = ptr p2 0 ∧ F'.r 41 = w ∧ F'.r 42 = vint (k : Nat) ∧ F'.r 43 = vint (j : Nat)) j] (RetQ prog [.tmp 2] H.length K)) := by
  intro F2 ds r1 r12 r13 r14 r4 r41 r42 r43 r58 nx0
  rw [s53_4,r58]
  refine cnd_false.2 ?_
  rw [r43]
  exact addI (by omega) ⟨j + 1,by dsimp only; omega,.inl ⟨by omega,T5,ds,r1,r12,r13,r14,r4,r41,r42,by show vint _ = vint _; congr 1⟩⟩
 by_cases hs : y.strip = x.strip
 ·refine eqlT hs (cnd_true.2 (offI (ldI (v := vint y.farmer) c5 rfl rfl (offI (ldI (v := vint x.farmer) c3' rfl rfl (eqlF (fun e => ?_) (hold.2 ?_)))))))
  ·rcases hap with h | h
   ·exact h hs.symm
   ·exact h e.symm
  ·exact next (by exact ds) (by exact r1) (by exact r12) (by exact r13) (by exact r14) (by exact r4) (by exact r41) (by exact r42) (by exact r43) (by rfl) _
 ·refine eqlF hs (cnd_false.2 (hold.2 ?_))
  exact next (by exact ds) (by exact r1) (by exact r12) (by exact r13) (by exact r14) (by exact r4) (by exact r41) (by exact r42) (by exact r43) (by rfl) _
theorem headSum_take {l : List Payr} {k : Nat} (hk : k < l.length) : headSum (l.take (k + 1)) = headSum (l.take k) + l[k].heads := by
 unfold headSum
 rw [List.take_succ_eq_append_getElem hk,List.map_append,List.foldl_append]
 rfl
theorem headSum_bd {l : List Payr} (h : ∀ p ∈ l,PayrOk p) : ∀ k,k ≤ l.length → 0 ≤ headSum (l.take k) ∧ headSum (l.take k) ≤ 40 * (k : Int)
 | 0,_ => by simp [headSum]
 | k + 1,hk => by
  have ih := headSum_bd h k (by omega)
  have := h _ (List.getElem_mem (show k < l.length by omega))
  unfold PayrOk at this
  rw [headSum_take (by omega)]
  omega
theorem good38 (hJ : Closed prog main J) {t : Tarf} {sv pv tv : Value} (ht : TarAt H t sv pv tv) (ok : TarOk t) (hK : ∀ H',SameX [] H H' → K (vint 0) H') : Good prog J 38 [.agg ⟨tarCells t sv pv tv⟩] H K := by
 refine g38 hJ fun okh => ?_
 rw [e38]
 have kp := sli_one ht.p
 have ks := sli_one ht.s
 have np := ok.np
 refine qBox (l := tarCells t sv pv tv) ht.one fun H1 p1 e1 S1 c1 l1 => offI ?_
 refine load_part (c := [vint t.days,vint t.stages,sv]) c1 (by simp [tarCells]) rfl (by simp [kn,ks.2.2]; exact ⟨rfl,rfl⟩) ?_
 refine good51 hJ ok.days ok.stages (S1.sli ht.s (by simp)) ok.ns ok.strips fun H2 S2 => neqF rfl (cnd_false.2 ?_)
 have T2 := S1.trans S2
 have d2 := S2.get c1 (by simp)
 refine offI (ldI (v := vint t.pace) d2 rfl rfl (good39 hJ ok.pace (notI (cnd_false.2 (offI (ldI (v := pv) d2 rfl kp.2.2 ?_))))))
 rw [sliE_len (T2.sli ht.p (by simp))]
 refine good52 hJ (by omega) (neqF rfl (cnd_false.2 (offI (ldI (v := pv) d2 rfl kp.2.2 ?_))))
 rw [sliE_len (T2.sli ht.p (by simp))]
 refine l38_1 hJ (fun k : Nat => t.payers.length - k) (fun k F H' => k ≤ t.payers.length ∧ SameX [] H2 H' ∧ F.ds = [] ∧ F.r 1 = ptr p1 0 ∧ F.r 5 = vint (headSum (t.payers.take k)) ∧ F.r 26 = pv ∧ F.r 27 = vint (t.payers.length : Nat) ∧ F.r 28 = vint (k : Nat)) ?_ (s := 0)
  (.inl ⟨by omega,SameX.refl,rfl,rfl,rfl,rfl,rfl,rfl⟩)
 rintro k F H' ⟨hk,S,ds,r1,r5,r26,r27,r28⟩ okc hnc
 have hbd := headSum_bd ok.payers k hk
 rw [s38_1,r1,r5,r26,r27,r28,ds]
 refine lssI (cndI (fun hlt => ?_) fun hge => ?_)
 ·have hkl : k < t.payers.length := by omega
  have po := ok.payers _ (List.getElem_mem hkl)
  unfold PayrOk at po
  have hst := headSum_take hkl
  refine elemE (enc := Payr.cells) (fun _ => rfl) (by decide) ((T2.trans S).sli ht.p (by simp)) hkl fun q => ?_
  generalize t.payers[k] = x at *
  refine qAl fun H3 p3 e3 S3 c3 l3 => qStA (c := x.cells) c3 rfl rfl rfl fun H4 S4 c4 l4 => ?_
  have T4 : SameX [] H2 H4 := (S.trans S3).thru S4 (by have := S.1; simp; omega)
  refine offI (ldI (v := vint x.heads) c4 rfl rfl (good39 hJ po.1 (notI (cnd_false.2 ?_))))
  refine offI (ldI (v := vint x.free) c4 rfl rfl (good39 hJ po.2 (notI (hold.2 ?_))))
  rw [s38_2]
  refine cnd_false.2 (offI (ldI (v := vint x.heads) c4 rfl rfl ?_))
  show aBin prog .add _ (F.r 5) _ _
  rw [r5]
  refine addI (by omega) ?_
  show aBin prog .add _ (F.r 28) _ _
  rw [r28]
  exact addI (by omega) ⟨k + 1,by dsimp only; omega,.inl ⟨by omega,T4,ds,r1,by show vint _ = vint _; rw [hst],r26,r27,by show vint _ = vint _; congr 1⟩⟩
 ·have : k = t.payers.length := by omega
  subst this
  have os := ok.sum
  rw [List.take_of_length_le (Nat.le_refl _)]
  refine good39 hJ os (notI (cnd_false.2 ?_))
  have T := T2.trans S
  refine load_part (c := tarCells t sv pv tv) (S.get d2 (by simp)) (by simp [tarCells]) rfl ht.kn ?_
  refine good53 hJ (ht.same T (by simp)) ok fun H3 S3 => retL_same (by simp [unk]) (hK H3 (T.trans S3))
end
def keyG (a b : Int) : Value := .agg ⟨[vint a,vint b]⟩
theorem teqG (a b c d : Int) : teq prog 10000 116 (keyG a b) (keyG c d) =
 (match some (a == c) with
 | some true => (match some (b == d) with
  | some true => some true
  | some false => some false
  | none => none)
 | some false => some false
 | none => none) := by kernel_rfl
theorem teqG2 (a b c d : Int) : teq prog 10000 116 (keyG a b) (keyG c d) = some (decide (a = c ∧ b = d)) := by
 rw [teqG]
 by_cases e1 : a = c
 ·by_cases e2 : b = d
  ·simp [e1,e2]
  ·rw [beq_eq_false_iff_ne.2 e2,beq_iff_eq.2 e1]
   simp [e2]
 ·rw [beq_eq_false_iff_ne.2 e1]
  simp [e1]
theorem keyG_ok (a b : Int) : kOk prog 10000 116 (keyG a b) = true := by kernel_rfl
theorem keyG_same (a b : Int) : Instr.sameBits 10000 (keyG a b) (keyG a b) = true := by simp [Instr.sameBits,keyG,vint]
theorem mtg_u : prog.underlying 111 = some (.map 116 3) := by kernel_rfl
theorem mtg_z : zv1 prog 3 = some (vint 0) := by kernel_rfl
section
variable {main : Bool} {J : JT} {H : List AObj} {K : Value → List AObj → Prop} {KV : Value → Prop} {HL : List AObj → Prop} {n0 : Nat}
def mapG (at_ N : Int) : List (Value × Value) := if N = 0 then [] else [(keyG at_ 0,vint N)]
theorem lookG1 {bm : Nat} {wr : Bool} {at_ N toll owner : Int} (hb : H[bm]? = some (.map [(keyG at_ 0,vint N)] wr)) (hk : KV (vint (if toll = at_ ∧ owner = 0 then N else 0))) : aLook prog 111 false (.map (some bm)) (keyG toll owner) H KV := by
 unfold aLook
 rw [mtg_u]
 simp only
 rw [hb,mtg_z]
 simp only [mfind]
 rw [teqG2]
 refine ⟨keyG_ok _ _,?_⟩
 by_cases h : toll = at_ ∧ owner = 0
 ·rw [if_pos h] at hk
  rw [decide_eq_true h]
  exact hk
 ·rw [if_neg h] at hk
  rw [decide_eq_false h]
  exact hk
theorem lookG {bm : Nat} {wr : Bool} {at_ N toll owner : Int} (hb : H[bm]? = some (.map (mapG at_ N) wr)) (hk : KV (vint (if toll = at_ ∧ owner = 0 then N else 0))) : aLook prog 111 false (.map (some bm)) (keyG toll owner) H KV := by
 unfold mapG at hb
 split at hb
 ·rename_i h0
  subst h0
  rw [ite_self] at hk
  unfold aLook
  rw [mtg_u]
  simp only
  rw [hb,mtg_z]
  exact ⟨keyG_ok _ _,hk⟩
 ·exact lookG1 hb hk
theorem entG {bm : Nat} {at_ N : Int} (hb : H[bm]? = some (.map (mapG at_ N) true)) (hK : ∀ H' u,SameX [bm] H H' → H'[bm]? = some (.map [(keyG at_ 0,vint N)] true) → H'.length = H.length → K (.tuple ⟨[u,vint 0]⟩) H') : aEnt prog 111 (.map (some bm)) (keyG at_ 0) H K := by
 have hlt := lt_of_get hb
 unfold aEnt
 rw [mtg_u]
 simp only
 rw [hb,mtg_z]
 simp only
 unfold mapG at hb ⊢
 split
 ·rename_i h0
  subst h0
  rw [if_pos rfl] at hb
  refine ⟨keyG_ok _ _,by simp [keyG,VOk,AOk,LOk],keyG_same _ _,by simp,fun j u hj => by simp at hj,fun _ => ?_⟩
  exact hK _ _ ⟨by simp,fun i hi hx => by simp at hx; rw [List.getElem?_set_ne (Ne.symm hx)]⟩ (by rw [List.getElem?_set_self hlt]; rfl) (by simp)
 ·rename_i h0
  rw [if_neg h0] at hb
  refine ⟨keyG_ok _ _,by simp [keyG,VOk,AOk,LOk],keyG_same _ _,fun e he => ?_,fun j u hj => ?_,fun hn => absurd rfl (hn _ (List.mem_singleton.2 rfl))⟩
  ·rw [List.mem_singleton.1 he,teqG2,decide_eq_true ⟨rfl,rfl⟩]
   exact congrArg some (@decide_eq_true _ (Classical.propDecidable _) rfl).symm
  ·cases j with
   | zero =>
    exact hK _ _ SameX.refl hb rfl
   | succ j => simp at hj
theorem enS0 {bm : Nat} {k x y : Value} (hb : H[bm]? = some (.map [(k,y)] true)) (hK : ∀ H',SameX [bm] H H' → H'[bm]? = some (.map [(k,x)] true) → H'.length = H.length → HL H') : aEnS (.map (some bm)) (vint 0) x H HL := by
 have hlt := lt_of_get hb
 unfold aEnS
 simp only [hb]
 refine ⟨0,k,y,rfl,rfl,?_⟩
 exact hK _ ⟨by simp,fun i hi hx => by simp at hx; rw [List.getElem?_set_ne (Ne.symm hx)]⟩ (by rw [List.getElem?_set_self hlt]; rfl) (by simp)
structure DeskAt (H : List AObj) (pd bm : Nat) (t : Tarf) (sv pv tv : Value) (es : List (Value × Value)) : Prop where
 c : ∃ wr,H[pd]? = some (.cells (tarCells t sv pv tv ++ [.map (some bm)]) wr 0)
 m : ∃ wr,H[bm]? = some (.map es wr)
 p : SliE H pv 3 Payr.cells t.payers
 t : SliE H tv 3 Toll.cells t.tolls
theorem DeskAt.same {H H' : List AObj} {pd bm : Nat} {t : Tarf} {sv pv tv : Value} {es : List (Value × Value)} (a : DeskAt H pd bm t sv pv tv es) (S : SameX [] H H') : DeskAt H' pd bm t sv pv tv es :=
 ⟨a.c.imp fun _ h => S.get h (by simp),a.m.imp fun _ h => S.get h (by simp),S.sli a.p (by simp),S.sli a.t (by simp)⟩
def partR (p : Payr) (rate n : Int) : Int := if p.half = true then max 0 (n - p.free) * rate else max 0 (n - p.free) * rate * 2
theorem mul_bdT {a b A B : Int} (h1 : 0 ≤ a ∧ a ≤ A) (h2 : 0 ≤ b ∧ b ≤ B) : 0 ≤ a * b ∧ a * b ≤ A * B :=
 ⟨Int.mul_nonneg h1.1 h2.1,Int.mul_le_mul h1.2 h2.2 h2.1 (by omega)⟩
theorem partR_bd {p : Payr} {rate n : Int} (hp : PayrOk p) (hr : 0 ≤ rate ∧ rate ≤ 500) (hn : 0 ≤ n ∧ n ≤ 1000) : 0 ≤ partR p rate n ∧ partR p rate n ≤ 1000000 := by
 unfold PayrOk at hp
 have h1 := mul_bdT (a := max 0 (n - p.free)) (A := 1000) (by omega) hr
 unfold partR
 split <;> omega
theorem partR_zero {p : Payr} {rate : Int} (hp : PayrOk p) : partR p rate 0 = 0 := by
 unfold PayrOk at hp
 unfold partR
 have : max 0 (0 - p.free) = 0 := by omega
 rw [this]
 simp
theorem good54 (hJ : Closed prog main J) {pd bm : Nat} {t : Tarf} {sv pv tv : Value} {es : List (Value × Value)} (D : DeskAt H pd bm t sv pv tv es) {p : Payr} (hp : PayrOk p) {i : Nat} (hi : i < t.tolls.length) (ok : TarOk t) {n : Int} (hn : 0 ≤ n ∧ n ≤ 1000) (hK : ∀ H',SameX [] H H' → K (vint (partR p t.tolls[i].rate n)) H') : Good prog J 54 [ptr pd 0,.agg ⟨p.cells⟩,vint (i : Nat),vint n] H K := by
 refine g54 hJ fun okh => ?_
 rw [e54]
 have hr := (ok.tolls _ (List.getElem_mem hi)).rate
 have hp' := hp
 unfold PayrOk at hp'
 have kt := sli_one D.t
 refine qBox (l := p.cells) rfl fun H1 p1 e1 S1 c1 l1 => offI (ldI (v := vint p.free) c1 rfl rfl (subI (by omega) (maxI (nilI (offI (offI ?_))))))
 obtain ⟨wr,hc⟩ := D.c
 refine ldI (v := tv) (S1.get hc (by simp)) rfl kt.2.2 ?_
 obtain ⟨b,o,cs,wr',sz,hidx,hb,hos,htk,hkn⟩ := sliE_elem (s := 3) (enc := Toll.cells) (fun _ => rfl) (by decide) (S1.sli D.t (by simp)) hi
 refine hidx _ (offI (ldI (v := vint t.tolls[i].rate) hb (part_get htk rfl) rfl ?_))
 have h1 := mul_bdT (a := max 0 (n - p.free)) (A := 1000) (by omega) hr
 refine mulI (by omega) (offI (ldI (v := .bool p.half) c1 rfl rfl (notI ?_)))
 have := hK H1 S1
 unfold partR at this
 cases hh : p.half with
 | true =>
  rw [hh,if_pos rfl] at this
  exact cnd_false.2 (retL_same (by simp [unk]) this)
 | false =>
  rw [hh,if_neg (by decide)] at this
  exact cnd_true.2 (mulI (by omega) (retL_same (by simp [unk]) this))
def headG (at_ N toll owner : Int) : Int := if toll = at_ ∧ owner = 0 then N else 0
theorem good43 (hJ : Closed prog main J) {pd bm : Nat} {t : Tarf} {sv pv tv : Value} {at_ N : Int} (D : DeskAt H pd bm t sv pv tv (mapG at_ N)) (ok : TarOk t) {o i : Nat} (ho : o < t.payers.length) (hi : i < t.tolls.length) (hn : 0 ≤ N ∧ N ≤ 1000) (hK : ∀ H',SameX [] H H' → K (vint (partR t.payers[o] t.tolls[i].rate (headG at_ N i o))) H') : Good prog J 43 [ptr pd 0,vint (o : Nat),vint (i : Nat)] H K := by
 refine g43 hJ fun okh => ?_
 rw [e43]
 obtain ⟨wr,hc⟩ := D.c
 obtain ⟨wrm,hm⟩ := D.m
 have kp := sli_one D.p
 have hpo := ok.payers _ (List.getElem_mem ho)
 obtain ⟨b,of_,cs,wr',sz,hidx,hb,hos,htk,hkn⟩ := sliE_elem (s := 3) (enc := Payr.cells) (fun _ => rfl) (by decide) D.p ho
 have l1 := lt_of_get hc
 have l2 := lt_of_get hm
 have l3 := lt_of_get hb
 refine ⟨[pd,bm,b],nilI (offI (offI (ldI (v := pv) hc rfl kp.2.2 ⟨by simp [RdOk,ptrBlk],hidx _ (load_part (c := t.payers[o].cells) hb hos htk rfl ⟨by simp [RdOk,ptrBlk],?_⟩)⟩)))⟩
 refine nilI (offI (ldI (v := .map (some bm)) hc rfl rfl ⟨by simp [RdOk,ptrBlk],?_⟩))
 refine ⟨rfl,rfl,Nat.le_succ 1,rfl,rfl,Nat.le_refl 2,fillI ?_⟩
 show aLook prog 111 false (.map (some bm)) (keyG (i : Nat) (o : Nat)) H _
 refine lookG hm ⟨by simp [RdOk,mapBlk],?_⟩
 have hg : 0 ≤ headG at_ N i o ∧ headG at_ N i o ≤ 1000 := by
  unfold headG
  split <;> omega
 exact good54 hJ D hpo hi ok hg fun H1 S1 => ⟨fun x hx => S1.2 x (by simp at hx; rcases hx with rfl | rfl | rfl <;> assumption) (by simp),retL_same (by simp [unk]) (hK H1 S1)⟩
theorem callBz {g : FuncId} {args first : List Value} (hg : Nat.blt g prog.funcs.size = true) (hk : Good prog J g (first ++ args) H K) : callV prog (Good prog J) (.func (.func g) ⟨first⟩ ⟨[]⟩) args H K := by
 show (bif Nat.blt g prog.funcs.size then Good prog J g (first ++ args ++ []) H K else False)
 rw [hg,cond_true,List.append_nil]
 exact hk
def duePR (t : Tarf) (at_ : Nat) (N : Int) (o : Nat) : Int := if o = 0 then partR (t.payers.getD 0 ⟨0,0,false⟩) (t.tolls.getD at_ ⟨0,0,0⟩).rate N else 0
def dueR (t : Tarf) (at_ : Nat) (N : Int) (o : Nat) : Int := (duePR t at_ N o + 199) / 200
theorem duePR_bd {t : Tarf} (ok : TarOk t) {at_ : Nat} (ha : at_ < t.tolls.length) {N : Int} (hn : 0 ≤ N ∧ N ≤ 1000) (o : Nat) : 0 ≤ duePR t at_ N o ∧ duePR t at_ N o ≤ 1000000 := by
 unfold duePR
 split
 ·have h0 : 0 < t.payers.length := by have := ok.np; omega
  rw [List.getD_eq_getElem?_getD,List.getElem?_eq_getElem h0,List.getD_eq_getElem?_getD,List.getElem?_eq_getElem ha]
  exact partR_bd (ok.payers _ (List.getElem_mem h0)) (ok.tolls _ (List.getElem_mem ha)).rate hn
 ·omega
theorem good42 (hJ : Closed prog main J) {pd bm : Nat} {t : Tarf} {sv pv tv : Value} {at_ : Nat} {N : Int} (D : DeskAt H pd bm t sv pv tv (mapG at_ N)) (ok : TarOk t) {o : Nat} (ho : o < t.payers.length) (ha : at_ < t.tolls.length) (hn : 0 ≤ N ∧ N ≤ 1000) (hK : ∀ H',SameX [] H H' → K (vint (duePR t at_ N o)) H') : Good prog J 42 [ptr pd 0,vint (o : Nat),.func (.func 43) ⟨[ptr pd 0]⟩ ⟨[]⟩] H K := by
 refine g42 hJ fun okh => ?_
 rw [e42]
 obtain ⟨wr,hc⟩ := D.c
 have kt := sli_one D.t
 have nt := ok.nt
 have hbd := duePR_bd ok ha hn o
 refine nilI (offI (offI (ldI (v := tv) hc rfl kt.2.2 ?_)))
 rw [sliE_len D.t]
 refine l42_1 hJ (fun k : Nat => t.tolls.length - k) (fun k F H' => k ≤ t.tolls.length ∧ SameX [] H H' ∧ F.ds = [] ∧ F.r 1 = vint (o : Nat) ∧ F.r 2 = .func (.func 43) ⟨[ptr pd 0]⟩ ⟨[]⟩ ∧ F.r 7 = vint (if at_ < k then duePR t at_ N o else 0) ∧ F.r 14 = vint (t.tolls.length : Nat) ∧ F.r 15 = vint (k : Nat)) ?_ (s := 0)
  (.inl ⟨by omega,SameX.refl,rfl,rfl,rfl,rfl,rfl,rfl⟩)
 rintro k F H' ⟨hk,S,ds,r1,r2,r7,r14,r15⟩ okc hnc
 rw [s42_1,r1,r2,r7,r14,r15,ds]
 refine lssI (cndI (fun hlt => ?_) fun hge => ?_)
 ·have hkl : k < t.tolls.length := by omega
  refine callBz (by kernel_rfl) (good43 hJ (D.same S) ok ho hkl hn fun H1 S1 => ?_)
  have hp := ok.payers _ (List.getElem_mem ho)
  have hstep : (if at_ < k then duePR t at_ N o else 0) + partR t.payers[o] t.tolls[k].rate (headG at_ N k o) = (if at_ < k + 1 then duePR t at_ N o else 0) := by
   unfold headG
   by_cases h : ((k : Nat) : Int) = (at_ : Nat) ∧ ((o : Nat) : Int) = 0
   ·rw [if_pos h]
    have h1 : at_ = k := by omega
    have h2 : o = 0 := by omega
    subst h1 h2
    rw [if_neg (by omega),if_pos (by omega)]
    unfold duePR
    rw [if_pos rfl,List.getD_eq_getElem?_getD,List.getElem?_eq_getElem ho,List.getD_eq_getElem?_getD,List.getElem?_eq_getElem ha]
    simp
   ·rw [if_neg h,partR_zero hp]
    by_cases h1 : at_ = k
    ·have h2 : o ≠ 0 := fun e => h ⟨by omega,by omega⟩
     have : duePR t at_ N o = 0 := by unfold duePR; rw [if_neg h2]
     rw [this]
     simp
    ·by_cases h3 : at_ < k
     ·rw [if_pos h3,if_pos (by omega)]
      omega
     ·rw [if_neg h3,if_neg (by omega)]
      rfl
  refine addI (by rw [hstep]; split <;> omega) (addI (by omega) ⟨k + 1,by dsimp only; omega,.inl ⟨by omega,S.trans S1,ds,r1,r2,by show vint _ = vint _; rw [hstep],r14,by show vint _ = vint _; congr 1⟩⟩)
 ·have := hK H' S
  rw [if_pos (by omega)]
  exact retL_same (by simp [unk]) this
theorem good44 (hJ : Closed prog main J) {p : Int} (hp : 0 ≤ p ∧ p ≤ 1000000) (hK : K (vint ((p + 199) / 200)) H) : Good prog J 44 [vint p] H K := by
 refine g44 hJ fun okh => ?_
 rw [e44]
 refine addI (by omega) ?_
 have h1 : Int.tdiv (p + 199) 200 = (p + 199) / 200 := Int.tdiv_eq_ediv_of_nonneg (by omega)
 simp only [aBin,aInt,true_and]
 rw [h1,wrap64 (by omega) (by omega)]
 exact ⟨by omega,retL_same (by simp [unk]) hK⟩
theorem good26 (hJ : Closed prog main J) {pd bm : Nat} {t : Tarf} {sv pv tv : Value} {at_ : Nat} {N : Int} (D : DeskAt H pd bm t sv pv tv (mapG at_ N)) (ok : TarOk t) {o : Nat} (ho : o < t.payers.length) (ha : at_ < t.tolls.length) (hn : 0 ≤ N ∧ N ≤ 1000) (hK : ∀ H',SameX [] H H' → K (vint (dueR t at_ N o)) H') : Good prog J 26 [ptr pd 0,vint (o : Nat)] H K := by
 refine g26 hJ fun okh => ?_
 rw [e26]
 refine ⟨rfl,good42 hJ D ok ho ha hn fun H1 S1 => good44 hJ (duePR_bd ok ha hn o) (retL_same (by simp [unk]) (hK H1 S1))⟩
theorem good40 (hJ : Closed prog main J) {pd bm : Nat} {t : Tarf} {sv pv tv : Value} {es : List (Value × Value)} (D : DeskAt H pd bm t sv pv tv es) (ok : TarOk t) {o : Int} (ho : 0 ≤ o ∧ o < t.payers.length) (hK : K (.bool true) H) : Good prog J 40 [ptr pd 0,vint o] H K := by
 refine g40 hJ fun okh => ?_
 rw [e40]
 obtain ⟨wr,hc⟩ := D.c
 have kp := sli_one D.p
 have np := ok.np
 refine nilI (offI (offI (ldI (v := pv) hc rfl kp.2.2 ?_)))
 rw [sliE_len D.p]
 exact subI (by omega) (good39 hJ (by omega) (retL_same (by simp [unk]) hK))
end
def pasC (at_ : Nat) (n : Int) : List Value := [vint (at_ : Nat),vint 0,vint n]
theorem sum_bd {ns : List Int} (h : ∀ n ∈ ns,1 ≤ n ∧ n ≤ 40) : ∀ k,k ≤ ns.length → 0 ≤ (ns.take k).sum ∧ (ns.take k).sum ≤ 40 * (k : Int)
 | 0,_ => by simp
 | k + 1,hk => by
  have ih := sum_bd h k (by omega)
  have := h _ (List.getElem_mem (show k < ns.length by omega))
  rw [List.take_succ_eq_append_getElem (by omega),List.sum_append]
  simp only [List.sum_cons,List.sum_nil]
  omega
theorem sum_step {ns : List Int} {k : Nat} (hk : k < ns.length) : (ns.take (k + 1)).sum = (ns.take k).sum + ns[k] := by
 rw [List.take_succ_eq_append_getElem hk,List.sum_append]
 simp
section
variable {main : Bool} {J : JT} {H : List AObj} {K : Value → List AObj → Prop} {KV : Value → Prop} {HL : List AObj → Prop} {n0 : Nat}
theorem fillA {c l : List Value} {off s : Nat} {ps : List (Nat × Nat × Value)} {KL : List Value → Prop} (h1 : l.length = s) (h2 : l.all one = true) (ho : off + s ≤ c.length) (hk : aFill (wrAt c off l) ps KL) : aFill c ((off,s,.agg ⟨l⟩) :: ps) KL :=
 ⟨h1,h2,ho,hk⟩
theorem fillV {c : List Value} {off : Nat} {v : Value} {ps : List (Nat × Nat × Value)} {KL : List Value → Prop} (h1 : v.cells = #[v]) (h2 : one v = true) (ho : off + 1 ≤ c.length) (hk : aFill (wrAt c off [v]) ps KL) : aFill c ((off,1,v) :: ps) KL := by
 refine ⟨by rw [h1]; rfl,by rw [h1]; simp [h2],ho,?_⟩
 rw [h1]
 exact hk
structure InG (H : List AObj) (p1 pd bm : Nat) (t : Tarf) (sv pv tv : Value) (at_ : Nat) (N : Int) : Prop where
 c1 : H[p1]? = some (.cells (tarCells t sv pv tv) true 0)
 cd : H[pd]? = some (.cells (tarCells t sv pv tv ++ [.map (some bm)]) true 0)
 cm : H[bm]? = some (.map (mapG at_ N) true)
 p : SliE H pv 3 Payr.cells t.payers
 t : SliE H tv 3 Toll.cells t.tolls
theorem InG.same {H H' : List AObj} {p1 pd bm at_ : Nat} {t : Tarf} {sv pv tv : Value} {N : Int} (a : InG H p1 pd bm t sv pv tv at_ N) (S : SameX [] H H') : InG H' p1 pd bm t sv pv tv at_ N :=
 ⟨S.get a.c1 (by simp),S.get a.cd (by simp),S.get a.cm (by simp),S.sli a.p (by simp),S.sli a.t (by simp)⟩
theorem InG.desk {H : List AObj} {p1 pd bm at_ : Nat} {t : Tarf} {sv pv tv : Value} {N : Int} (a : InG H p1 pd bm t sv pv tv at_ N) : DeskAt H pd bm t sv pv tv (mapG at_ N) := ⟨⟨_,a.cd⟩,⟨_,a.cm⟩,a.p,a.t⟩
theorem sli_map {X : List Nat} {H H' : List AObj} {v : Value} {s n : Nat} {cs : List Value} {bm : Nat} {es : List (Value × Value)} {wr : Bool} (hm : H[bm]? = some (.map es wr)) (S : SameX [bm] H H') (hs : Sli H v s n cs) : Sli H' v s n cs := by
 obtain ⟨base,c,rfl,hk,hh⟩ := hs
 refine ⟨base,c,rfl,hk,hh.imp id ?_⟩
 rintro ⟨b,o,e,h0⟩
 refine ⟨b,o,e,h0.imp id fun ⟨cs,wr2,sz,hb,ht⟩ => ⟨cs,wr2,sz,S.get hb ?_,ht⟩⟩
 intro hm2
 have : b = bm := by simpa using hm2
 subst this
 rw [hm] at hb
 cases hb
theorem good24 (hJ : Closed prog main J) {t : Tarf} {sv pv tv lv : Value} (ht : TarAt H t sv pv tv) (ok : TarOk t) {at_ : Nat} (ha : at_ < t.tolls.length) {ns : List Int} (hl : SliE H lv 3 (pasC at_) ns) (hn : ns.length ≤ 24) (hns : ∀ n ∈ ns,1 ≤ n ∧ n ≤ 40)
  (hK : ∀ H' pd bm,SameX [] H H' → H.length ≤ pd → H.length ≤ bm → DeskAt H' pd bm t sv pv tv (mapG at_ ns.sum) → K (.tuple ⟨[ptr pd 0,vint 0]⟩) H') : Good prog J 24 [.agg ⟨tarCells t sv pv tv⟩,lv] H K := by
 refine g24 hJ fun okh => ?_
 rw [e24]
 have nt := ok.nt
 have np := ok.np
 have kt := sli_one ht.t
 refine qBox (l := tarCells t sv pv tv) ht.one fun H1 p1 e1 S1 c1 l1 => load_part (c := tarCells t sv pv tv) c1 (by simp [tarCells]) rfl ht.kn ?_
 refine good38 hJ (ht.same S1 (by simp)) ok fun H2 S2 => neqF rfl (cnd_false.2 ?_)
 have T2 := S1.trans S2
 rw [sliE_len (T2.sli hl (by simp))]
 refine gtrF (by omega) (cnd_false.2 (load_part (c := tarCells t sv pv tv) (S2.get c1 (by simp)) (by simp [tarCells]) rfl ht.kn ?_))
 refine qNewM fun H3 bm em S3 c3 l3 => fillA (l := tarCells t sv pv tv) rfl ht.one (Nat.le_of_ble_eq_true rfl) (fillV rfl rfl (Nat.le_of_ble_eq_true rfl) (fillI ?_))
 refine qBox (l := tarCells t sv pv tv ++ [.map (some bm)]) (by rw [List.all_append,ht.one]; rfl) fun H4 pd e4 S4 c4 l4 => ?_
 have T4 : SameX [] H2 H4 := S3.trans S4
 have T := T2.trans T4
 rw [sliE_len (T.sli hl (by simp))]
 have l2 := S2.1
 have hp1 := lt_of_get c1
 have b0 := T2.1
 refine l24_1 hJ (fun k : Nat => ns.length - k) (fun k F H' => k ≤ ns.length ∧ SameX [] H H' ∧ Sli H' lv 3 ns.length (ns.flatMap (pasC at_)) ∧ InG H' p1 pd bm t sv pv tv at_ (ns.take k).sum ∧ F.ds = [] ∧ F.r 2 = ptr p1 0 ∧ F.r 7 = ptr pd 0 ∧ F.r 22 = lv ∧ F.r 23 = vint (ns.length : Nat) ∧ F.r 24 = vint (k : Nat)) ?_ (s := 0)
  (.inl ⟨by omega,T,T.sli hl (by simp),⟨T4.get (S2.get c1 (by simp)) (by simp),c4,by simpa [mapG] using S4.get c3 (by simp),T.sli ht.p (by simp),T.sli ht.t (by simp)⟩,rfl,rfl,rfl,rfl,rfl,rfl⟩)
 rintro k F H' ⟨hk,S,hl',I,ds,r2,r7,r22,r23,r24⟩ okc hnc
 rw [s24_1,r2,r7,r22,r23,r24,ds]
 refine lssI (cndI (fun hlt => ?_) fun hge => ?_)
 rotate_left
 ·have : k = ns.length := by omega
  subst this
  have I' := I.desk
  rw [List.take_of_length_le (Nat.le_refl _)] at I'
  exact retL_same (by simp [unk,ptr]) (hK H' pd bm S (by omega) (by omega) I')
 have hkl : k < ns.length := by omega
 have hx := hns _ (List.getElem_mem hkl)
 have hst := sum_step hkl
 have hsb := sum_bd hns k hk
 refine elemE (enc := pasC at_) (fun _ => rfl) (by decide) hl' hkl fun q => ?_
 generalize ns[k] = x at *
 refine qAl fun H5 p5 e5 S5 c5 l5 => qStA (c := pasC at_ x) c5 rfl rfl rfl fun H6 S6 c6 l6 => ?_
 have T6 : SameX [] H' H6 := S5.thru S6 (by simp; omega)
 have I6 := I.same T6
 refine offI (ldI (v := vint (at_ : Nat)) c6 rfl rfl (offI (ldI (v := tv) I6.c1 rfl kt.2.2 ?_)))
 rw [sliE_len I6.t]
 refine subI (by omega) (good39 hJ (by omega) (notI (cnd_false.2 (offI (ldI (v := vint 0) c6 rfl rfl ?_)))))
 refine good40 hJ I6.desk ok (by omega) (notI (hold.2 ?_))
 rw [s24_2]
 refine cnd_false.2 (offI (ldI (v := vint x) c6 rfl rfl (good39 hJ hx (notI (cnd_false.2 ?_)))))
 show aNil (F.r 7) _
 rw [r7]
 refine nilI (offI (ldI (v := .map (some bm)) I6.cd rfl rfl (offI (ldI (v := vint (at_ : Nat)) c6 rfl rfl (offI (ldI (v := vint 0) c6 rfl rfl ?_))))))
 refine fillV rfl rfl (Nat.le_succ 1) (fillV rfl rfl (Nat.le_refl 2) (fillI (offI (ldI (v := vint x) c6 rfl rfl ?_))))
 have q1 := lt_of_get I6.c1
 have q2 := lt_of_get I6.cd
 have n1 : p1 ≠ bm := fun e => by have := I6.c1; rw [e,I6.cm] at this; cases this
 have n2 : pd ≠ bm := fun e => by have := I6.cd; rw [e,I6.cm] at this; cases this
 have hbm : H.length ≤ bm := by omega
 have fin : ∀ {F2 : RG} {H9 : List AObj},SameX [bm] H6 H9 → H9[bm]? = some (.map [(keyG at_ 0,vint ((ns.take k).sum + x))] true) → F2.ds = [] → F2.r 2 = ptr p1 0 → F2.r 7 = ptr pd 0 → F2.r 22 = lv → F2.r 23 = vint (ns.length : Nat) → F2.r 24 = vint ((k : Nat) + 1 : Int) →
   Nx H.length (fun k : Nat => ns.length - k) (fun k F H' => k ≤ ns.length ∧ SameX [] H H' ∧ Sli H' lv 3 ns.length (ns.flatMap (pasC at_)) ∧ InG H' p1 pd bm t sv pv tv at_ (ns.take k).sum ∧ F.ds = [] ∧ F.r 2 = ptr p1 0 ∧ F.r 7 = ptr pd 0 ∧ F.r 22 = lv ∧ F.r 23 = vint (ns.length : Nat) ∧ F.r 24 = vint (k : Nat)) k F2 H9 := by
  intro F2 H9 S9 c9 g0 g2 g7 g22 g23 g24
  have mg : mapG at_ (ns.take (k + 1)).sum = [(keyG at_ 0,vint ((ns.take k).sum + x))] := by
   rw [hst]
   unfold mapG
   rw [if_neg (by omega)]
  refine ⟨k + 1,by dsimp only; omega,.inl ⟨by omega,(S.trans T6).thru S9 (by simp; omega),sli_map (X := []) I6.cm S9 (T6.sli hl' (by simp)),⟨S9.get I6.c1 (by simpa using n1),S9.get I6.cd (by simpa using n2),by rw [mg]; exact c9,sli_map (X := []) I6.cm S9 I6.p,sli_map (X := []) I6.cm S9 I6.t⟩,g0,g2,g7,g22,g23,by rw [g24]; show vint _ = vint _; congr 1⟩⟩
 constructor
 ·show aLook prog 111 false (.map (some bm)) (keyG at_ 0) H6 _
  refine lookG I6.cm ?_
  rw [if_pos ⟨rfl,rfl⟩]
  refine addI (by omega) ?_
  show aEnt prog 111 (.map (some bm)) (keyG at_ 0) H6 _
  refine entG I6.cm fun H7 u S7 c7 l7 => ext1 ⟨⟨by simp [VOk],rfl⟩,enS0 c7 fun H8 S8 c8 l8 => ?_⟩
  show aBin prog .add _ (F.r 24) _ _
  rw [r24]
  exact addI (by omega) (fin (S7.trans S8) c8 ds r2 r7 r22 r23 rfl)
 ·show aEnt prog 111 (.map (some bm)) (keyG at_ 0) H6 _
  refine entG I6.cm fun H7 u S7 c7 l7 => ext1 ?_
  show aLook prog 111 false (.map (some bm)) (keyG at_ 0) H7 _
  refine lookG1 c7 ?_
  rw [if_pos ⟨rfl,rfl⟩]
  refine addI (by omega) ⟨⟨by simp [VOk],rfl⟩,enS0 c7 fun H8 S8 c8 l8 => ?_⟩
  show aBin prog .add _ (F.r 24) _ _
  rw [r24]
  exact addI (by omega) (fin (S7.trans S8) c8 ds r2 r7 r22 r23 rfl)
end
noncomputable def preE : Array Oper := ops41_1.pop
def planE : Plan := .take 0 (.take 1 (.take 2 (.take 3 (.last 4 true (.take 5 .fin)))))
theorem lastE1 : lastOk ops41_1 preE 6 6 (Array.replicate 7 false) (Array.replicate 6 false) = true := by kernel_rfl
theorem planE_ok : planOk prog preE planE 6 (Array.replicate 6 false) none = true := by kernel_rfl
section
variable {main : Bool} {J : JT} {h h' H : List AObj} {K : RG → List AObj → Prop} {f : RG} {B : List Nat}
theorem wE : planW prog (Good prog J) 9 preE (some B) h planE true [] f h K =
(aLoad false 1 (f.r 0) h fun v1 =>
RdOk (some B) (ptrBlk (f.r 0)) ∧ (aLoad false 1 (f.r 1) h fun v2 =>
RdOk (some B) (ptrBlk (f.r 1)) ∧ (aLoad false 1 (f.r 2) h fun v3 =>
RdOk (some B) (ptrBlk (f.r 2)) ∧ (aLoad false 1 (f.r 1) h fun v4 =>
RdOk (some B) (ptrBlk (f.r 1)) ∧ (callV prog (Good prog J) v3 [v4] h fun v5 h6 =>
SameB (some B) h h6 ∧ (aFill [(vint 0),(vint 0)] [(0,1,v2),(1,1,v5)] fun c7 =>
K (RG.p (RG.p (RG.p (RG.p (RG.p (RG.p f 3 v1) 4 v2) 5 v3) 6 v4) 7 v5) 8 (.agg ⟨c7⟩)) h6)))))) := by kernel_rfl
theorem sameE : ∀ (i : Nat) (o : Oper),preE[i]? = some o → ops41_1[i]? = some o ∧ ∀ r,gd preE o r = gd ops41_1 o r := by
 intro i o hi
 have hz : preE.size = 6 := by kernel_rfl
 have hlt : i < 6 := by
  have := (Array.getElem?_eq_some_iff.1 hi).1
  omega
 have hall : (List.range 6).all (fun j => (opGet preE j).guard.isNone) = true := by kernel_rfl
 have hg : (opGet preE i).guard = none := by
  have := List.all_eq_true.1 hall i (List.mem_range.2 hlt)
  simpa using this
 have ho : o = opGet preE i := by
  unfold opGet
  rw [Array.getD_eq_getD_getElem?,hi]
  rfl
 refine ⟨?_,fun r => ?_⟩
 ·unfold preE at hi
  rw [Array.getElem?_pop] at hi
  split at hi
  ·exact hi
  ·cases hi
 ·unfold gd
  rw [ho,hg]
def shareV (i : Nat) (x : Int) : Value := .agg ⟨[vint (i : Nat),vint x]⟩
def coinsV (pd : Nat) : Value := .func (.func 26) ⟨[ptr pd 0]⟩ ⟨[]⟩
theorem workE {ρ : Env} {FC : Frm} {w : World} {ft : Foot} (R : HRel ρ h FC w ft) {b0 b1 b2 c i pd bm at_ : Nat} {wr0 wr1 wr2 : Bool} {t : Tarf} {sv pv tv : Value} {N : Int}
  (h0 : h[b0]? = some (.cells [.chan (some c)] wr0 0)) (h1 : h[b1]? = some (.cells [vint (i : Nat)] wr1 0)) (h2 : h[b2]? = some (.cells [coinsV pd] wr2 0))
  (D : DeskAt h pd bm t sv pv tv (mapG at_ N)) (ok : TarOk t) (hi : i < t.payers.length) (ha : at_ < t.tolls.length) (hn : 0 ≤ N ∧ N ≤ 1000)
  {T : Crew} (hlt : c < h.length) (hcT : ρ.blk c = T.c) {k : Nat} (hphi : T.phi k (shareV i (dueR t at_ N i))) :
  Toward prog (AtSend prog T.c (T.phi k)) (G (Frame.enter prog 41 ⟨[ptr b0 0,ptr b1 0,ptr b2 0].map (ren ρ)⟩ .deferred) [base0 prog]) w ft := by
 have hJ := Toward.closed prog (AtSend prog T.c (T.phi k))
 have vp : ∀ {b : Nat} {x : AObj},h[b]? = some x → VOk h.length (ptr b 0) := fun hb => by
  have := lt_of_get hb
  simp [VOk,ptr,AddrOk,this]
 refine At.enter (fn := f41) (args := [ptr b0 0,ptr b1 0,ptr b2 0]) at41 body41 (Nat.le_of_ble_eq_true rfl) ?_ R ?_
 ·intro v hv
  simp only [List.mem_cons,List.not_mem_nil,or_false] at hv
  rcases hv with rfl | rfl | rfl
  ·exact vp h0
  ·exact vp h1
  ·exact vp h2
 have e : codeOf f41 = .region 0 ops41_1 true := r41_1
 rw [e]
 have q0 := lt_of_get h0
 have q1 := lt_of_get h1
 have q2 := lt_of_get h2
 refine At.draw hJ mixed (by simp) sameE (n := 6) z41_1 (by kernel_rfl) lastE1 planE_ok (B := some [b0,b1,b2]) (K := fun f h' => SameX [] h h' ∧ f.ds = [] ∧ f.r 3 = .chan (some c) ∧ f.r 8 = shareV i (dueR t at_ N i)) ?_ (by simp) ?_
 ·rw [show f41.ntmps = 9 from by kernel_rfl,wE]
  refine ldI h0 rfl rfl ⟨by simp [RdOk,ptrBlk,regs],?_⟩
  refine ldI h1 rfl rfl ⟨by simp [RdOk,ptrBlk,regs],?_⟩
  refine ldI h2 rfl rfl ⟨by simp [RdOk,ptrBlk,regs],?_⟩
  refine ldI h1 rfl rfl ⟨by simp [RdOk,ptrBlk,regs],?_⟩
  refine callBz (by kernel_rfl) (good26 hJ D ok hi ha hn fun H1 S1 => ⟨fun x hx => S1.2 x (by simp at hx; rcases hx with rfl | rfl | rfl <;> assumption) (by simp),?_⟩)
  exact ⟨rfl,rfl,by decide,rfl,rfl,Nat.le_refl 2,S1,rfl,rfl,rfl⟩
 ·rintro f h' ⟨S1,ds,r3,r8⟩
  intro a ρ' w' ft' A H' hu hm
  obtain ⟨o1,o2,o3,o4,o5⟩ := o41_1_6 (J := fun _ _ _ => True)
  refine send_stop rfl rfl rfl o1 (o4 _) A ds o5 o2 r3 (by rw [(hu c hlt).1]; exact hcT) (v := shareV i (dueR t at_ N i)) r8 (by simp [shareV,unk]) (by
   have : ren ρ' (shareV i (dueR t at_ N i)) = shareV i (dueR t at_ N i) := by simp [shareV,ren,renA,renL]
   rw [this]
   exact hphi) at41 (by kernel_rfl) (base_catches _)
end
theorem shapeE : subC [1,1] (codeOf f25) = .seq (.seq (subC [1,1,0,0] (codeOf f25)) (.block 0 (.loop (subC [1,1,0,1,0,0] (codeOf f25))))) (subC [1,1,1] (codeOf f25)) := by kernel_rfl
theorem roundE : subC [1,1,0,1,0,0] (codeOf f25) = .seq (subC [1,1,0,1,0,0,0] (codeOf f25)) (.seq (subC [1,1,0,1,0,0,1,0] (codeOf f25)) (.seq (.block 1 (.seq (subC [1,1,0,1,0,0,1,1,0,0,0] (codeOf f25)) (.region 5 ops25_1 false))) (subC [1,1,0,1,0,0,1,1,1] (codeOf f25)))) := by kernel_rfl
theorem shapeE2 : subC [1,1,1] (codeOf f25) = .seq (subC [1,1,1,0] (codeOf f25)) (subC [1,1,1,1] (codeOf f25)) := by kernel_rfl
theorem shapeE3 : subC [1,1,1,1] (codeOf f25) = .seq (.seq (subC [1,1,1,1,0,0] (codeOf f25)) (.block 2 (.loop (subC [1,1,1,1,0,1,0,0] (codeOf f25))))) (subC [1,1,1,1,1] (codeOf f25)) := by kernel_rfl
theorem roundE2 : subC [1,1,1,1,0,1,0,0] (codeOf f25) = .seq (subC [1,1,1,1,0,1,0,0,0] (codeOf f25)) (.seq (subC [1,1,1,1,0,1,0,0,1,0] (codeOf f25)) (.seq (.block 3 (.seq (.region 10 ops25_2 false) (subC [1,1,1,1,0,1,0,0,1,1,0,0,1] (codeOf f25)))) (subC [1,1,1,1,0,1,0,0,1,1,1] (codeOf f25)))) := by kernel_rfl
def RE (pd p3 p5 n i : Nat) : RG := (((((RG.mk (fun _ => unk) []).p 0 (ptr pd 0)).p 3 (ptr p3 0)).p 5 (ptr p5 0)).p 15 (vint (n : Nat))).p 16 (vint (i : Nat))
theorem rE_cases (pd p3 p5 n i t : Nat) : (RE pd p3 p5 n i).r t = unk ∨ t = 0 ∨ t = 3 ∨ t = 5 ∨ t = 15 ∨ t = 16 := by
 by_cases h : t = 0 ∨ t = 3 ∨ t = 5 ∨ t = 15 ∨ t = 16
 ·exact .inr h
 ·refine .inl ?_
  simp only [not_or] at h
  obtain ⟨h1,h2,h3,h4,h5⟩ := h
  simp [RE,RG.p,beq_eq_false_iff_ne.2 h1,beq_eq_false_iff_ne.2 h2,beq_eq_false_iff_ne.2 h3,beq_eq_false_iff_ne.2 h4,beq_eq_false_iff_ne.2 h5]
theorem At.weak {J : JT} {N m : Nat} {b : FB} {cs : List Frame} {FC : Frm} {ρ0 : Env} {k : List Item} {f f' : RG} {h : List AObj} (ok : heapOk h) (hf : ∀ t,f'.r t = unk ∨ (f'.r t = f.r t ∧ VOk h.length (f'.r t))) (hd : f'.ds = f.ds) (hds : f.ds = []) (hm' : m ≤ h.length) (h' : At J N b cs FC ρ0 m k f' h) : At J N b cs FC ρ0 m k f h := by
 have := At.drop (g := []) (f := f) ok hf hd (by rw [hds]; simp) hm' h'
 simpa using this
theorem frz_at {h : List AObj} {i : Nat} {c : List Value} {wr : Bool} {sz : Nat} (hb : h[i]? = some (.cells c wr sz)) : (frz h)[i]? = some (.cells c false sz) := by
 unfold frz
 rw [List.getElem?_map,hb]
 rfl
theorem frz_sli {h : List AObj} {v : Value} {s n : Nat} {cs : List Value} (hs : Sli h v s n cs) : Sli (frz h) v s n cs := by
 obtain ⟨base,c,rfl,hk,hh⟩ := hs
 refine ⟨base,c,rfl,hk,hh.imp id ?_⟩
 rintro ⟨b,o,e,h0⟩
 exact ⟨b,o,e,h0.imp id fun ⟨cs,wr,sz,hb,ht⟩ => ⟨cs,false,sz,frz_at hb,ht⟩⟩
theorem one_more {h H : List AObj} {x : AObj} (S : SameX [] h H) (hl : H.length = h.length + 1) (hx : H[h.length]? = some x) : H = h ++ [x] := by
 obtain ⟨g,rfl⟩ := S.app0 (by simp)
 rw [List.length_append] at hl
 have h2 : g.length = 1 := by omega
 obtain ⟨a,rfl⟩ : ∃ a,g = [a] := by
  cases g with
  | nil => simp at h2
  | cons a g => cases g with
   | nil => exact ⟨a,rfl⟩
   | cons b g => simp at h2
 rw [List.getElem?_append_right (Nat.le_refl _)] at hx
 simp at hx
 rw [hx]
structure LentE (hz : List AObj) (p3 p5 pc pd bm : Nat) (t : Tarf) (sv pv tv : Value) (at_ : Nat) (N : Int) : Prop where
 ok : heapOk hz
 nw : ∀ x ∈ hz,x.wrt = false
 nc : ∀ cap,.chan cap ∉ hz
 h3 : hz[p3]? = some (.cells [coinsV pd] false 0)
 h5 : hz[p5]? = some (.cells [.chan (some pc)] false 0)
 hpc : pc < hz.length
 D : DeskAt hz pd bm t sv pv tv (mapG at_ N)
 tk : TarOk t
 ha : at_ < t.tolls.length
 hn : 0 ≤ N ∧ N ≤ 1000
theorem LentE.regs {hz : List AObj} {p3 p5 pc pd bm at_ n i : Nat} {t : Tarf} {sv pv tv : Value} {N : Int} (L : LentE hz p3 p5 pc pd bm t sv pv tv at_ N) {f : RG}
  (e0 : f.r 0 = ptr pd 0) (e3 : f.r 3 = ptr p3 0) (e5 : f.r 5 = ptr p5 0) (ez15 : f.r 15 = vint (n : Nat)) (ez16 : f.r 16 = vint (i : Nat)) :
  ∀ t,(RE pd p3 p5 n i).r t = unk ∨ ((RE pd p3 p5 n i).r t = f.r t ∧ VOk hz.length ((RE pd p3 p5 n i).r t)) := by
 have vp : ∀ {b : Nat} {x : AObj},hz[b]? = some x → VOk hz.length (ptr b 0) := fun hb => by
  have := lt_of_get hb
  simp [VOk,ptr,AddrOk,this]
 obtain ⟨wr,hc⟩ := L.D.c
 intro t
 rcases rE_cases pd p3 p5 n i t with h | rfl | rfl | rfl | rfl | rfl
 ·exact .inl h
 ·exact .inr ⟨e0.symm,vp hc⟩
 ·exact .inr ⟨e3.symm,vp L.h3⟩
 ·exact .inr ⟨e5.symm,vp L.h5⟩
 ·refine .inr ⟨ez15.symm,?_⟩
  show VOk hz.length (vint (n : Nat))
  simp [VOk]
 ·refine .inr ⟨ez16.symm,?_⟩
  show VOk hz.length (vint (i : Nat))
  simp [VOk]
def phiE (t : Tarf) (at_ : Nat) (N : Int) (k : Nat) (v : Value) : Prop := v = shareV k (dueR t at_ N k)
def crewE (ch : Nat → Option (Nat × Array Value × Bool)) (c : Nat) (t : Tarf) (at_ : Nat) (N : Int) (pend : List Nat) : Crew := ⟨ch,c,pend,phiE t at_ N⟩
theorem deskA {H g : List AObj} {pd bm : Nat} {t : Tarf} {sv pv tv : Value} {es : List (Value × Value)} (a : DeskAt H pd bm t sv pv tv es) : DeskAt (H ++ g) pd bm t sv pv tv es := a.same (SameX.refl.app)
theorem frz_map {h : List AObj} {i : Nat} {es : List (Value × Value)} {wr : Bool} (hb : h[i]? = some (.map es wr)) : (frz h)[i]? = some (.map es false) := by
 unfold frz
 rw [List.getElem?_map,hb]
 rfl
theorem deskF {H : List AObj} {pd bm : Nat} {t : Tarf} {sv pv tv : Value} {es : List (Value × Value)} (a : DeskAt H pd bm t sv pv tv es) : DeskAt (frz H) pd bm t sv pv tv es :=
 ⟨a.c.elim fun _ h => ⟨false,frz_at h⟩,a.m.elim fun _ h => ⟨false,frz_map h⟩,frz_sli a.p,frz_sli a.t⟩
section
variable {ch : Nat → Option (Nat × Array Value × Bool)} {W0 : World} {Post : Value → World → Prop} {b : FB} {fs : List Frame} {FC : Frm} {ρ0 : Env} {m : Nat} {k2 k3 : List Item} {hz : List AObj} {p3 p5 pc pd bm at_ : Nat} {t : Tarf} {sv pv tv : Value} {N : Int}
theorem hireE (hk : b.kind ≠ .early) (hown : ch (ρ0.blk pc) = some (0,#[],false)) (L : LentE hz p3 p5 pc pd bm t sv pv tv at_ N) (hm : m ≤ hz.length) (hpm : pc < m) (hw : ∀ b,¬ FC.wr b)
  (hdone : At (JC prog W0 Post (crewE ch (ρ0.blk pc) t at_ N (List.range t.payers.length))) 46 b fs FC ρ0 m k2 (RE pd p3 p5 t.payers.length t.payers.length) hz) :
  ∀ (d i : Nat),d = t.payers.length - i → i ≤ t.payers.length → At (JC prog W0 Post (crewE ch (ρ0.blk pc) t at_ N (List.range i))) 46 b fs FC ρ0 m (.code (subC [1,1,0,1,0,0] (codeOf f25)) :: .inLoop (subC [1,1,0,1,0,0] (codeOf f25)) :: .inBlock 0 :: k2) (RE pd p3 p5 t.payers.length i) hz := by
 intro d
 have np := L.tk.np
 induction d with
 | zero =>
  intro i hd hi
  have hin : i = t.payers.length := by omega
  subst hin
  have hJ := JC.closed prog W0 Post (crewE ch (ρ0.blk pc) t at_ N (List.range t.payers.length))
  rw [roundE]
  refine At.seq hJ (At.piece (Q := fun e f' h' => e = .normal ∧ f' = (RE pd p3 p5 t.payers.length t.payers.length).p 17 (.bool false) ∧ h' = hz) rfl hk (W_sound hJ mixed _ ?_) hm (Nat.le_refl _) ?_)
  ·rw [q25_2]
   refine lssI ⟨rfl,?_,rfl⟩
   simp
  rintro e f' h' ⟨rfl,rfl,rfl⟩
  refine .inl ⟨rfl,At.seq hJ (At.piece (Q := fun e f' h1 => e = .exit 0 ∧ f' = (RE pd p3 p5 t.payers.length t.payers.length).p 17 (.bool false) ∧ h1 = h') rfl hk (W_sound hJ mixed _ ?_) hm (Nat.le_refl _) ?_)⟩
  ·rw [q25_3]
   exact cnd_false.2 ⟨rfl,rfl,rfl⟩
  rintro e f1 h1 ⟨rfl,rfl,rfl⟩
  refine .inr ⟨0,k2,rfl,by simp [exitTo],?_⟩
  exact At.weak L.ok (L.regs rfl rfl rfl rfl rfl) rfl rfl hm hdone
 | succ d ih =>
  intro i hd hi
  have hil : i < t.payers.length := by omega
  have hJ := JC.closed prog W0 Post (crewE ch (ρ0.blk pc) t at_ N (List.range i))
  have hJ2 := JC.closed prog W0 Post (crewE ch (ρ0.blk pc) t at_ N (List.range i ++ [i]))
  rw [roundE]
  refine At.seq hJ (At.piece (Q := fun e f' h' => e = .normal ∧ f' = (RE pd p3 p5 t.payers.length i).p 17 (.bool true) ∧ h' = hz) rfl hk (W_sound hJ mixed _ ?_) hm (Nat.le_refl _) ?_)
  ·rw [q25_2]
   refine lssI ⟨rfl,?_,rfl⟩
   have : ((i : Int) < (t.payers.length : Int)) := by omega
   simp [this]
  rintro e f' h' ⟨rfl,rfl,rfl⟩
  refine .inl ⟨rfl,At.seq hJ (At.piece (Q := fun e f' h1 => e = .normal ∧ f' = (RE pd p3 p5 t.payers.length i).p 17 (.bool true) ∧ h1 = h') rfl hk (W_sound hJ mixed _ ?_) hm (Nat.le_refl _) ?_)⟩
  ·rw [q25_3]
   exact cnd_true.2 ⟨rfl,rfl,rfl⟩
  rintro e f1 hz ⟨rfl,rfl,rfl⟩
  refine .inl ⟨rfl,At.seq hJ (At.block hJ (At.seq hJ (At.piece (Q := fun e f' h' => e = .normal ∧ f'.ds = [] ∧ (f'.r 0 = ptr pd 0 ∧ f'.r 3 = ptr p3 0 ∧ f'.r 5 = ptr p5 0 ∧ f'.r 15 = vint (t.payers.length : Nat) ∧ f'.r 16 = vint (i : Nat)) ∧ f'.r 6 = ptr hz.length 0 ∧ h' = hz ++ [.cells [vint (i : Nat)] true 0]) rfl hk (W_sound hJ mixed _ ?_) hm (Nat.le_refl _) ?_)))⟩
  ·rw [q25_4]
   refine qAl fun H1 p13 e1 S1 c1 l1 => ?_
   refine qSt c1 (by simp) rfl rfl fun H3 S3 c3 l3 => ?_
   have SS : SameX [] hz H3 := S1.thru S3 (by intro x hx; rw [List.mem_singleton.1 hx]; exact .inr (by omega))
   subst e1
   exact ⟨rfl,rfl,⟨rfl,rfl,rfl,rfl,rfl⟩,rfl,one_more SS (by omega) c3⟩
  rintro e f h' ⟨rfl,ds,⟨r0,r3,r5,r15,r16⟩,r6,rfl⟩
  refine .inl ⟨rfl,At.region hJ ?_⟩
  rw [show List.range ops25_1.size = [0,1] from by rw [z25_1]; rfl]
  obtain ⟨o1,o2,o3,o4,o5⟩ := o25_1_0 (J := JC prog W0 Post (crewE ch (ρ0.blk pc) t at_ N (List.range i)))
  obtain ⟨x1,x2,x3,x4,x5⟩ := o25_1_1 (J := JC prog W0 Post (crewE ch (ρ0.blk pc) t at_ N (List.range i)))
  refine At.op hJ hk o1 o3 (o4 _) ?_
  rw [o5,r5,r6,r3,o2]
  refine ⟨rfl,fun _ => ?_⟩
  have fz : ∀ {q : Nat} {l : List Value} {wr : Bool} {sz : Nat},(hz ++ [.cells [vint (i : Nat)] true 0])[q]? = some (.cells l wr sz) → (frz (hz ++ [.cells [vint (i : Nat)] true 0]))[q]? = some (.cells l false sz) := frz_at
  have ga : (hz ++ [.cells [vint (i : Nat)] true 0])[hz.length]? = some (.cells [vint (i : Nat)] true 0) := by simp
  refine At.go hk x1 (x4 _) x5 x2 (g := 41) (cap := [ptr p5 0,ptr hz.length 0,ptr p3 0]) rfl (by kernel_rfl) (k := i) (by show i ∉ List.range i; simp) hown rfl L.nw hw L.ok hm (fun ρ w ft R hu => ?_) (fun cap hcm => ?_) (f' := RE pd p3 p5 t.payers.length i) (L.regs r0 r3 r5 r15 r16) ds.symm (by show ∀ x ∈ f.ds,_; rw [ds]; simp) ?_
  ·exact workE (T := crewE ch (ρ0.blk pc) t at_ N (List.range i)) R (fz (get_app L.h5)) (fz ga) (fz (get_app L.h3)) (deskF (deskA L.D)) L.tk hil L.ha L.hn (by rw [frz_len,List.length_append]; have := L.hpc; omega) (hu pc hpm).1 (k := i) rfl
  ·rcases List.mem_append.1 hcm with y | y
   ·exact L.nc cap y
   ·simp at y
  ·refine At.ops_nil hJ2 (At.inBlock hJ2 (At.piece (Q := fun e f' h' => e = .normal ∧ f' = ((RE pd p3 p5 t.payers.length i).p 20 (vint (i + 1 : Nat))).p 16 (vint (i + 1 : Nat)) ∧ h' = hz) rfl hk (W_sound hJ2 mixed _ ?_) hm (Nat.le_refl _) ?_))
   ·rw [q25_5]
    refine addI (by omega) ⟨rfl,?_,rfl⟩
    rfl
   rintro e f1 h1 ⟨rfl,rfl,rfl⟩
   refine .inl ⟨rfl,At.inLoop hJ2 ?_⟩
   have := ih (i + 1) (by omega) (by omega)
   rw [List.range_succ] at this
   exact At.weak L.ok (L.regs rfl rfl rfl rfl rfl) rfl rfl hm this
end
def QE (wv : Value) (p5 n j : Nat) : RG := ((((RG.mk (fun _ => unk) []).p 5 (ptr p5 0)).p 7 wv).p 33 (vint (n : Nat))).p 34 (vint (j : Nat))
theorem qE_cases (wv : Value) (p5 n j t : Nat) : (QE wv p5 n j).r t = unk ∨ t = 5 ∨ t = 7 ∨ t = 33 ∨ t = 34 := by
 by_cases h : t = 5 ∨ t = 7 ∨ t = 33 ∨ t = 34
 ·exact .inr h
 ·refine .inl ?_
  simp only [not_or] at h
  obtain ⟨h1,h2,h3,h4⟩ := h
  simp [QE,RG.p,beq_eq_false_iff_ne.2 h1,beq_eq_false_iff_ne.2 h2,beq_eq_false_iff_ne.2 h3,beq_eq_false_iff_ne.2 h4]
theorem At.forget {J : JT} {N m : Nat} {b : FB} {cs : List Frame} {FC : Frm} {ρ0 : Env} {k : List Item} {f f' : RG} {h : List AObj} (hf : ∀ t,f'.r t = unk ∨ f'.r t = f.r t) (hd : f'.ds = f.ds) (h' : At J N b cs FC ρ0 m k f' h) : At J N b cs FC ρ0 m k f h := by
 intro a ρ w ft A H hu hm
 refine h' a ρ w ft ⟨fun t => ?_,A.size,by rw [hd]; exact A.defers,by rw [hd]; exact A.ok⟩ H hu hm
 rcases hf t with e | e
 ·exact .inl e
 ·rw [e]
  exact A.regs t
theorem qE_forget {wv : Value} {p5 n j : Nat} {f : RG} (e5 : f.r 5 = ptr p5 0) (e7 : f.r 7 = wv) (ez33 : f.r 33 = vint (n : Nat)) (ez34 : f.r 34 = vint (j : Nat)) : ∀ t,(QE wv p5 n j).r t = unk ∨ (QE wv p5 n j).r t = f.r t := by
 intro t
 rcases qE_cases wv p5 n j t with h | rfl | rfl | rfl | rfl
 ·exact .inl h
 ·exact .inr e5.symm
 ·exact .inr e7.symm
 ·exact .inr ez33.symm
 ·exact .inr ez34.symm
structure Came (hz H : List AObj) (ws : List Value) : Prop where
 S : SameX [] hz H
 at_ : H[hz.length]? = some (.cells ws true 0)
 wr : ∀ i o,hz.length ≤ i → H[i]? = some o → o.wrt = true
theorem Came.more {hz H H' : List AObj} {ws ws' : List Value} {p : Nat} {l : List Value} (C : Came hz H ws) (hp : p = H.length) (S : SameX [] H H') (hl : H'.length = p + 1) (hat : H'[p]? = some (.cells l true 0)) : Came hz H' ws := by
 refine ⟨C.S.trans S,S.get C.at_ (by simp),fun i o hi ho => ?_⟩
 by_cases h : i < H.length
 ·rw [S.2 i h (by simp)] at ho
  exact C.wr i o hi ho
 ·have := lt_of_get ho
  have : i = p := by omega
  subst this
  rw [hat] at ho
  cases ho
  rfl
theorem Came.put {hz H H' : List AObj} {ws ws' l : List Value} {p : Nat} {sz : Nat} (C : Came hz H ws) (hp : hz.length ≤ p) (S : SameX [p] H H') (hl : H'.length = H.length) (hat : H'[p]? = some (.cells l true sz)) (hw : H'[hz.length]? = some (.cells ws' true 0)) : Came hz H' ws' := by
 refine ⟨C.S.thru S (by intro x hx; rw [List.mem_singleton.1 hx]; exact .inr hp),hw,fun i o hi ho => ?_⟩
 by_cases h : i = p
 ·subst h
  rw [hat] at ho
  cases ho
  rfl
 ·have := lt_of_get ho
  rw [S.2 i (by omega) (by simpa using h)] at ho
  exact C.wr i o hi ho
def dueL (t : Tarf) (at_ : Nat) (N : Int) : List Value := (List.range t.payers.length).map fun o => vint (dueR t at_ N o)
section
variable {ch : Nat → Option (Nat × Array Value × Bool)} {W0 : World} {Post : Value → World → Prop} {b : FB} {fs : List Frame} {FC : Frm} {ρ0 : Env} {m : Nat} {k3 : List Item} {hz : List AObj} {p3 p5 pc pd bm at_ : Nat} {t : Tarf} {sv pv tv : Value} {N : Int}
theorem recvE (hk : b.kind ≠ .early) (L : LentE hz p3 p5 pc pd bm t sv pv tv at_ N) (hm : m ≤ hz.length) (hpm : pc < m) {wv : Value} (hwv : wv = .slice (some ⟨hz.length,0,none⟩) t.payers.length t.payers.length)
  (hdone : ∀ H,Came hz H (dueL t at_ N) → At (JC prog W0 Post (crewE ch (ρ0.blk pc) t at_ N [])) 46 b fs FC ρ0 m k3 (QE wv p5 t.payers.length t.payers.length) H) :
  ∀ (d j : Nat) (pend : List Nat) (ws : List Value) (H : List AObj),d = t.payers.length - j → pend.length + j = t.payers.length → pend.Nodup → (∀ k ∈ pend,k < t.payers.length) → ws.length = t.payers.length → (∀ k,k < t.payers.length → k ∉ pend → ws[k]? = some (vint (dueR t at_ N k))) → Came hz H ws →
   At (JC prog W0 Post (crewE ch (ρ0.blk pc) t at_ N pend)) 46 b fs FC ρ0 m (.code (subC [1,1,1,1,0,1,0,0] (codeOf f25)) :: .inLoop (subC [1,1,1,1,0,1,0,0] (codeOf f25)) :: .inBlock 2 :: k3) (QE wv p5 t.payers.length j) H := by
 intro d
 induction d with
 | zero =>
  intro j pend ws H hd hpj hnd hlt hwl hws C
  have hp : pend = [] := List.length_eq_zero_iff.1 (by omega)
  subst hp
  have hj : j = t.payers.length := by simpa using hpj
  subst hj
  have hmH : m ≤ H.length := Nat.le_trans hm C.S.1
  have hJ := JC.closed prog W0 Post (crewE ch (ρ0.blk pc) t at_ N [])
  rw [roundE2]
  refine At.seq hJ (At.piece (Q := fun e f' h' => e = .normal ∧ f' = (QE wv p5 t.payers.length t.payers.length).p 35 (.bool false) ∧ h' = H) rfl hk (W_sound hJ mixed _ ?_) hmH (Nat.le_refl _) ?_)
  ·rw [q25_8]
   refine lssI ⟨rfl,?_,rfl⟩
   simp
  rintro e f' h' ⟨rfl,rfl,rfl⟩
  refine .inl ⟨rfl,At.seq hJ (At.piece (Q := fun e f' h1 => e = .exit 2 ∧ f' = (QE wv p5 t.payers.length t.payers.length).p 35 (.bool false) ∧ h1 = h') rfl hk (W_sound hJ mixed _ ?_) hmH (Nat.le_refl _) ?_)⟩
  ·rw [q25_9]
   exact cnd_false.2 ⟨rfl,rfl,rfl⟩
  rintro e f1 h1 ⟨rfl,rfl,rfl⟩
  refine .inr ⟨2,k3,rfl,by simp [exitTo],?_⟩
  refine At.forget (qE_forget rfl rfl rfl rfl) rfl (hdone h1 ?_)
  have : ws = dueL t at_ N := by
   apply List.ext_getElem?
   intro k
   by_cases hk : k < t.payers.length
   ·rw [hws k hk (by simp)]
    unfold dueL
    rw [List.getElem?_map,List.getElem?_range hk]
    rfl
   ·rw [List.getElem?_eq_none (by omega),List.getElem?_eq_none (by unfold dueL; simp; omega)]
  rw [← this]
  exact C
 | succ d ih =>
  intro j pend ws H hd hpj hnd hlt hwl hws C
  have hmH : m ≤ H.length := Nat.le_trans hm C.S.1
  have hJ := JC.closed prog W0 Post (crewE ch (ρ0.blk pc) t at_ N pend)
  rw [roundE2]
  refine At.seq hJ (At.piece (Q := fun e f' h' => e = .normal ∧ f' = (QE wv p5 t.payers.length j).p 35 (.bool true) ∧ h' = H) rfl hk (W_sound hJ mixed _ ?_) hmH (Nat.le_refl _) ?_)
  ·rw [q25_8]
   refine lssI ⟨rfl,?_,rfl⟩
   have : ((j : Int) < (t.payers.length : Int)) := by omega
   simp [this]
  rintro e f' h' ⟨rfl,rfl,rfl⟩
  refine .inl ⟨rfl,At.seq hJ (At.piece (Q := fun e f' h1 => e = .normal ∧ f' = (QE wv p5 t.payers.length j).p 35 (.bool true) ∧ h1 = h') rfl hk (W_sound hJ mixed _ ?_) hmH (Nat.le_refl _) ?_)⟩
  ·rw [q25_9]
   exact cnd_true.2 ⟨rfl,rfl,rfl⟩
  rintro e f1 H ⟨rfl,rfl,rfl⟩
  refine .inl ⟨rfl,At.seq hJ (At.block hJ (At.seq hJ (At.region hJ ?_)))⟩
  rw [show List.range ops25_2.size = [0,1,2,3] from by rw [z25_2]; rfl]
  obtain ⟨o1,o2,o3,o4,o5⟩ := o25_2_0 (J := JC prog W0 Post (crewE ch (ρ0.blk pc) t at_ N pend))
  obtain ⟨x1,x2,x3,x4,x5⟩ := o25_2_1 (J := JC prog W0 Post (crewE ch (ρ0.blk pc) t at_ N pend))
  refine At.op hJ hk o1 o3 (o4 _) ?_
  rw [o5,o2]
  refine ldI (C.S.get L.h5 (by simp)) rfl rfl fun _ => ?_
  have hpne : pend ≠ [] := by rintro rfl; simp at hpj; omega
  refine At.recv hk x1 x3 (x4 _) x5 (dir := .both) (e := 119) (by kernel_rfl) (ie := (prog.info? 119).getD default) (by kernel_rfl) (z := .agg ⟨[vint 0,vint 0]⟩) (by kernel_rfl) (c := pc) rfl hpm rfl hpne fun k hkp v hv => ?_
  have hv : v = shareV k (dueR t at_ N k) := hv
  subst hv
  refine ⟨_,rfl,by simp [shareV,VOk,AOk,LOk],?_⟩
  have hJ2 := JC.closed prog W0 Post (crewE ch (ρ0.blk pc) t at_ N (pend.erase k))
  obtain ⟨y1,y2,y3,y4,y5⟩ := o25_2_2 (J := JC prog W0 Post (crewE ch (ρ0.blk pc) t at_ N (pend.erase k)))
  obtain ⟨z1,z2,z3,z4,z5⟩ := o25_2_3 (J := JC prog W0 Post (crewE ch (ρ0.blk pc) t at_ N (pend.erase k)))
  show At (JC prog W0 Post (crewE ch (ρ0.blk pc) t at_ N (pend.erase k))) 46 b fs FC ρ0 m _ _ H
  rw [x2]
  refine At.op hJ2 hk y1 y3 (y4 _) ?_
  rw [y5,y2]
  refine qAl fun H1 p e1 S1 c1 l1 _ => ?_
  have C1 := C.more (ws' := ws) e1 S1 l1 c1
  refine At.op hJ2 hk z1 z3 (z4 _) ?_
  rw [z5,z2]
  have hkl := hlt k hkp
  refine qStA (c := [vint (k : Nat),vint (dueR t at_ N k)]) c1 rfl rfl rfl fun H2 S2 c2 l2 _ => ?_
  have hzl := C.S.1
  have hzp := lt_of_get C.at_
  have C2 : Came hz H2 ws := C1.put (by omega) S2 l2 c2 (S2.get C1.at_ (by simp; omega))
  refine At.ops_nil hJ2 (At.piece (Q := fun e f' h' => e = .normal ∧ f'.ds = [] ∧ (f'.r 5 = ptr p5 0 ∧ f'.r 7 = wv ∧ f'.r 33 = vint (t.payers.length : Nat) ∧ f'.r 34 = vint (j : Nat)) ∧ Came hz h' (ws.set k (vint (dueR t at_ N k)))) rfl hk (W_sound hJ2 mixed _ ?_) (Nat.le_trans hm C2.S.1) (Nat.le_refl _) ?_)
  ·rw [q25_10]
   refine offI (ldI (v := vint (k : Nat)) c2 rfl rfl (offI (ldI (v := vint (dueR t at_ N k)) c2 rfl rfl ?_)))
   show aIdx 1 wv (vint (k : Nat)) _
   rw [hwv]
   refine idxI ⟨by omega,by omega⟩ ?_
   have e0 : 0 + ((k : Nat) : Int).toNat * 1 = k := by simp
   rw [e0]
   refine qSt C2.at_ (by omega) rfl rfl fun H3 S3 c3 l3 => ⟨rfl,rfl,⟨rfl,hwv ▸ rfl,rfl,rfl⟩,C2.put (Nat.le_refl _) S3 l3 c3 c3⟩
  rintro e f H3 ⟨rfl,ds,⟨r5,r7,r33,r34⟩,C3⟩
  have hm3 : m ≤ H3.length := Nat.le_trans hm C3.S.1
  refine .inl ⟨rfl,At.inBlock hJ2 (At.piece (Q := fun e f' h' => e = .normal ∧ f'.ds = [] ∧ (f'.r 5 = ptr p5 0 ∧ f'.r 7 = wv ∧ f'.r 33 = vint (t.payers.length : Nat) ∧ f'.r 34 = vint (j + 1 : Nat)) ∧ h' = H3) rfl hk (W_sound hJ2 mixed _ ?_) hm3 (Nat.le_refl _) ?_)⟩
  ·rw [q25_11,r34]
   have hf := L.tk.np
   refine addI (by omega) ⟨rfl,ds,⟨r5,r7,r33,?_⟩,rfl⟩
   rfl
  rintro e f1 h1 ⟨rfl,ds,⟨r5,r7,r33,r34⟩,rfl⟩
  refine .inl ⟨rfl,At.inLoop hJ2 (At.forget (qE_forget r5 r7 r33 r34) ds.symm ?_)⟩
  have hkp' : k ∈ pend := hkp
  have hel := List.length_erase_of_mem hkp'
  have hpos := List.length_pos_of_mem hkp'
  refine ih (j + 1) (pend.erase k) _ h1 (by omega) (by omega) (hnd.erase k) (fun l hl => hlt l (List.mem_of_mem_erase hl)) (by simpa using hwl) (fun l hl hn => ?_) C3
  by_cases hlk : l = k
  ·subst hlk
   rw [List.getElem?_set_self (by omega)]
  ·rw [List.getElem?_set_ne (Ne.symm hlk)]
   exact hws l hl fun y => hn ((List.mem_erase_of_ne hlk).2 y)
end
theorem unch_at {h : List AObj} {i : Nat} {c : List Value} {wr : Bool} {sz : Nat} (hb : h[i]? = some (.cells c wr sz)) : (unch h)[i]? = some (.cells c wr sz) := by
 unfold unch
 rw [List.getElem?_map,hb]
 rfl
theorem unch_sli {h : List AObj} {v : Value} {s n : Nat} {cs : List Value} (hs : Sli h v s n cs) : Sli (unch h) v s n cs := by
 obtain ⟨base,c,rfl,hk,hh⟩ := hs
 refine ⟨base,c,rfl,hk,hh.imp id ?_⟩
 rintro ⟨b,o,e,h0⟩
 exact ⟨b,o,e,h0.imp id fun ⟨cs,wr,sz,hb,ht⟩ => ⟨cs,wr,sz,unch_at hb,ht⟩⟩
theorem same_unch {h H g : List AObj} (S : SameX [] h H) : SameX [] (unch h) (unch H ++ g) := by
 refine ⟨by rw [List.length_append,unch_len,unch_len]; have := S.1; omega,fun i hi _ => ?_⟩
 rw [unch_len] at hi
 have h1 := S.2 i hi (by simp)
 have hlt : i < (unch H).length := by rw [unch_len]; have := S.1; omega
 rw [List.getElem?_append_left hlt]
 unfold unch
 rw [List.getElem?_map,List.getElem?_map,h1]
open Classical in
noncomputable def chOf (ρ : Env) (h : List AObj) (w : World) (b : Nat) : Option (Nat × Array Value × Bool) :=
 if Chs ρ h b then (match w.heap[b]? with | some (.chan cap _ _ _ _ _) => some (cap,#[],false) | _ => none) else none
theorem chOf_some {ρ : Env} {h : List AObj} {FC : Frm} {w : World} {ft : Foot} (H : HRel ρ h FC w ft) {b i cap : Nat} (hi : h[i]? = some (.chan cap)) (hb : ρ.blk i = b) : chOf ρ h w b = some (cap,#[],false) ∧ w.heap[b]? = some (.chan cap #[] false 0 0 false) ∧ ft.rd b := by
 have ho := H.obj i _ hi
 rw [hb] at ho
 have hr := H.rd i _ hi rfl
 rw [hb] at hr
 cases hw : w.heap[b]? with
 | none => rw [hw] at ho; exact ho.elim
 | some x =>
  rw [hw] at ho
  cases x with
  | chan cap' buf closed s r tm =>
   obtain ⟨rfl,rfl,rfl,rfl,rfl,rfl⟩ := ho
   refine ⟨?_,rfl,hr⟩
   unfold chOf
   rw [if_pos ⟨i,_,hi,hb⟩,hw]
  | _ => exact ho.elim
theorem chOf_none {ρ : Env} {h : List AObj} {w : World} {b : Nat} (hn : ¬ Chs ρ h b) : chOf ρ h w b = none := if_neg hn
structure MidE (h H : List AObj) (f : RG) (pd p3 pc p5 : Nat) : Prop where
 S : SameX [] h H
 ds : f.ds = []
 r0 : f.r 0 = ptr pd 0
 r3 : f.r 3 = ptr p3 0
 h3 : H[p3]? = some (.cells [coinsV pd] true 0)
 r5 : f.r 5 = ptr p5 0
 h5 : H[p5]? = some (.cells [.chan (some pc)] true 0)
 hc : H[pc]? = some (.chan 0)
section
variable {main : Bool} {J : JT} {h : List AObj} {K : Value → List AObj → Prop} {Sx : RG → List AObj → Prop}
theorem frontE {pd : Nat} (hS : ∀ f H p3 pc p5,MidE h H f pd p3 pc p5 → Sx f H) :
  W prog J 46 h.length 25 (trunc 2 (codeOf f25)) (RG.mk (regs [ptr pd 0,coinsV pd]) []) h (thenK Sx (RetQ prog [.tmp 4] h.length K)) := by
 rw [e25]
 refine qBox1 rfl rfl fun H1 p3 e1 S1 c1 l1 => ⟨by decide,⟨by omega,by omega⟩,?_⟩
 refine qAl fun H5 p5 e5 S5 c5 l5 => ?_
 have Sc : SameX [] H1 (H1 ++ [.chan (Int.toNat 0)]) := SameX.refl.app
 refine qSt c5 (by simp) rfl rfl fun H6 S6 c6 l6 => ?_
 have hcc : (H1 ++ [AObj.chan (Int.toNat 0)])[H1.length]? = some (.chan 0) := by simp
 have e5' : p5 = H1.length + 1 := by rw [e5]; simp
 have T5 := Sc.trans S5
 have b0 := S1.1
 exact hS _ H6 p3 H1.length p5 ⟨(S1.trans T5).thru S6 (by simp; omega),rfl,rfl,rfl,S6.get (T5.get c1 (by simp)) (by simp; omega),rfl,c6,S6.get (S5.get hcc (by simp)) (by simp; omega)⟩
end
theorem tailE {main : Bool} {J : JT} {h : List AObj} {K : Value → List AObj → Prop} {n0 : Nat} (hJ : Closed prog main J) {f : RG} (ds : f.ds = []) (hu : f.r 7 ≠ unk) (hK : K (f.r 7) h) :
  Sem J 46 n0 25 (subC [1,1,1,1,1] (codeOf f25)) f h (RetQ prog [.tmp 4] n0 K) := by
 have hc : contX pl25t prog J 46 n0 25 ct25t [1,1,1,1,1] (codeOf f25) [] (RetQ prog [.tmp 4] n0 K) = RetQ prog [.tmp 4] n0 K := by kernel_rfl
 rw [← hc]
 refine W_sound hJ mixed _ ?_
 rw [s25t_1,ds]
 exact retL_same (by simpa using hu) hK
section
variable {W0 : World} {Post : Value → World → Prop} {h : List AObj} {K : Value → List AObj → Prop}
theorem good25 {pd bm at_ : Nat} {t : Tarf} {sv pv tv : Value} {N : Int} (D : DeskAt h pd bm t sv pv tv (mapG at_ N)) (tk : TarOk t) (ha : at_ < t.tolls.length) (hn : 0 ≤ N ∧ N ≤ 1000)
    (hK : ∀ H v,SameX [] (unch h) H → Sli H v 1 t.payers.length (dueL t at_ N) → v ≠ unk → K v H) :
    Good prog (J1 prog W0 Post) 25 [ptr pd 0,coinsV pd] h K := by
  have hJ1 := J1.closed prog W0 Post
  have np := tk.np
  refine good_of_sem hJ1 at25 body25 (by kernel_rfl) (Nat.le_of_ble_eq_true rfl) fun ok => ?_
  rw [show f25.ntmps = 46 from by kernel_rfl,show f25.results.toList = [.tmp 4] from by kernel_rfl]
  refine trunc_sound hJ1 mixed 2 (codeOf f25) (by kernel_rfl) (frontE fun f H p3 pc p5 M => ?_)
  intro b a k fs L ρ FC w ft hb hk hL A R hn' hcont
  have RZ := frz_rel R
  have hpc := lt_of_get M.hc
  have LN : LentE (frz H) p3 p5 pc pd bm t sv pv tv at_ N :=
    { ok := RZ.ok
      nw := fun x hx => by
        obtain ⟨y,_,rfl⟩ := List.mem_map.1 hx
        exact frz_wrt y
      nc := fun cap hx => by
        obtain ⟨y,_,e⟩ := List.mem_map.1 hx
        cases y <;> cases e
      h3 := frz_at M.h3
      h5 := frz_at M.h5
      hpc := by rw [frz_len]; exact hpc
      D := deskF (D.same M.S)
      tk := tk
      ha := ha
      hn := hn }
  obtain ⟨c1,c2,c3⟩ := chOf_some R M.hc rfl
  refine J1.crew (T := crewE (chOf ρ H w) (ρ.blk pc) t at_ N []) (f' := lentF ρ H ft) rfl (fun b x hx => ?_) (fun b hb => ⟨hb.1,chOf_none hb.2⟩) (fun b hb => hb.elim) ?_
  · by_cases hx2 : Chs ρ H b
    · obtain ⟨i,cap,hi,hib⟩ := hx2
      obtain ⟨d1,d2,d3⟩ := chOf_some R hi hib
      have : some x = some (cap,#[],false) := hx.symm.trans d1
      cases this
      exact ⟨d3,rfl,d2⟩
    · have : some x = none := hx.symm.trans (chOf_none hx2)
      cases this
  -- all the workers' time
  have hJ := JC.closed prog W0 Post (crewE (chOf ρ H w) (ρ.blk pc) t at_ N [])
  have hJn := JC.closed prog W0 Post (crewE (chOf ρ H w) (ρ.blk pc) t at_ N (List.range t.payers.length))
  have hw0 : ∀ b,¬ (keepF ρ H w ft).wr b := fun b hb => hb
  have hpm : pc < (frz H).length := by rw [frz_len]; exact hpc
  have kp := sli_one D.p
  obtain ⟨wrd,hcd⟩ := LN.D.c
  suffices hAt : At (JC prog W0 Post (crewE (chOf ρ H w) (ρ.blk pc) t at_ N [])) 46 b fs (keepF ρ H w ft) ρ (frz H).length (.code (subC [1,1] (codeOf f25)) :: k) f (frz H) from
    hAt a ρ w _ (by rw [frz_len]; exact A) RZ (Env.upto_refl _ _) (Nat.le_refl _)
  rw [shapeE]
  refine At.seq hJ (At.seq hJ (At.piece (Q := fun e f' h' => e = .normal ∧ f'.ds = [] ∧ (f'.r 0 = ptr pd 0 ∧ f'.r 3 = ptr p3 0 ∧ f'.r 5 = ptr p5 0 ∧ f'.r 15 = vint (t.payers.length : Nat) ∧ f'.r 16 = vint (0 : Nat)) ∧ h' = frz H) rfl hk (W_sound hJ mixed _ ?_) (Nat.le_refl _) (Nat.le_refl _) ?_))
  · rw [q25_1,M.r0]
    refine nilI (offI (offI (ldI (v := pv) hcd rfl kp.2.2 (lenI LN.D.p ⟨rfl,M.ds,⟨M.r0,M.r3,M.r5,rfl,rfl⟩,rfl⟩))))
  rintro e f1 h1 ⟨rfl,ds,⟨r0,r3,r5,r15,r16⟩,rfl⟩
  refine .inl ⟨rfl,At.block hJ (At.loop hJ (At.weak LN.ok (LN.regs r0 r3 r5 r15 r16) ds.symm ds (Nat.le_refl _) ?_))⟩
  refine hireE hk c1 LN (Nat.le_refl _) hpm hw0 ?_ t.payers.length 0 rfl (by omega)
  -- the answers' slice
  rw [shapeE2]
  refine At.seq hJn (At.piece (Q := fun e f' h' => e = .normal ∧ f'.ds = [] ∧ (f'.r 0 = ptr pd 0 ∧ f'.r 5 = ptr p5 0 ∧ f'.r 7 = .slice (some ⟨(frz H).length,0,none⟩) t.payers.length t.payers.length) ∧ Came (frz H) h' (zrep [vint 0] t.payers.length)) rfl hk (W_sound hJn mixed _ ?_) (Nat.le_refl _) (Nat.le_refl _) ?_)
  · rw [q25_6]
    show aNil (ptr pd 0) _
    refine nilI (offI (offI (ldI (v := pv) hcd rfl kp.2.2 (lenI LN.D.p ⟨by decide,?_⟩))))
    have hr : room = 1073741824 := rfl
    refine ⟨by omega,by omega,by omega,rfl,rfl,⟨rfl,rfl,by show Value.slice (some ⟨(frz H).length,0,none⟩) (t.payers.length : Int).toNat (t.payers.length : Int).toNat = _; simp⟩,SameX.refl.app,by simp,fun i o hi ho => ?_⟩
    rw [List.getElem?_append_right hi] at ho
    have := (List.getElem?_eq_some_iff.1 ho).1
    have h0 : i - (frz H).length = 0 := by simp at this; omega
    rw [h0] at ho
    cases ho
    rfl
  rintro e f2 h2 ⟨rfl,ds2,⟨s0,s5,s7⟩,C⟩
  refine .inl ⟨rfl,?_⟩
  rw [shapeE3]
  have hmC : (frz H).length ≤ h2.length := C.S.1
  refine At.seq hJn (At.seq hJn (At.piece (Q := fun e f' h' => e = .normal ∧ f'.ds = [] ∧ (f'.r 5 = ptr p5 0 ∧ f'.r 7 = .slice (some ⟨(frz H).length,0,none⟩) t.payers.length t.payers.length ∧ f'.r 33 = vint (t.payers.length : Nat) ∧ f'.r 34 = vint (0 : Nat)) ∧ h' = h2) rfl hk (W_sound hJn mixed _ ?_) hmC (Nat.le_refl _) ?_))
  · rw [q25_7,s0]
    exact nilI (offI (offI (ldI (v := pv) (C.S.get hcd (by simp)) rfl kp.2.2 (lenI (C.S.sli LN.D.p (by simp)) ⟨rfl,ds2,⟨s5,s7,rfl,rfl⟩,rfl⟩))))
  rintro e f3 h3 ⟨rfl,ds3,⟨t5,t7,t33,t34⟩,rfl⟩
  refine .inl ⟨rfl,At.block hJn (At.loop hJn (At.forget (qE_forget t5 t7 t33 t34) ds3.symm ?_))⟩
  refine recvE hk LN (Nat.le_refl _) hpm rfl (fun H' C' => ?_) t.payers.length 0 _ (zrep [vint 0] t.payers.length) _ rfl (by simp) List.nodup_range (fun k hk => List.mem_range.1 hk) (by rw [zrep_one]; simp) (fun k hk hn => absurd (List.mem_range.2 hk) hn) C
  -- behind the workers' time
  intro a' ρ' w' ft' A' R' hu' hm'
  obtain ⟨g,rfl⟩ := C'.S.app0 (by simp)
  have som : ∀ b,Chs ρ H b → (chOf ρ H w b).isSome = true := fun b ⟨i,cap,hi,hib⟩ => by
    rw [(chOf_some R hi hib).1]
    rfl
  refine JC.last (f' := thawF ρ H ft ft') rfl (fun b hb => hb.imp id (som b)) (fun b hb => ?_) fun w₂ hrel hch => ?_
  · rcases hb with hb | hb
    · by_cases hc : Chs ρ H b
      · exact .inr hc
      · have hr := R.sub b hb
        have hlt := R.lt b hr
        exact .inl (R'.kept b w.heap[b] (by rw [keep_ob R hr hc,Array.getElem?_eq_getElem hlt])).2.1
    · exact .inl (R'.sub b hb)
  have hu : Env.upto H.length ρ ρ' := by
    rw [← frz_len (h := H)]
    exact hu'
  obtain ⟨RT,_⟩ := thaw_rel R (R'.rely hrel) hu (fun o ho _ => by
    obtain ⟨i,hi⟩ := List.mem_iff_getElem?.1 ho
    exact C'.wr ((frz H).length + i) o (by omega) (by rw [List.getElem?_append_right (by omega)]; simpa using hi)) fun b hb => hch b (som b hb)
  have le : (frz H ++ g).length = (unch H ++ g).length := by simp [frz_len,unch_len]
  have S := same_unch (g := g) M.S
  have S1 : h.length ≤ (unch H ++ g).length := by have := S.1; rwa [unch_len] at this
  have hdl : (dueL t at_ N).length = t.payers.length := by unfold dueL; simp
  have hget : (unch H ++ g)[(frz H).length]? = some (.cells (dueL t at_ N) true 0) := by
    have := C'.at_
    rw [List.getElem?_append_right (by omega)] at this
    rw [List.getElem?_append_right (by rw [unch_len,frz_len]; omega)]
    have e : (frz H).length - (unch H).length = (frz H).length - (frz H).length := by rw [unch_len,frz_len]
    rw [e]
    exact this
  refine tailE hJ1 (f := QE (.slice (some ⟨(frz H).length,0,none⟩) t.payers.length t.payers.length) p5 t.payers.length t.payers.length) rfl (by show Value.slice _ _ _ ≠ unk; simp [unk]) ?_ b a' k fs L ρ' FC w₂ _ hb hk hL (by rw [← le]; exact A') RT S1 fun e f2 h2' ρ2 w2 ft2 a2 q q1 q2 q3 q4 => hcont e f2 h2' ρ2 w2 ft2 a2 q q1 q2 (Env.upto_trans (Env.upto_le hu hn') q3) q4
  refine hK _ _ S ⟨_,_,rfl,⟨by simp [hdl],?_⟩,.inr ⟨_,0,rfl,.inr ⟨_,true,0,hget,?_⟩⟩⟩ (by show Value.slice _ _ _ ≠ unk; simp [unk])
  · unfold kn
    rw [List.all_eq_true]
    intro x hx
    obtain ⟨y,_,rfl⟩ := List.mem_map.1 hx
    rfl
  · rw [List.drop_zero,List.take_of_length_le (by simp [hdl])]
theorem good11 {t : Tarf} {sv pv tv lv : Value} (ht : TarAt h t sv pv tv) (ok : TarOk t) {at_ : Nat} (ha : at_ < t.tolls.length) {ns : List Int} (hl : SliE h lv 3 (pasC at_) ns) (hn : ns.length ≤ 24) (hns : ∀ n ∈ ns,1 ≤ n ∧ n ≤ 40)
  (hK : ∀ H v,SameX [] (unch h) H → Sli H v 1 t.payers.length (dueL t at_ ns.sum) → K (.tuple ⟨[v,vint 0]⟩) H) :
  Good prog (J1 prog W0 Post) 11 [.agg ⟨tarCells t sv pv tv⟩,lv] h K := by
 have hJ := J1.closed prog W0 Post
 refine g11 hJ fun okh => ?_
 rw [e11]
 refine qBox (l := tarCells t sv pv tv) ht.one fun H1 p1 e1 S1 c1 l1 => load_part (c := tarCells t sv pv tv) c1 (by simp [tarCells]) rfl ht.kn ?_
 refine good24 hJ (ht.same S1 (by simp)) ok ha (S1.sli hl (by simp)) hn hns fun H2 pd bm S2 b1 b2 D => ext0 (ext1 (neqF rfl (cnd_false.2 ⟨rfl,?_⟩)))
 have hs := sum_bd hns ns.length (Nat.le_refl _)
 rw [List.take_of_length_le (Nat.le_refl _)] at hs
 refine good25 D ok ha (by omega) fun H3 v S3 hv hu => retL_same (by simp [hu]; simp [unk]) (hK H3 v ?_ hv)
 have T := S1.trans S2
 refine SameX.trans ⟨by rw [unch_len,unch_len]; exact T.1,fun i hi _ => ?_⟩ S3
 rw [unch_len] at hi
 unfold unch
 rw [List.getElem?_map,List.getElem?_map,T.2 i hi (by simp)]
end
def pasL : List Value := [vint 12,vint 20,vint 1,vint 4,vint 3,vint 2]
def laneS : Strp := ⟨0,1,4,90,1,0,0⟩
def barT : Tarf := ⟨2,2,[laneS],5,[⟨10,0,false⟩],[⟨0,50,1⟩]⟩
def gatT : Tal := ⟨2,⟨10,10⟩,[⟨0,0⟩],5,[⟨1,1,7,0⟩]⟩
theorem barT_ok : TarOk barT where
 days := by decide
 stages := by decide
 ns := by decide
 strips := fun s hs => by
  have : s = laneS := by simpa [barT] using hs
  subst this
  exact ⟨by decide,by decide,by decide,by decide,by decide,.inl ⟨rfl,rfl,rfl⟩⟩
 pace := by decide
 np := by decide
 payers := fun p hp => by
  have : p = ⟨10,0,false⟩ := by simpa [barT] using hp
  subst this
  unfold PayrOk
  decide
 sum := by decide
 nt := by decide
 tolls := fun x hx => by
  have : x = ⟨0,50,1⟩ := by simpa [barT] using hx
  subst this
  exact ⟨by decide,by decide,by decide⟩
 apart := fun i j x y hij hi hj => by
  have := (List.getElem?_eq_some_iff.1 hi).1
  have : i < 1 := this
  omega
section
variable {main : Bool} {J : JT} {H : List AObj} {K : Value → List AObj → Prop} {KV : Value → Prop} {HL : List AObj → Prop} {n0 : Nat}
theorem good45 (hJ : Closed prog main J) (hK : ∀ H',SameX [] H H' → K (.agg ⟨pasL⟩) H') : Good prog J 45 [] H K := by
 refine g45 hJ fun ok => ?_
 rw [e45]
 refine qAl fun H1 p1 e1 S1 c1 l1 => ?_
 refine fillV rfl rfl (Nat.le_of_ble_eq_true rfl) (fillV rfl rfl (Nat.le_of_ble_eq_true rfl) (fillV rfl rfl (Nat.le_of_ble_eq_true rfl) (fillV rfl rfl (Nat.le_of_ble_eq_true rfl) (fillV rfl rfl (Nat.le_of_ble_eq_true rfl) (fillV rfl rfl (Nat.le_of_ble_eq_true rfl) (fillI ?_))))))
 refine qStA (c := pasL) c1 rfl rfl rfl fun H2 S2 c2 l2 => retQ_same rfl (resW_cell (gg := true) (s := 6) (by kernel_rfl) ?_)
 exact load_part (c := pasL) c2 (by simp [pasL]) rfl rfl (resW_nil (hK H2 (S1.thru S2 (by simp; omega))))
theorem good28 (hJ : Closed prog main J) (hK : ∀ H' p rest,SameX [] H H' → H.length ≤ p → H'[p]? = some (.cells ([laneS].flatMap Strp.cells) true 0) → K (.agg ⟨vint 2 :: vint 2 :: .slice (some ⟨p,0,none⟩) 1 1 :: rest⟩) H') : Good prog J 28 [] H K := by
 refine g28 hJ fun ok => ?_
 rw [e28]
 refine qAl fun H1 p1 e1 S1 c1 l1 => good45 hJ fun H2 S2 => qAl fun H3 p3 e3 S3 c3 l3 => qStA (c := pasL) c3 rfl rfl rfl fun H4 S4 c4 l4 => ?_
 refine fillV rfl rfl (Nat.le_of_ble_eq_true rfl) (fillV rfl rfl (Nat.le_of_ble_eq_true rfl) (fillV rfl rfl (Nat.le_of_ble_eq_true rfl) (fillV rfl rfl (Nat.le_of_ble_eq_true rfl) (fillI ⟨⟨by decide,by decide,rfl⟩,?_⟩))))
 refine fillA (l := laneS.cells) rfl rfl (Nat.le_of_ble_eq_true rfl) (fillI (qNew fun H5 p5 e5 S5 c5 l5 => ?_))
 refine fillV rfl rfl (Nat.le_of_ble_eq_true rfl) (fillV rfl rfl (Nat.le_of_ble_eq_true rfl) (fillV rfl rfl (Nat.le_of_ble_eq_true rfl) (fillI ?_)))
 refine fillV rfl rfl (Nat.le_of_ble_eq_true rfl) (fillV rfl rfl (Nat.le_of_ble_eq_true rfl) (fillV rfl rfl (Nat.le_of_ble_eq_true rfl) (fillI ?_)))
 have c4' := S5.get c4 (by simp)
 refine load_part (c := pasL) c4' (by simp [pasL]) rfl rfl (load_part (c := pasL) c4' (by simp [pasL]) rfl rfl ⟨⟨by decide,by decide,rfl⟩,?_⟩)
 refine fillA (l := pasL) rfl rfl (Nat.le_of_ble_eq_true rfl) (fillA (l := pasL) rfl rfl (Nat.le_of_ble_eq_true rfl) (fillI (qNew fun H6 p6 e6 S6 c6 l6 => ?_)))
 refine fillV rfl rfl (Nat.le_of_ble_eq_true rfl) (fillV rfl rfl (Nat.le_of_ble_eq_true rfl) (fillI ?_))
 refine fillA (l := [vint 5,vint 5]) rfl rfl (Nat.le_of_ble_eq_true rfl) (fillI ⟨⟨by decide,by decide,rfl⟩,?_⟩)
 refine fillA (l := [vint 5,vint 5,vint 0,vint 0,.bool false]) rfl rfl (Nat.le_of_ble_eq_true rfl) (fillI (qNew fun H7 p7 e7 S7 c7 l7 => ?_))
 refine fillA (l := [vint 2,vint 2,.slice (some ⟨p5,0,none⟩) 1 1]) rfl rfl (Nat.le_of_ble_eq_true rfl) (fillA (l := [vint 2,vint 2,vint 2]) rfl rfl (Nat.le_of_ble_eq_true rfl) (fillV rfl rfl (Nat.le_of_ble_eq_true rfl) (fillV rfl rfl (Nat.le_of_ble_eq_true rfl) (fillV rfl rfl (Nat.le_of_ble_eq_true rfl) (fillI ?_)))))
 have c5 : H5[p5]? = some (.cells ([laneS].flatMap Strp.cells) true 0) := c5
 have T5 : SameX [] H1 H5 := ((S2.trans S3).thru S4 (by have := S2.1; simp; omega)).trans S5
 have T7 : SameX [] H5 H7 := S6.trans S7
 refine qStA (c := [vint 2,vint 2,.slice (some ⟨p5,0,none⟩) 1 1,vint 2,vint 2,vint 2,.slice (some ⟨p6,0,none⟩) 2 2,vint 1,.slice (some ⟨p7,0,none⟩) 1 1]) ((T5.trans T7).get c1 (by simp)) rfl rfl rfl fun H8 S8 c8 l8 => retQ_same rfl (resW_cell (gg := true) (s := 9) (by kernel_rfl) ?_)
 have n5 : p5 ≠ p1 := by have := T5.1; have := S5.1; have := S2.1; have := S3.1; have := S4.1; omega
 refine load_part (c := [vint 2,vint 2,.slice (some ⟨p5,0,none⟩) 1 1,vint 2,vint 2,vint 2,.slice (some ⟨p6,0,none⟩) 2 2,vint 1,.slice (some ⟨p7,0,none⟩) 1 1]) c8 (by simp) rfl rfl (resW_nil (hK H8 p5 _ ?_ ?_ (S8.get (T7.get c5 (by simp)) (by simpa using n5))))
 ·exact ((S1.trans T5).trans T7).thru S8 (by simp; omega)
 ·have := T5.1
  have := S1.1
  have := S5.1
  have := S2.1
  have := S3.1
  have := S4.1
  omega
theorem good19 (hJ : Closed prog main J) (hK : ∀ H' sv pv tv,SameX [] H H' → TarAt H' barT sv pv tv → K (.agg ⟨tarCells barT sv pv tv⟩) H') : Good prog J 19 [] H K := by
 refine g19 hJ fun ok => ?_
 rw [e19]
 refine qAl fun H1 p1 e1 S1 c1 l1 => good28 hJ fun H2 p2 rest S2 hp2 cs2 => ⟨by simp,?_⟩
 refine fillV rfl rfl (Nat.le_of_ble_eq_true rfl) (fillI ⟨⟨by decide,by decide,rfl⟩,fillA (l := [vint 10,vint 0,.bool false]) rfl rfl (Nat.le_of_ble_eq_true rfl) (fillI (qNew fun H3 p3 e3 S3 c3 l3 => ?_))⟩)
 refine fillV rfl rfl (Nat.le_of_ble_eq_true rfl) (fillV rfl rfl (Nat.le_of_ble_eq_true rfl) (fillI ⟨⟨by decide,by decide,rfl⟩,fillA (l := [vint 0,vint 50,vint 1]) rfl rfl (Nat.le_of_ble_eq_true rfl) (fillI (qNew fun H4 p4 e4 S4 c4 l4 => ?_))⟩))
 refine fillA (l := [vint 2,vint 2,.slice (some ⟨p2,0,none⟩) 1 1]) rfl rfl (Nat.le_of_ble_eq_true rfl) (fillV rfl rfl (Nat.le_of_ble_eq_true rfl) (fillV rfl rfl (Nat.le_of_ble_eq_true rfl) (fillV rfl rfl (Nat.le_of_ble_eq_true rfl) (fillI ?_))))
 have c3 : H3[p3]? = some (.cells (barT.payers.flatMap Payr.cells) true 0) := c3
 have c4 : H4[p4]? = some (.cells (barT.tolls.flatMap Toll.cells) true 0) := c4
 have T4 := (S2.trans S3).trans S4
 refine qStA (c := tarCells barT (.slice (some ⟨p2,0,none⟩) 1 1) (.slice (some ⟨p3,0,none⟩) 1 1) (.slice (some ⟨p4,0,none⟩) 1 1)) (T4.get c1 (by simp)) rfl rfl rfl fun H5 S5 c5 l5 => retQ_same rfl (resW_cell (gg := true) (s := 6) (by kernel_rfl) ?_)
 refine load_part (c := tarCells barT (.slice (some ⟨p2,0,none⟩) 1 1) (.slice (some ⟨p3,0,none⟩) 1 1) (.slice (some ⟨p4,0,none⟩) 1 1)) c5 (by simp [tarCells]) rfl rfl (resW_nil (hK H5 _ _ _ ((S1.trans T4).thru S5 (by simp; omega)) ⟨?_,?_,?_⟩))
 ·exact ownX_sli (ownX_new (s := 7) (n := 1) (S5.get ((S3.trans S4).get cs2 (by simp)) (by simp; omega)) rfl rfl)
 ·exact ownX_sli (ownX_new (s := 3) (n := 1) (S5.get (S4.get c3 (by simp)) (by have := S2.1; simp; omega)) rfl rfl)
 ·exact ⟨_,ownX_new (s := 3) (n := 1) (S5.get c4 (by have := S2.1; have := S3.1; simp; omega)) rfl rfl⟩
theorem good18 (hJ : Closed prog main J) (hK : ∀ H' cv nv,SameX [] H H' → TalAt H' (.agg ⟨talCells gatT cv nv⟩) gatT cv nv → K (.agg ⟨talCells gatT cv nv⟩) H') : Good prog J 18 [] H K := by
 refine g18 hJ fun ok => ?_
 rw [e18]
 refine qAl fun H1 p1 e1 S1 c1 l1 => ?_
 refine fillV rfl rfl (Nat.le_of_ble_eq_true rfl) (fillV rfl rfl (Nat.le_of_ble_eq_true rfl) (fillI (fillI ⟨⟨by decide,by decide,rfl⟩,fillA (l := [vint 0,vint 0]) rfl rfl (Nat.le_of_ble_eq_true rfl) (fillI (qNew fun H3 p3 e3 S3 c3 l3 => ?_))⟩)))
 refine fillV rfl rfl (Nat.le_of_ble_eq_true rfl) (fillV rfl rfl (Nat.le_of_ble_eq_true rfl) (fillV rfl rfl (Nat.le_of_ble_eq_true rfl) (fillI ⟨⟨by decide,by decide,rfl⟩,fillA (l := [vint 1,vint 1,vint 7,vint 0]) rfl rfl (Nat.le_of_ble_eq_true rfl) (fillI (qNew fun H4 p4 e4 S4 c4 l4 => ?_))⟩)))
 refine fillV rfl rfl (Nat.le_of_ble_eq_true rfl) (fillA (l := [vint 10,vint 10]) rfl rfl (Nat.le_of_ble_eq_true rfl) (fillV rfl rfl (Nat.le_of_ble_eq_true rfl) (fillV rfl rfl (Nat.le_of_ble_eq_true rfl) (fillV rfl rfl (Nat.le_of_ble_eq_true rfl) (fillI ?_)))))
 have c3 : H3[p3]? = some (.cells (gatT.changes.flatMap Rng.cells) true 0) := c3
 have c4 : H4[p4]? = some (.cells (gatT.counts.flatMap Cnt.cells) true 0) := c4
 have T4 := S3.trans S4
 refine qStA (c := talCells gatT (.slice (some ⟨p3,0,none⟩) 1 1) (.slice (some ⟨p4,0,none⟩) 1 1)) (T4.get c1 (by simp)) rfl rfl rfl fun H5 S5 c5 l5 => retQ_same rfl (resW_cell (gg := true) (s := 6) (by kernel_rfl) ?_)
 refine load_part (c := talCells gatT (.slice (some ⟨p3,0,none⟩) 1 1) (.slice (some ⟨p4,0,none⟩) 1 1)) c5 (by simp [talCells]) rfl rfl (resW_nil (hK H5 _ _ ((S1.trans T4).thru S5 (by simp; omega)) ⟨rfl,?_,?_⟩))
 ·exact ownX_sli (ownX_new (s := 2) (n := 1) (S5.get (S4.get c3 (by simp)) (by simp; omega)) rfl rfl)
 ·exact ownX_sli (ownX_new (s := 4) (n := 1) (S5.get c4 (by have := S3.1; simp; omega)) rfl rfl)
theorem good12 (hJ : Closed prog main J) {n most : Int} {toll : Nat} (hn : 0 ≤ n ∧ n ≤ 100) (hm : 8 ≤ most ∧ most ≤ 40)
  (hK : ∀ H' v ns,SameX [] H H' → SliE H' v 3 (pasC toll) ns → ns.sum = n → (∀ x ∈ ns,1 ≤ x ∧ x ≤ 40) → ns.length ≤ 24 → K v H') : Good prog J 12 [vint n,vint (toll : Nat),vint most] H K := by
 refine g12 hJ fun ok => ?_
 rw [e12]
 obtain ⟨m,rfl⟩ := Int.eq_ofNat_of_zero_le hn.1
 refine l12_1 hJ (fun r : Nat => r) (fun r F H' => ∃ (ns : List Int) (v : Value) (o : Option Nat),SameX [] H H' ∧ OwnX H' 3 (ns.flatMap (pasC toll)) ns.length v o ∧ (∀ j,o = some j → H.length ≤ j) ∧ ns.sum + (r : Int) = (m : Int) ∧ (∀ x ∈ ns,1 ≤ x ∧ x ≤ 40) ∧ (0 < r → 8 * ns.length + r ≤ m) ∧ 8 * ns.length ≤ m + 7 ∧ F.ds = [] ∧ F.r 0 = vint (r : Nat) ∧ F.r 1 = vint (toll : Nat) ∧ F.r 2 = vint most ∧ F.r 7 = v) ?_ (s := m)
  (.inl ⟨[],.slice none 0 0,none,SameX.refl,ownX_nil,(by simp),(by simp),(by simp),(by simp),(by simp),rfl,rfl,rfl,rfl,rfl⟩)
 rintro r F H' ⟨ns,v,o,S,O,ho,hsum,hns,hr8,hl8,ds,r0,r1,r2,r7⟩ okc hnc
 rw [s12_1,r0,r1,r2,r7,ds]
 refine gtrI (cndI (fun hpos => ?_) fun hneg => ?_)
 rotate_left
 ·have : r = 0 := by omega
  subst this
  have hv := ownX_val O
  refine retL_same (by
   intro x hx
   rw [List.mem_singleton.1 hx]
   intro e
   rw [e] at hv
   exact absurd hv.2.1 (by decide)) (hK H' v ns S (ownX_sli O) (by omega) hns (by omega))
 refine minI ?_
 have hx : 1 ≤ min (r : Int) most ∧ min (r : Int) most ≤ 40 := by omega
 refine fillV rfl rfl (Nat.le_of_ble_eq_true rfl) (fillV rfl rfl (Nat.le_of_ble_eq_true rfl) (fillI ⟨⟨by decide,by decide,rfl⟩,fillA (l := pasC toll (min (r : Int) most)) rfl rfl (Nat.le_of_ble_eq_true rfl) (fillI (qNew fun H4 p4 e4 S4 c4 l4 => ?_))⟩))
 have c4 : H4[p4]? = some (.cells (pasC toll (min (r : Int) most)) true 0) := c4
 refine ⟨⟨rfl,by decide,by decide,by decide⟩,ownX_more (ownX_keep O S4 (by simp)) (by decide) (by omega) (ownX_sli (ownX_new (s := 3) (n := 1) c4 rfl rfl)) fun v5 H5 p5 e5 O5 S5 => subI (by omega) ?_⟩
 have hlt := ownX_lt O
 refine ⟨((r : Int) - min (r : Int) most).toNat,by dsimp only; omega,.inl ⟨ns ++ [min (r : Int) most],v5,some p5,(S.trans S4).thru S5 (fun x hx => .inr (ho x (Option.mem_toList.1 hx))),?_,?_,?_,?_,?_,?_,ds,?_,r1,r2,rfl⟩⟩
 ·rw [List.flatMap_append,List.length_append]
  simpa using O5
 ·rintro j hj
  cases hj
  have := S.1
  have := S4.1
  omega
 ·rw [List.sum_append]
  simp only [List.sum_cons,List.sum_nil]
  omega
 ·intro x hxm
  rcases List.mem_append.1 hxm with h | h
  ·exact hns x h
  ·rw [List.mem_singleton.1 h]
   exact hx
 ·intro h
  rw [List.length_append,List.length_singleton]
  have := hr8 (by omega)
  omega
 ·rw [List.length_append,List.length_singleton]
  have := hr8 (by omega)
  omega
 ·show vint _ = vint _
  congr 1
  omega
theorem gat_err : talErr gatT = 0 := by decide +kernel
theorem gat_is : TruthIs gatT (limA gatT 0) := by
 intro g hg
 have hg : (g : Int) < 2 := hg
 have : g = 0 ∨ g = 1 := by omega
 rcases this with rfl | rfl <;> decide +kernel
theorem gat_l : trulyL gatT = [⟨10,10⟩,⟨7,7⟩] := by rfl
theorem gat_o : trulyE gatT = 0 ∧ trulyO gatT = [⟨10,10⟩,⟨7,7⟩] := by
 constructor
 ·unfold trulyE
  rw [if_neg (not_not_intro gat_err),if_neg (not_not_intro gat_is)]
 ·unfold trulyO
  rw [if_neg (not_not_intro gat_err),if_neg (not_not_intro gat_is),gat_l]
theorem bar_due : dueL barT 0 7 = [vint 4] := by rfl
end
section
variable {W0 : World} {Post : Value → World → Prop} {H : List AObj} {K : Value → List AObj → Prop}
theorem good7 (hK : ∀ H',K (.bool true) H') : Good prog (J1 prog W0 Post) 7 [] H K := by
 have hJ := J1.closed prog W0 Post
 refine g7 hJ fun ok => ?_
 rw [e7]
 refine good18 hJ fun H1 cv nv S1 ht => ?_
 refine good10' hJ ht fun v H2 S2 hv => ext0 (ext1 ?_)
 rw [gat_o.1]
 rw [gat_o.2] at hv
 refine good19 hJ fun H3 sv pv tv S3 hb => ?_
 refine fillV rfl rfl (Nat.le_of_ble_eq_true rfl) (fillI (fillV rfl rfl (Nat.le_of_ble_eq_true rfl) (fillI ⟨⟨by decide,by decide,rfl⟩,?_⟩)))
 refine fillA (l := pasC 0 3) rfl rfl (Nat.le_of_ble_eq_true rfl) (fillA (l := pasC 0 4) rfl rfl (Nat.le_of_ble_eq_true rfl) (fillI (qNew fun H4 p4 e4 S4 c4 l4 => ?_)))
 have c4 : H4[p4]? = some (.cells (([3,4] : List Int).flatMap (pasC 0)) true 0) := c4
 refine good11 (t := barT) (ns := [3,4]) (hb.same S4 (by simp)) barT_ok (by decide) (ownX_sli (ownX_new (s := 3) (n := 2) c4 rfl rfl)) (by decide) (by decide) fun H5 w S5 hw => ext0 (ext1 ?_)
 rw [show ([3,4] : List Int).sum = 7 from rfl,bar_due] at hw
 refine eqlT rfl (cnd_true.2 (eqlT rfl (cnd_true.2 ?_)))
 refine fillV rfl rfl (Nat.le_of_ble_eq_true rfl) (fillV rfl rfl (Nat.le_of_ble_eq_true rfl) (fillI (fillV rfl rfl (Nat.le_of_ble_eq_true rfl) (fillV rfl rfl (Nat.le_of_ble_eq_true rfl) (fillI ⟨⟨by decide,by decide,rfl⟩,?_⟩)))))
 refine fillA (l := [vint 10,vint 10]) rfl rfl (Nat.le_of_ble_eq_true rfl) (fillA (l := [vint 7,vint 7]) rfl rfl (Nat.le_of_ble_eq_true rfl) (fillI (qNew fun H6 p6 e6 S6 c6 l6 => ?_)))
 have c6 : H6[p6]? = some (.cells (([⟨10,10⟩,⟨7,7⟩] : List Rng).flatMap Rng.cells) true 0) := c6
 have hv6 := S6.sli (S5.sli (unch_sli ((S3.trans S4).sli hv (by simp))) (by simp)) (by simp)
 refine good20 hJ (l := [⟨10,10⟩,⟨7,7⟩]) hv6 (ownX_sli (ownX_new (s := 2) (n := 2) c6 rfl rfl)) (by decide) (cnd_true.2 ⟨⟨by decide,by decide,rfl⟩,?_⟩)
 refine fillV rfl rfl (Nat.le_of_ble_eq_true rfl) (fillI (qNew fun H7 p7 e7 S7 c7 l7 => ?_))
 have c7 : H7[p7]? = some (.cells ([4].map vint) true 0) := c7
 refine good13 hJ (xs := [4]) (ys := [4]) ((S6.trans S7).sli hw (by simp)) (ownX_sli (ownX_new (s := 1) (n := 1) c7 rfl rfl)) (by decide) (retL_same (by simp [unk]) ?_)
 have := hK H7
 simpa [pack] using this
end
end Go.Proofs.Ytfljbanjmplcfaa
namespace Go.Proofs.Ytfljbanjmplcfaa
open Go.Conc Go.Proofs.Try
set_option maxRecDepth 100000
set_option maxHeartbeats 4000000
set_option linter.unusedVariables false
section
variable {main : Bool} {J : JT} {n0 : Nat} {h : List AObj} {K : Value → List AObj → Prop}
theorem at6 : prog.funcs[6]? = some f6 := by kernel_rfl
theorem body6 : f6.body = some (codeOf f6) := by kernel_rfl
def pl6 : Plans := [(6,false,.take 0 (.take 1 (.take 2 (.take 3 (.take 4 (.take 5 (.take 8 (.take 9 (.last 6 true (.take 7 (.last 10 true (.take 11 (.last 12 false (.fin)))))))))))))),
 (16,false,.take 0 (.take 1 (.take 2 (.alt 3 true (.alt 4 true (.alt 5 true (.take 6 (.last 7 true (.last 8 false (.fin)))) (.last 7 true (.last 5 true (.take 6 (.last 8 false (.fin)))))) (.last 7 true (.last 4 true (.last 5 true (.take 6 (.last 8 false (.fin))))))) (.last 7 true (.last 3 true (.last 4 true (.last 5 true (.take 6 (.last 8 false (.fin))))))))))),
 (20,false,.take 0 (.take 1 (.take 2 (.take 3 (.take 5 (.take 9 (.take 10 (.take 14 (.last 4 true (.last 6 true (.last 7 true (.last 8 true (.last 11 true (.last 12 true (.last 13 true (.last 15 true (.take 16 (.last 17 true (.last 18 false (.take 19 (.last 20 false (.fin)))))))))))))))))))))),
 (30,true,.take 0 (.take 1 (.take 2 (.take 3 (.take 4 (.take 5 (.take 6 (.take 7 (.take 8 (.take 9 (.take 10 (.take 11 (.take 12 (.take 13 (.take 14 (.take 15 (.take 16 (.take 17 (.take 18 (.take 19 (.take 20 (.take 21 (.take 22 (.take 23 (.fin)))))))))))))))))))))))))]
def ct6 : Cuts := .bin (.go) (.bin (.go) (.bin (.go) (.bin (.go) (.cut (.bin (.go) (.bin (.go) (.bin (.bin (.go) (.un (.un (.bin (.bin (.go) (.cut (.go))) (.go))))) (.go))))))))
theorem pok6 : plansOk prog pl6 (codeOf f6) = true := by kernel_rfl
theorem e6 {a0 a1 a2 : Value} : W prog J 199 h.length 6 (codeOf f6) (RG.mk (regs [a0,a1,a2]) []) h (RetQ prog [.cell 6 39] h.length K) =
(aAlloc [(vint 0),(vint 0),(Value.slice none 0 0),(vint 0),(Value.slice none 0 0),(Value.slice none 0 0)] h fun v1 h2 =>
Good prog J 9 [a0,(vint 1),(vint 3)] h2 fun v3 h4 =>
Good prog J 9 [a0,(vint 2),(vint 4)] h4 fun v5 h6 =>
aFill [(vint 0),(vint 0),(Value.slice none 0 0)] [(0,1,v3),(1,1,v5)] fun c7 =>
aAlloc [(vint 0),(vint 0),(Value.slice none 0 0)] h6 fun v8 h9 =>
aStore 3 v8 (Value.agg ⟨c7⟩) h9 fun h10 =>
aMin a1 [(vint 8)] fun v11 =>
Good prog J 8 [a0,v11] h10 fun v12 h13 =>
Sem J 199 h.length 6 (subC [1,1,0,1,0] (codeOf f6)) (RG.p (RG.p (RG.p (RG.p (RG.p (RG.p (RG.p (RG.p (RG.p (RG.p (RG.p (RG.p (RG.mk (regs [a0,a1,a2]) []) 6 v1) 16 a0) 17 v3) 18 a0) 19 v5) 20 (Value.agg ⟨c7⟩)) 7 v8) 21 a0) 22 a1) 23 v11) 24 v12) 8 v12) h13 (contX pl6 prog J 199 h.length 6 ct6 [1,1,0,1,0] (codeOf f6) [] (RetQ prog [.cell 6 39] h.length K))) := top_eq pok6 ct6 (by kernel_rfl)
theorem g6 (hJ : Closed prog main J) {a0 a1 a2 : Value} (hs : heapOk h → W prog J 199 h.length 6 (codeOf f6) (RG.mk (regs [a0,a1,a2]) []) h (RetQ prog [.cell 6 39] h.length K)) : Good prog J 6 [a0,a1,a2] h K :=
 good_of_W hJ mixed at6 body6 (by kernel_rfl) (Nat.le_of_ble_eq_true rfl) hs
theorem s6_1 {f : RG} {nx0 : RG → List AObj → Prop} : W prog J 199 n0 6 (subC [1,1,0,1,0,0] (codeOf f6)) f h (thenK nx0 (contX pl6 prog J 199 n0 6 ct6 [1,1,0,1,0] (codeOf f6) [] (RetQ prog [.cell 6 39] n0 K))) =
(aBin prog .gtr 3 (f.r 8) (vint 0) fun v1 =>
cnd v1
(aOff (f.r 7) 1 fun v2 =>
aLoad false 1 v2 h fun v3 =>
aBin prog .sub 3 v3 (vint 1) fun v4 =>
Good prog J 8 [(f.r 0),v4] h fun v5 h6 =>
Good prog J 9 [(f.r 0),(vint 1),(vint 4)] h6 fun v7 h8 =>
(((4 * 1 : Nat) ≤ 16777216 ∧ (4 : Nat) ≤ 16777216 ∧ List.length [(vint 0)] = 1) ∧ aFill (zrep [(vint 0)] 4) [(0,1,(vint 90)),(1,1,(vint 90)),(2,1,(vint 45)),(3,1,(vint 25))] fun c9 =>
aNewS 4 c9 h8 fun v10 h11 =>
Good prog J 15 [(f.r 0),(vint 90),v10] h11 fun v12 h13 =>
aFill [(vint 0),(vint 0),(vint 0),(vint 0),(vint 0),(vint 0),(vint 0)] [(0,1,v5),(2,1,v7),(3,1,v12),(4,1,(vint 1))] fun c14 =>
aAlloc [(vint 0),(vint 0),(vint 0),(vint 0),(vint 0),(vint 0),(vint 0)] h13 fun v15 h16 =>
aStore 7 v15 (Value.agg ⟨c14⟩) h16 fun h17 =>
(∃ B,aOff v15 0 fun v18 =>
aLoad false 1 v18 h17 fun v19 =>
RdOk (some B) (ptrBlk v18) ∧ (aOff (f.r 7) 1 fun v20 =>
aLoad false 1 v20 h17 fun v21 =>
RdOk (some B) (ptrBlk v20) ∧ (aBin prog .sub 3 v21 (vint 1) fun v22 =>
aOff (f.r 7) 1 fun v23 =>
aLoad false 1 v23 h17 fun v24 =>
RdOk (some B) (ptrBlk v23) ∧ (Good prog J 9 [(f.r 0),(vint 1),v22] h17 fun v25 h26 =>
SameB (some B) h17 h26 ∧ (aBin prog .add 3 v19 v25 fun v27 =>
Good prog J 16 [v27,v24] h26 fun v28 h29 =>
SameB (some B) h17 h29 ∧ (aOff v15 1 fun v30 =>
aStore 1 v30 v28 h29 fun h31 =>
Good prog J 8 [(f.r 0),(vint 7)] h31 fun v32 h33 =>
aBin prog .eql 3 v32 (vint 0) fun v34 =>
cnd v34
(aOff (f.r 7) 0 fun v35 =>
aLoad false 1 v35 h33 fun v36 =>
aBin prog .sub 3 v36 (vint 1) fun v37 =>
Good prog J 8 [(f.r 0),v37] h33 fun v38 h39 =>
aOff v15 4 fun v40 =>
aStore 1 v40 (vint 2) h39 fun h41 =>
aOff v15 5 fun v42 =>
aStore 1 v42 v38 h41 fun h43 =>
aOff v15 5 fun v44 =>
aLoad false 1 v44 h43 fun v45 =>
aOff (f.r 7) 0 fun v46 =>
aLoad false 1 v46 h43 fun v47 =>
aBin prog .sub 3 v47 (vint 1) fun v48 =>
Good prog J 9 [(f.r 0),v45,v48] h43 fun v49 h50 =>
aOff v15 6 fun v51 =>
aStore 1 v51 v49 h50 fun h52 =>
aOff (f.r 7) 2 fun v53 =>
aLoad false 1 v53 h52 fun v54 =>
aLoad true 7 v15 h52 fun v55 =>
(((1 * 7 : Nat) ≤ 16777216 ∧ (1 : Nat) ≤ 16777216 ∧ List.length [(vint 0),(vint 0),(vint 0),(vint 0),(vint 0),(vint 0),(vint 0)] = 7) ∧ aFill (zrep [(vint 0),(vint 0),(vint 0),(vint 0),(vint 0),(vint 0),(vint 0)] 1) [(0,7,v55)] fun c56 =>
aNewS 1 c56 h52 fun v57 h58 =>
((List.length [(vint 0),(vint 0),(vint 0),(vint 0),(vint 0),(vint 0),(vint 0)] = 7 ∧ 0 < (7 : Nat) ∧ 0 < (56 : Nat) ∧ (56 : Nat) ≤ 1024) ∧ aApp 7 v54 v57 h58 fun v59 h60 =>
aOff (f.r 7) 2 fun v61 =>
aStore 1 v61 v59 h60 fun h62 =>
aBin prog .sub 3 (f.r 8) (vint 1) fun v63 =>
nx0 (RG.p (RG.p (RG.p (RG.p (RG.p (RG.p (RG.p (RG.p (RG.p (RG.p (RG.p (RG.p (RG.p (RG.p (RG.p (RG.p (RG.p (RG.p (RG.p (RG.p (RG.p (RG.p (RG.p (RG.p (RG.p (RG.p (RG.p (RG.p (RG.p (RG.p (RG.p (RG.p (RG.p (RG.p (RG.p (RG.p (RG.p (RG.p (RG.p (RG.p (RG.p (RG.p (RG.p (RG.p (RG.p (RG.p (RG.p (RG.p (RG.p (RG.p (RG.p (RG.p (RG.p (RG.p f 25 (f.r 8)) 26 v1) 29 (f.r 0)) 30 v2) 31 v3) 32 v4) 33 v5) 34 (f.r 0)) 35 v7) 36 (f.r 0)) 37 v10) 38 v12) 39 (Value.agg ⟨c14⟩)) 9 v15) 40 v18) 41 v19) 42 (f.r 0)) 43 v20) 44 v21) 45 v22) 48 v23) 49 v24) 46 v25) 47 v27) 50 v28) 51 v30) 52 (f.r 0)) 53 v32) 55 v34) 54 v34) 56 (f.r 0)) 57 v35) 58 v36) 59 v37) 60 v38) 61 v40) 62 v42) 63 (f.r 0)) 64 v44) 65 v45) 66 v46) 67 v47) 68 v48) 69 v49) 70 v51) 86 v53) 87 v54) 88 v55) 89 v57) 90 v59) 91 v61) 27 (f.r 8)) 28 v63) 8 v63) h62)))
(aBin prog .eql 3 v32 (vint 1) fun v64 =>
cnd v64
(Good prog J 9 [(f.r 0),(vint 4),(vint 11)] h33 fun v65 h66 =>
Good prog J 9 [(f.r 0),(vint (-2)),(vint 2)] h66 fun v67 h68 =>
aOff v15 4 fun v69 =>
aStore 1 v69 (vint 3) h68 fun h70 =>
aOff v15 5 fun v71 =>
aStore 1 v71 v65 h70 fun h72 =>
aOff v15 6 fun v73 =>
aStore 1 v73 v67 h72 fun h74 =>
aOff (f.r 7) 2 fun v75 =>
aLoad false 1 v75 h74 fun v76 =>
aLoad true 7 v15 h74 fun v77 =>
(((1 * 7 : Nat) ≤ 16777216 ∧ (1 : Nat) ≤ 16777216 ∧ List.length [(vint 0),(vint 0),(vint 0),(vint 0),(vint 0),(vint 0),(vint 0)] = 7) ∧ aFill (zrep [(vint 0),(vint 0),(vint 0),(vint 0),(vint 0),(vint 0),(vint 0)] 1) [(0,7,v77)] fun c78 =>
aNewS 1 c78 h74 fun v79 h80 =>
((List.length [(vint 0),(vint 0),(vint 0),(vint 0),(vint 0),(vint 0),(vint 0)] = 7 ∧ 0 < (7 : Nat) ∧ 0 < (56 : Nat) ∧ (56 : Nat) ≤ 1024) ∧ aApp 7 v76 v79 h80 fun v81 h82 =>
aOff (f.r 7) 2 fun v83 =>
aStore 1 v83 v81 h82 fun h84 =>
aBin prog .sub 3 (f.r 8) (vint 1) fun v85 =>
nx0 (RG.p (RG.p (RG.p (RG.p (RG.p (RG.p (RG.p (RG.p (RG.p (RG.p (RG.p (RG.p (RG.p (RG.p (RG.p (RG.p (RG.p (RG.p (RG.p (RG.p (RG.p (RG.p (RG.p (RG.p (RG.p (RG.p (RG.p (RG.p (RG.p (RG.p (RG.p (RG.p (RG.p (RG.p (RG.p (RG.p (RG.p (RG.p (RG.p (RG.p (RG.p (RG.p (RG.p (RG.p (RG.p (RG.p (RG.p (RG.p f 25 (f.r 8)) 26 v1) 29 (f.r 0)) 30 v2) 31 v3) 32 v4) 33 v5) 34 (f.r 0)) 35 v7) 36 (f.r 0)) 37 v10) 38 v12) 39 (Value.agg ⟨c14⟩)) 9 v15) 40 v18) 41 v19) 42 (f.r 0)) 43 v20) 44 v21) 45 v22) 48 v23) 49 v24) 46 v25) 47 v27) 50 v28) 51 v30) 52 (f.r 0)) 53 v32) 55 v34) 54 v34) 72 v64) 71 v64) 73 (f.r 0)) 74 v65) 75 (f.r 0)) 76 v67) 77 v69) 78 v71) 79 v73) 86 v75) 87 v76) 88 v77) 89 v79) 90 v81) 91 v83) 27 (f.r 8)) 28 v85) 8 v85) h84)))
(aBin prog .eql 3 v32 (vint 2) fun v86 =>
cnd v86
(Good prog J 9 [(f.r 0),(vint 10),(vint 40)] h33 fun v87 h88 =>
aOff v15 4 fun v89 =>
aStore 1 v89 (vint 4) h88 fun h90 =>
aOff v15 5 fun v91 =>
aStore 1 v91 v87 h90 fun h92 =>
aOff (f.r 7) 2 fun v93 =>
aLoad false 1 v93 h92 fun v94 =>
aLoad true 7 v15 h92 fun v95 =>
(((1 * 7 : Nat) ≤ 16777216 ∧ (1 : Nat) ≤ 16777216 ∧ List.length [(vint 0),(vint 0),(vint 0),(vint 0),(vint 0),(vint 0),(vint 0)] = 7) ∧ aFill (zrep [(vint 0),(vint 0),(vint 0),(vint 0),(vint 0),(vint 0),(vint 0)] 1) [(0,7,v95)] fun c96 =>
aNewS 1 c96 h92 fun v97 h98 =>
((List.length [(vint 0),(vint 0),(vint 0),(vint 0),(vint 0),(vint 0),(vint 0)] = 7 ∧ 0 < (7 : Nat) ∧ 0 < (56 : Nat) ∧ (56 : Nat) ≤ 1024) ∧ aApp 7 v94 v97 h98 fun v99 h100 =>
aOff (f.r 7) 2 fun v101 =>
aStore 1 v101 v99 h100 fun h102 =>
aBin prog .sub 3 (f.r 8) (vint 1) fun v103 =>
nx0 (RG.p (RG.p (RG.p (RG.p (RG.p (RG.p (RG.p (RG.p (RG.p (RG.p (RG.p (RG.p (RG.p (RG.p (RG.p (RG.p (RG.p (RG.p (RG.p (RG.p (RG.p (RG.p (RG.p (RG.p (RG.p (RG.p (RG.p (RG.p (RG.p (RG.p (RG.p (RG.p (RG.p (RG.p (RG.p (RG.p (RG.p (RG.p (RG.p (RG.p (RG.p (RG.p (RG.p (RG.p (RG.p (RG.p (RG.p f 25 (f.r 8)) 26 v1) 29 (f.r 0)) 30 v2) 31 v3) 32 v4) 33 v5) 34 (f.r 0)) 35 v7) 36 (f.r 0)) 37 v10) 38 v12) 39 (Value.agg ⟨c14⟩)) 9 v15) 40 v18) 41 v19) 42 (f.r 0)) 43 v20) 44 v21) 45 v22) 48 v23) 49 v24) 46 v25) 47 v27) 50 v28) 51 v30) 52 (f.r 0)) 53 v32) 55 v34) 54 v34) 72 v64) 71 v64) 81 v86) 80 v86) 82 (f.r 0)) 83 v87) 84 v89) 85 v91) 86 v93) 87 v94) 88 v95) 89 v97) 90 v99) 91 v101) 27 (f.r 8)) 28 v103) 8 v103) h102)))
(aOff (f.r 7) 2 fun v104 =>
aLoad false 1 v104 h33 fun v105 =>
aLoad true 7 v15 h33 fun v106 =>
(((1 * 7 : Nat) ≤ 16777216 ∧ (1 : Nat) ≤ 16777216 ∧ List.length [(vint 0),(vint 0),(vint 0),(vint 0),(vint 0),(vint 0),(vint 0)] = 7) ∧ aFill (zrep [(vint 0),(vint 0),(vint 0),(vint 0),(vint 0),(vint 0),(vint 0)] 1) [(0,7,v106)] fun c107 =>
aNewS 1 c107 h33 fun v108 h109 =>
((List.length [(vint 0),(vint 0),(vint 0),(vint 0),(vint 0),(vint 0),(vint 0)] = 7 ∧ 0 < (7 : Nat) ∧ 0 < (56 : Nat) ∧ (56 : Nat) ≤ 1024) ∧ aApp 7 v105 v108 h109 fun v110 h111 =>
aOff (f.r 7) 2 fun v112 =>
aStore 1 v112 v110 h111 fun h113 =>
aBin prog .sub 3 (f.r 8) (vint 1) fun v114 =>
nx0 (RG.p (RG.p (RG.p (RG.p (RG.p (RG.p (RG.p (RG.p (RG.p (RG.p (RG.p (RG.p (RG.p (RG.p (RG.p (RG.p (RG.p (RG.p (RG.p (RG.p (RG.p (RG.p (RG.p (RG.p (RG.p (RG.p (RG.p (RG.p (RG.p (RG.p (RG.p (RG.p (RG.p (RG.p (RG.p (RG.p (RG.p (RG.p (RG.p (RG.p (RG.p (RG.p (RG.p f 25 (f.r 8)) 26 v1) 29 (f.r 0)) 30 v2) 31 v3) 32 v4) 33 v5) 34 (f.r 0)) 35 v7) 36 (f.r 0)) 37 v10) 38 v12) 39 (Value.agg ⟨c14⟩)) 9 v15) 40 v18) 41 v19) 42 (f.r 0)) 43 v20) 44 v21) 45 v22) 48 v23) 49 v24) 46 v25) 47 v27) 50 v28) 51 v30) 52 (f.r 0)) 53 v32) 55 v34) 54 v34) 72 v64) 71 v64) 81 v86) 80 v86) 86 v104) 87 v105) 88 v106) 89 v108) 90 v110) 91 v112) 27 (f.r 8)) 28 v114) 8 v114) h113)))))))))))))
((∃ B,aLoad true 3 (f.r 7) h fun v115 =>
RdOk (some B) (ptrBlk (f.r 7)) ∧ ((Good prog J 9 [(f.r 0),(vint 1),(vint 9)] h fun v116 h117 =>
SameB (some B) h h117 ∧ (((((3 * 1 : Nat) ≤ 16777216 ∧ (3 : Nat) ≤ 16777216 ∧ List.length [(vint 0)] = 1) ∧ aFill (zrep [(vint 0)] 3) [(0,1,(vint 6)),(1,1,(vint 9)),(2,1,v116)] fun c118 =>
aNewS 3 c118 h117 fun v119 h120 =>
SameB (some B) h h120 ∧ ((Good prog J 15 [(f.r 0),(vint 4),v119] h120 fun v121 h122 =>
SameB (some B) h h122 ∧ (aFill [(vint 0),(vint 0),(Value.slice none 0 0),(vint 0),(Value.slice none 0 0),(Value.slice none 0 0)] [(0,3,v115),(3,1,v121)] fun c123 =>
aAlloc [(vint 0),(vint 0),(Value.slice none 0 0),(vint 0),(Value.slice none 0 0),(Value.slice none 0 0)] h122 fun v124 h125 =>
SameB (some B) h h125 ∧ (aStore 6 v124 (Value.agg ⟨c123⟩) h125 fun h126 =>
Hold (W prog J 199 n0 6 (subC [1,1,1,1] (codeOf f6)) (RG.p (RG.p (RG.p (RG.p (RG.p (RG.p (RG.p (RG.p (RG.p (RG.p f 25 (f.r 8)) 26 v1) 92 v115) 93 (f.r 0)) 94 (f.r 0)) 95 v116) 96 v119) 97 v121) 98 (Value.agg ⟨c123⟩)) 10 v124) h126 (contX pl6 prog J 199 n0 6 ct6 [1,1,1,1] (codeOf f6) [] (RetQ prog [.cell 6 39] n0 K)))))) ∧ (aAlloc [(vint 0),(vint 0),(Value.slice none 0 0),(vint 0),(Value.slice none 0 0),(Value.slice none 0 0)] h120 fun v127 h128 =>
SameB (some B) h h128 ∧ (Good prog J 15 [(f.r 0),(vint 4),v119] h128 fun v129 h130 =>
SameB (some B) h h130 ∧ (aFill [(vint 0),(vint 0),(Value.slice none 0 0),(vint 0),(Value.slice none 0 0),(Value.slice none 0 0)] [(0,3,v115),(3,1,v129)] fun c131 =>
aStore 6 v127 (Value.agg ⟨c131⟩) h130 fun h132 =>
Hold (W prog J 199 n0 6 (subC [1,1,1,1] (codeOf f6)) (RG.p (RG.p (RG.p (RG.p (RG.p (RG.p (RG.p (RG.p (RG.p (RG.p f 25 (f.r 8)) 26 v1) 92 v115) 93 (f.r 0)) 94 (f.r 0)) 95 v116) 96 v119) 10 v127) 97 v129) 98 (Value.agg ⟨c131⟩)) h132 (contX pl6 prog J 199 n0 6 ct6 [1,1,1,1] (codeOf f6) [] (RetQ prog [.cell 6 39] n0 K))))))))) ∧ (aAlloc [(vint 0),(vint 0),(Value.slice none 0 0),(vint 0),(Value.slice none 0 0),(Value.slice none 0 0)] h117 fun v133 h134 =>
SameB (some B) h h134 ∧ ((((3 * 1 : Nat) ≤ 16777216 ∧ (3 : Nat) ≤ 16777216 ∧ List.length [(vint 0)] = 1) ∧ aFill (zrep [(vint 0)] 3) [(0,1,(vint 6)),(1,1,(vint 9)),(2,1,v116)] fun c135 =>
aNewS 3 c135 h134 fun v136 h137 =>
SameB (some B) h h137 ∧ (Good prog J 15 [(f.r 0),(vint 4),v136] h137 fun v138 h139 =>
SameB (some B) h h139 ∧ (aFill [(vint 0),(vint 0),(Value.slice none 0 0),(vint 0),(Value.slice none 0 0),(Value.slice none 0 0)] [(0,3,v115),(3,1,v138)] fun c140 =>
aStore 6 v133 (Value.agg ⟨c140⟩) h139 fun h141 =>
Hold (W prog J 199 n0 6 (subC [1,1,1,1] (codeOf f6)) (RG.p (RG.p (RG.p (RG.p (RG.p (RG.p (RG.p (RG.p (RG.p (RG.p f 25 (f.r 8)) 26 v1) 92 v115) 93 (f.r 0)) 94 (f.r 0)) 95 v116) 10 v133) 96 v136) 97 v138) 98 (Value.agg ⟨c140⟩)) h141 (contX pl6 prog J 199 n0 6 ct6 [1,1,1,1] (codeOf f6) [] (RetQ prog [.cell 6 39] n0 K)))))))))) ∧ (aAlloc [(vint 0),(vint 0),(Value.slice none 0 0),(vint 0),(Value.slice none 0 0),(Value.slice none 0 0)] h fun v142 h143 =>
SameB (some B) h h143 ∧ (Good prog J 9 [(f.r 0),(vint 1),(vint 9)] h143 fun v144 h145 =>
SameB (some B) h h145 ∧ ((((3 * 1 : Nat) ≤ 16777216 ∧ (3 : Nat) ≤ 16777216 ∧ List.length [(vint 0)] = 1) ∧ aFill (zrep [(vint 0)] 3) [(0,1,(vint 6)),(1,1,(vint 9)),(2,1,v144)] fun c146 =>
aNewS 3 c146 h145 fun v147 h148 =>
SameB (some B) h h148 ∧ (Good prog J 15 [(f.r 0),(vint 4),v147] h148 fun v149 h150 =>
SameB (some B) h h150 ∧ (aFill [(vint 0),(vint 0),(Value.slice none 0 0),(vint 0),(Value.slice none 0 0),(Value.slice none 0 0)] [(0,3,v115),(3,1,v149)] fun c151 =>
aStore 6 v142 (Value.agg ⟨c151⟩) h150 fun h152 =>
Hold (W prog J 199 n0 6 (subC [1,1,1,1] (codeOf f6)) (RG.p (RG.p (RG.p (RG.p (RG.p (RG.p (RG.p (RG.p (RG.p (RG.p f 25 (f.r 8)) 26 v1) 92 v115) 93 (f.r 0)) 94 (f.r 0)) 10 v142) 95 v144) 96 v147) 97 v149) 98 (Value.agg ⟨c151⟩)) h152 (contX pl6 prog J 199 n0 6 ct6 [1,1,1,1] (codeOf f6) [] (RetQ prog [.cell 6 39] n0 K))))))))))))) := sub_eq pok6 ct6 (by kernel_rfl)
theorem l6_1 (hJ : Closed prog main J) {S : Type} (μ : S → Nat) (I : S → RG → List AObj → Prop) (hI : ∀ s f h,I s f h → heapOk h → n0 ≤ h.length → W prog J 199 n0 6 (subC [1,1,0,1,0,0] (codeOf f6)) f h (thenK (Nx n0 μ I s) (contX pl6 prog J 199 n0 6 ct6 [1,1,0,1,0] (codeOf f6) [] (RetQ prog [.cell 6 39] n0 K))))
 {s : S} {f : RG} (hi : Gets n0 I s f h) : Sem J 199 n0 6 (subC [1,1,0,1,0] (codeOf f6)) f h (contX pl6 prog J 199 n0 6 ct6 [1,1,0,1,0] (codeOf f6) [] (RetQ prog [.cell 6 39] n0 K)) :=
 loop_rule hJ mixed (b := subC [1,1,0,1,0,0] (codeOf f6)) (by kernel_rfl) μ I hI hi
theorem s6_2 {f : RG} : W prog J 199 n0 6 (subC [1,1,1,1] (codeOf f6)) f h (contX pl6 prog J 199 n0 6 ct6 [1,1,1,1] (codeOf f6) [] (RetQ prog [.cell 6 39] n0 K)) =
(Good prog J 9 [(f.r 0),(vint 1),(vint 3)] h fun v1 h2 =>
Sem J 199 n0 6 (subC [1,1,1,1,0,1,0] (codeOf f6)) (RG.p (RG.p (RG.p f 99 (f.r 0)) 100 v1) 11 v1) h2 (contX pl6 prog J 199 n0 6 ct6 [1,1,1,1,0,1,0] (codeOf f6) [] (RetQ prog [.cell 6 39] n0 K))) := sub_eq pok6 ct6 (by kernel_rfl)
theorem s6_3 {f : RG} {nx0 : RG → List AObj → Prop} : W prog J 199 n0 6 (subC [1,1,1,1,0,1,0,0] (codeOf f6)) f h (thenK nx0 (contX pl6 prog J 199 n0 6 ct6 [1,1,1,1,0,1,0] (codeOf f6) [] (RetQ prog [.cell 6 39] n0 K))) =
(aBin prog .gtr 3 (f.r 11) (vint 0) fun v1 =>
cnd v1
((∃ B,aOff (f.r 10) 4 fun v2 =>
aLoad false 1 v2 h fun v3 =>
RdOk (some B) (ptrBlk v2) ∧ (Good prog J 8 [(f.r 0),(vint 4)] h fun v4 h5 =>
SameB (some B) h h5 ∧ (Good prog J 8 [(f.r 0),(vint 12)] h5 fun v6 h7 =>
SameB (some B) h h7 ∧ ((((1 * 1 : Nat) ≤ 16777216 ∧ (1 : Nat) ≤ 16777216 ∧ List.length [(vint 0)] = 1) ∧ aFill (zrep [(vint 0)] 1) [(0,1,v6)] fun c8 =>
aNewS 1 c8 h7 fun v9 h10 =>
SameB (some B) h h10 ∧ (Good prog J 15 [(f.r 0),v4,v9] h10 fun v11 h12 =>
SameB (some B) h h12 ∧ (Good prog J 8 [(f.r 0),(vint 5)] h12 fun v13 h14 =>
SameB (some B) h h14 ∧ ((((2 * 1 : Nat) ≤ 16777216 ∧ (2 : Nat) ≤ 16777216 ∧ List.length [(vint 0)] = 1) ∧ aFill (zrep [(vint 0)] 2) [(0,1,(vint 0)),(1,1,v13)] fun c15 =>
aNewS 2 c15 h14 fun v16 h17 =>
SameB (some B) h h17 ∧ (Good prog J 15 [(f.r 0),(vint 0),v16] h17 fun v18 h19 =>
SameB (some B) h h19 ∧ (Good prog J 17 [(f.r 0),(vint 1),(vint 4)] h19 fun v20 h21 =>
SameB (some B) h h21 ∧ (aFill [(vint 0),(vint 0),(Value.bool false)] [(0,1,v11),(1,1,v18),(2,1,v20)] fun c22 =>
(((1 * 3 : Nat) ≤ 16777216 ∧ (1 : Nat) ≤ 16777216 ∧ List.length [(vint 0),(vint 0),(Value.bool false)] = 3) ∧ aFill (zrep [(vint 0),(vint 0),(Value.bool false)] 1) [(0,3,(Value.agg ⟨c22⟩))] fun c23 =>
aNewS 1 c23 h21 fun v24 h25 =>
SameB (some B) h h25 ∧ (((List.length [(vint 0),(vint 0),(Value.bool false)] = 3 ∧ 0 < (3 : Nat) ∧ 0 < (24 : Nat) ∧ (24 : Nat) ≤ 1024) ∧ aApp 3 v3 v24 h25 fun v26 h27 =>
aOff (f.r 10) 4 fun v28 =>
aStore 1 v28 v26 h27 fun h29 =>
aBin prog .sub 3 (f.r 11) (vint 1) fun v30 =>
nx0 (RG.p (RG.p (RG.p (RG.p (RG.p (RG.p (RG.p (RG.p (RG.p (RG.p (RG.p (RG.p (RG.p (RG.p (RG.p (RG.p (RG.p (RG.p (RG.p (RG.p (RG.p (RG.p (RG.p (RG.p (RG.p f 101 (f.r 11)) 102 v1) 105 v2) 106 v3) 107 (f.r 0)) 108 (f.r 0)) 110 (f.r 0)) 114 (f.r 0)) 115 (f.r 0)) 119 (f.r 0)) 109 v4) 111 v6) 112 v9) 113 v11) 116 v13) 117 v16) 118 v18) 120 v20) 121 (Value.agg ⟨c22⟩)) 122 v24) 123 v26) 124 v28) 103 (f.r 11)) 104 v30) 11 v30) h29))))))))))))))))
(aOff (f.r 10) 4 fun v31 =>
aLoad false 1 v31 h fun v32 =>
aIdx 3 v32 (vint 0) fun v33 =>
aOff v33 0 fun v34 =>
aLoad false 1 v34 h fun v35 =>
aBin prog .add 3 v35 (vint 1) fun v36 =>
aIdx 3 v32 (vint 0) fun v37 =>
aOff v37 0 fun v38 =>
aStore 1 v38 v36 h fun h39 =>
aMin (f.r 2) [(vint 6)] fun v40 =>
Good prog J 8 [(f.r 0),v40] h39 fun v41 h42 =>
Sem J 199 n0 6 (subC [1,1,1,1,1,1,0,1,0] (codeOf f6)) (RG.p (RG.p (RG.p (RG.p (RG.p (RG.p (RG.p (RG.p (RG.p (RG.p (RG.p (RG.p (RG.p (RG.p (RG.p f 101 (f.r 11)) 102 v1) 125 v31) 126 v32) 127 v33) 128 v34) 129 v35) 130 v36) 131 v37) 132 v38) 133 (f.r 0)) 134 (f.r 2)) 135 v40) 136 v41) 12 v41) h42 (contX pl6 prog J 199 n0 6 ct6 [1,1,1,1,1,1,0,1,0] (codeOf f6) [] (RetQ prog [.cell 6 39] n0 K)))) := sub_eq pok6 ct6 (by kernel_rfl)
theorem l6_3 (hJ : Closed prog main J) {S : Type} (μ : S → Nat) (I : S → RG → List AObj → Prop) (hI : ∀ s f h,I s f h → heapOk h → n0 ≤ h.length → W prog J 199 n0 6 (subC [1,1,1,1,0,1,0,0] (codeOf f6)) f h (thenK (Nx n0 μ I s) (contX pl6 prog J 199 n0 6 ct6 [1,1,1,1,0,1,0] (codeOf f6) [] (RetQ prog [.cell 6 39] n0 K))))
 {s : S} {f : RG} (hi : Gets n0 I s f h) : Sem J 199 n0 6 (subC [1,1,1,1,0,1,0] (codeOf f6)) f h (contX pl6 prog J 199 n0 6 ct6 [1,1,1,1,0,1,0] (codeOf f6) [] (RetQ prog [.cell 6 39] n0 K)) :=
 loop_rule hJ mixed (b := subC [1,1,1,1,0,1,0,0] (codeOf f6)) (by kernel_rfl) μ I hI hi
theorem s6_4 {f : RG} {nx0 : RG → List AObj → Prop} : W prog J 199 n0 6 (subC [1,1,1,1,1,1,0,1,0,0] (codeOf f6)) f h (thenK nx0 (contX pl6 prog J 199 n0 6 ct6 [1,1,1,1,1,1,0,1,0] (codeOf f6) [] (RetQ prog [.cell 6 39] n0 K))) =
(aBin prog .gtr 3 (f.r 12) (vint 0) fun v1 =>
cnd v1
(aOff (f.r 7) 2 fun v2 =>
aLoad false 1 v2 h fun v3 =>
aLenS v3 fun v4 =>
aBin prog .gtr 3 v4 (vint 0) fun v5 =>
Hold (W prog J 199 n0 6 (subC [1,1,1,1,1,1,0,1,0,0,0,1] (codeOf f6)) (RG.p (RG.p (RG.p (RG.p (RG.p (RG.p (RG.p (RG.p (RG.p f 137 (f.r 12)) 138 v1) 139 v1) 139 (Value.bool true)) 140 v2) 141 v3) 142 v4) 143 v5) 144 v5) h (contX pl6 prog J 199 n0 6 ct6 [1,1,1,1,1,1,0,1,0,0,0,1] (codeOf f6) [nx0] (RetQ prog [.cell 6 39] n0 K))))
(Hold (W prog J 199 n0 6 (subC [1,1,1,1,1,1,0,1,0,0,0,1] (codeOf f6)) (RG.p (RG.p (RG.p (RG.p (RG.p (RG.p (RG.p (RG.p (RG.p f 137 (f.r 12)) 138 v1) 139 v1) 139 (Value.bool false)) 140 undef) 141 undef) 142 undef) 143 undef) 144 (Value.bool false)) h (contX pl6 prog J 199 n0 6 ct6 [1,1,1,1,1,1,0,1,0,0,0,1] (codeOf f6) [nx0] (RetQ prog [.cell 6 39] n0 K))))) := sub_eq pok6 ct6 (by kernel_rfl)
theorem l6_4 (hJ : Closed prog main J) {S : Type} (μ : S → Nat) (I : S → RG → List AObj → Prop) (hI : ∀ s f h,I s f h → heapOk h → n0 ≤ h.length → W prog J 199 n0 6 (subC [1,1,1,1,1,1,0,1,0,0] (codeOf f6)) f h (thenK (Nx n0 μ I s) (contX pl6 prog J 199 n0 6 ct6 [1,1,1,1,1,1,0,1,0] (codeOf f6) [] (RetQ prog [.cell 6 39] n0 K))))
 {s : S} {f : RG} (hi : Gets n0 I s f h) : Sem J 199 n0 6 (subC [1,1,1,1,1,1,0,1,0] (codeOf f6)) f h (contX pl6 prog J 199 n0 6 ct6 [1,1,1,1,1,1,0,1,0] (codeOf f6) [] (RetQ prog [.cell 6 39] n0 K)) :=
 loop_rule hJ mixed (b := subC [1,1,1,1,1,1,0,1,0,0] (codeOf f6)) (by kernel_rfl) μ I hI hi
theorem s6_5 {f : RG} {nx0 : RG → List AObj → Prop} : W prog J 199 n0 6 (subC [1,1,1,1,1,1,0,1,0,0,0,1] (codeOf f6)) f h (contX pl6 prog J 199 n0 6 ct6 [1,1,1,1,1,1,0,1,0,0,0,1] (codeOf f6) [nx0] (RetQ prog [.cell 6 39] n0 K)) =
(cnd (f.r 144)
(aOff (f.r 7) 2 fun v1 =>
aLoad false 1 v1 h fun v2 =>
aLenS v2 fun v3 =>
aBin prog .sub 3 v3 (vint 1) fun v4 =>
Good prog J 8 [(f.r 0),v4] h fun v5 h6 =>
Good prog J 8 [(f.r 0),(vint 500)] h6 fun v7 h8 =>
(((3 * 1 : Nat) ≤ 16777216 ∧ (3 : Nat) ≤ 16777216 ∧ List.length [(vint 0)] = 1) ∧ aFill (zrep [(vint 0)] 3) [(0,1,(vint 25)),(1,1,(vint 50)),(2,1,v7)] fun c9 =>
aNewS 3 c9 h8 fun v10 h11 =>
Good prog J 15 [(f.r 0),(vint 0),v10] h11 fun v12 h13 =>
Good prog J 9 [(f.r 0),(vint 1),(vint 3)] h13 fun v14 h15 =>
aFill [(vint 0),(vint 0),(vint 0)] [(0,1,v5),(1,1,v12),(2,1,v14)] fun c16 =>
aAlloc [(vint 0),(vint 0),(vint 0)] h15 fun v17 h18 =>
aStore 3 v17 (Value.agg ⟨c16⟩) h18 fun h19 =>
Sem J 199 n0 6 (subC [1,1,1,1,1,1,0,1,0,0,1,0,0,1,1,0,1,0] (codeOf f6)) (RG.p (RG.p (RG.p (RG.p (RG.p (RG.p (RG.p (RG.p (RG.p (RG.p (RG.p (RG.p (RG.p (RG.p (RG.p (RG.p (RG.p f 147 (f.r 0)) 148 v1) 149 v2) 150 v3) 151 v4) 152 v5) 153 (f.r 0)) 154 (f.r 0)) 155 v7) 156 v10) 157 v12) 158 (f.r 0)) 159 v14) 160 (Value.agg ⟨c16⟩)) 13 v17) 14 (Value.bool true)) 15 (vint 0)) h19 (contX pl6 prog J 199 n0 6 ct6 [1,1,1,1,1,1,0,1,0,0,1,0,0,1,1,0,1,0] (codeOf f6) [nx0] (RetQ prog [.cell 6 39] n0 K))))
(aLoad true 6 (f.r 10) h fun v20 =>
aStore 6 (f.r 6) v20 h fun h21 =>
RetQ prog [.cell 6 39] n0 K .ret (RG.p f 198 v20) h21)) := sub_eq pok6 ct6 (by kernel_rfl)
theorem s6_6 {f : RG} {nx0 nx1 : RG → List AObj → Prop} : W prog J 199 n0 6 (subC [1,1,1,1,1,1,0,1,0,0,1,0,0,1,1,0,1,0,0] (codeOf f6)) f h (thenK nx1 (contX pl6 prog J 199 n0 6 ct6 [1,1,1,1,1,1,0,1,0,0,1,0,0,1,1,0,1,0] (codeOf f6) [nx0] (RetQ prog [.cell 6 39] n0 K))) =
(aOff (f.r 10) 5 fun v1 =>
aLoad false 1 v1 h fun v2 =>
aLenS v2 fun v3 =>
aBin prog .lss 3 (f.r 15) v3 fun v4 =>
cnd v4
(cnd (f.r 14)
(aOff (f.r 10) 5 fun v5 =>
aLoad false 1 v5 h fun v6 =>
aIdx 3 v6 (f.r 15) fun v7 =>
aOff v7 0 fun v8 =>
aLoad false 1 v8 h fun v9 =>
aOff (f.r 13) 0 fun v10 =>
aLoad false 1 v10 h fun v11 =>
aBin prog .neq 3 v9 v11 fun v12 =>
cnd v12
(aBin prog .add 3 (f.r 15) (vint 1) fun v13 =>
nx1 (RG.p (RG.p (RG.p (RG.p (RG.p (RG.p (RG.p (RG.p (RG.p (RG.p (RG.p (RG.p (RG.p (RG.p (RG.p (RG.p (RG.p (RG.p (RG.p (RG.p (RG.p (RG.p (RG.p (RG.p (RG.p (RG.p (RG.p (RG.p (RG.p (RG.p (RG.p (RG.p (RG.p (RG.p f 161 (f.r 15)) 162 v1) 163 v2) 164 v3) 165 v4) 168 (f.r 14)) 169 (f.r 14)) 169 (Value.bool true)) 170 v5) 171 v6) 172 (f.r 15)) 173 v7) 174 v8) 175 v9) 176 v10) 177 v11) 178 v12) 179 v12) 179 (Value.bool true)) 180 undef) 181 undef) 182 undef) 183 undef) 184 undef) 185 undef) 186 undef) 187 undef) 188 undef) 189 (Value.bool true)) 190 (Value.bool true)) 14 (Value.bool true)) 166 (f.r 15)) 167 v13) 15 v13) h)
(aOff (f.r 10) 5 fun v14 =>
aLoad false 1 v14 h fun v15 =>
aIdx 3 v15 (f.r 15) fun v16 =>
aOff v16 2 fun v17 =>
aLoad false 1 v17 h fun v18 =>
aOff (f.r 13) 2 fun v19 =>
aLoad false 1 v19 h fun v20 =>
aBin prog .neq 3 v18 v20 fun v21 =>
aBin prog .add 3 (f.r 15) (vint 1) fun v22 =>
nx1 (RG.p (RG.p (RG.p (RG.p (RG.p (RG.p (RG.p (RG.p (RG.p (RG.p (RG.p (RG.p (RG.p (RG.p (RG.p (RG.p (RG.p (RG.p (RG.p (RG.p (RG.p (RG.p (RG.p (RG.p (RG.p (RG.p (RG.p (RG.p (RG.p (RG.p (RG.p (RG.p (RG.p (RG.p f 161 (f.r 15)) 162 v1) 163 v2) 164 v3) 165 v4) 168 (f.r 14)) 169 (f.r 14)) 169 (Value.bool true)) 170 v5) 171 v6) 172 (f.r 15)) 173 v7) 174 v8) 175 v9) 176 v10) 177 v11) 178 v12) 179 v12) 179 (Value.bool false)) 180 v14) 181 v15) 182 (f.r 15)) 183 v16) 184 v17) 185 v18) 186 v19) 187 v20) 188 v21) 189 v21) 190 v21) 14 v21) 166 (f.r 15)) 167 v22) 15 v22) h))
(aBin prog .add 3 (f.r 15) (vint 1) fun v23 =>
nx1 (RG.p (RG.p (RG.p (RG.p (RG.p (RG.p (RG.p (RG.p (RG.p (RG.p (RG.p (RG.p (RG.p (RG.p (RG.p (RG.p (RG.p (RG.p (RG.p (RG.p (RG.p (RG.p (RG.p (RG.p (RG.p (RG.p (RG.p (RG.p (RG.p (RG.p (RG.p (RG.p (RG.p f 161 (f.r 15)) 162 v1) 163 v2) 164 v3) 165 v4) 168 (f.r 14)) 169 (f.r 14)) 169 (Value.bool false)) 170 undef) 171 undef) 172 undef) 173 undef) 174 undef) 175 undef) 176 undef) 177 undef) 178 undef) 179 undef) 180 undef) 181 undef) 182 undef) 183 undef) 184 undef) 185 undef) 186 undef) 187 undef) 188 undef) 189 undef) 190 (Value.bool false)) 14 (Value.bool false)) 166 (f.r 15)) 167 v23) 15 v23) h))
(cnd (f.r 14)
(aOff (f.r 10) 5 fun v24 =>
aLoad false 1 v24 h fun v25 =>
aLoad true 3 (f.r 13) h fun v26 =>
(((1 * 3 : Nat) ≤ 16777216 ∧ (1 : Nat) ≤ 16777216 ∧ List.length [(vint 0),(vint 0),(vint 0)] = 3) ∧ aFill (zrep [(vint 0),(vint 0),(vint 0)] 1) [(0,3,v26)] fun c27 =>
aNewS 1 c27 h fun v28 h29 =>
((List.length [(vint 0),(vint 0),(vint 0)] = 3 ∧ 0 < (3 : Nat) ∧ 0 < (24 : Nat) ∧ (24 : Nat) ≤ 1024) ∧ aApp 3 v25 v28 h29 fun v30 h31 =>
aOff (f.r 10) 5 fun v32 =>
aStore 1 v32 v30 h31 fun h33 =>
aBin prog .sub 3 (f.r 12) (vint 1) fun v34 =>
nx0 (RG.p (RG.p (RG.p (RG.p (RG.p (RG.p (RG.p (RG.p (RG.p (RG.p (RG.p (RG.p (RG.p (RG.p (RG.p f 161 (f.r 15)) 162 v1) 163 v2) 164 v3) 165 v4) 191 (f.r 14)) 192 v24) 193 v25) 194 v26) 195 v28) 196 v30) 197 v32) 145 (f.r 12)) 146 v34) 12 v34) h33)))
(aBin prog .sub 3 (f.r 12) (vint 1) fun v35 =>
nx0 (RG.p (RG.p (RG.p (RG.p (RG.p (RG.p (RG.p (RG.p (RG.p f 161 (f.r 15)) 162 v1) 163 v2) 164 v3) 165 v4) 191 (f.r 14)) 145 (f.r 12)) 146 v35) 12 v35) h))) := sub_eq pok6 ct6 (by kernel_rfl)
theorem l6_6 (hJ : Closed prog main J) {nx0 : RG → List AObj → Prop} {S : Type} (μ : S → Nat) (I : S → RG → List AObj → Prop) (hI : ∀ s f h,I s f h → heapOk h → n0 ≤ h.length → W prog J 199 n0 6 (subC [1,1,1,1,1,1,0,1,0,0,1,0,0,1,1,0,1,0,0] (codeOf f6)) f h (thenK (Nx n0 μ I s) (contX pl6 prog J 199 n0 6 ct6 [1,1,1,1,1,1,0,1,0,0,1,0,0,1,1,0,1,0] (codeOf f6) [nx0] (RetQ prog [.cell 6 39] n0 K))))
 {s : S} {f : RG} (hi : Gets n0 I s f h) : Sem J 199 n0 6 (subC [1,1,1,1,1,1,0,1,0,0,1,0,0,1,1,0,1,0] (codeOf f6)) f h (contX pl6 prog J 199 n0 6 ct6 [1,1,1,1,1,1,0,1,0,0,1,0,0,1,1,0,1,0] (codeOf f6) [nx0] (RetQ prog [.cell 6 39] n0 K)) :=
 loop_rule hJ mixed (b := subC [1,1,1,1,1,1,0,1,0,0,1,0,0,1,1,0,1,0,0] (codeOf f6)) (by kernel_rfl) μ I hI hi
theorem at16 : prog.funcs[16]? = some f16 := by kernel_rfl
theorem body16 : f16.body = some (codeOf f16) := by kernel_rfl
def pl16 : Plans := []
def ct16 : Cuts := .go
theorem pok16 : plansOk prog pl16 (codeOf f16) = true := by kernel_rfl
theorem e16 {a0 a1 : Value} : W prog J 16 h.length 16 (codeOf f16) (RG.mk (regs [a0,a1]) []) h (RetQ prog [.tmp 4] h.length K) =
(aBin prog .lss 3 a1 (vint 1) fun v1 =>
cnd v1
(retL h.length K [] [(vint 0)] h)
(aBin prog .rem 3 a0 a1 fun v2 =>
aBin prog .lss 3 v2 (vint 0) fun v3 =>
cnd v3
(aBin prog .add 3 v2 a1 fun v4 =>
retL h.length K [] [v4] h)
(retL h.length K [] [v2] h))) := top_eq pok16 ct16 (by kernel_rfl)
theorem g16 (hJ : Closed prog main J) {a0 a1 : Value} (hs : heapOk h → W prog J 16 h.length 16 (codeOf f16) (RG.mk (regs [a0,a1]) []) h (RetQ prog [.tmp 4] h.length K)) : Good prog J 16 [a0,a1] h K :=
 good_of_W hJ mixed at16 body16 (by kernel_rfl) (Nat.le_of_ble_eq_true rfl) hs
end
end Go.Proofs.Ytfljbanjmplcfaa
