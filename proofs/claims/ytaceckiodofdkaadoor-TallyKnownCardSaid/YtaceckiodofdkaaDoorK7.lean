/- Parts of the proof, 7. No conditions. -/
import Derived.Test.YtaceckiodofdkaaDoorK2
import Derived.Test.YtaceckiodofdkaaDoorK5
import Derived.Test.YtaceckiodofdkaaDoorK6
import Derived.Test.YtaceckiodofdkaaDoorK4
import Derived.Conc.MarkLaws
import Derived.Conc.AtomicLaws2
import Derived.Test.YtaceckiodofdkaaDoorK3
namespace Go.Proofs.YtaceckiodofdkaaDoor
open Go.Conc Go.Proofs.Tryd
set_option maxRecDepth 100000
set_option maxHeartbeats 4000000
set_option linter.unusedVariables false
section
variable {main : Bool} {J : JT} {n0 : Nat} {h : List AObj} {K : Value → List AObj → Prop}
theorem at4 : prog.funcs[4]? = some f4 := by kernel_rfl
theorem body4 : f4.body = some (codeOf f4) := by kernel_rfl
def pl4 : Plans := []
def ct4 : Cuts := .go
theorem pok4 : plansOk prog pl4 (codeOf f4) = true := by kernel_rfl
theorem e4 {a0 a1 : Value} : W prog J 16 h.length 4 (codeOf f4) (RG.mk (regs [a0,a1]) []) h (RetQ prog [.cell 4 27] h.length K) =
(aAlloc [(vint 0),(vint 0),(vint 0),(Value.slice none 0 0),(vint 0),(Value.slice none 0 0)] h fun v1 h2 =>
 aFill [(vint 0),(vint 0)] [(0,1,(vint 100)),(1,1,(vint 104))] fun c3 =>
 aFill [(vint 0),(vint 0)] [(1,1,(vint 2))] fun c4 =>
 aFill [(vint 0),(vint 0)] [(0,1,(vint (-3))),(1,1,(vint (-1)))] fun c5 =>
(((2 * 2 : Nat) ≤ 16777216 ∧ (2 : Nat) ≤ 16777216 ∧ List.length [(vint 0),(vint 0)] = 2) ∧ aFill (zrep [(vint 0),(vint 0)] 2) [(0,2,(Value.agg ⟨c4⟩)),(2,2,(Value.agg ⟨c5⟩))] fun c6 =>
 aNewS 2 c6 h2 fun v7 h8 =>
 aFill [(vint 0),(vint 0),(vint 0),(vint 0)] [(1,1,(vint 1)),(2,1,(vint 102))] fun c9 =>
 aFill [(vint 0),(vint 0),(vint 0),(vint 0)] [(0,1,(vint 1)),(1,1,(vint 2)),(2,1,a0),(3,1,a1)] fun c10 =>
 aFill [(vint 0),(vint 0),(vint 0),(vint 0)] [(0,1,(vint 2)),(1,1,(vint 1)),(2,1,(vint 95)),(3,1,(vint 2))] fun c11 =>
(((3 * 4 : Nat) ≤ 16777216 ∧ (3 : Nat) ≤ 16777216 ∧ List.length [(vint 0),(vint 0),(vint 0),(vint 0)] = 4) ∧ aFill (zrep [(vint 0),(vint 0),(vint 0),(vint 0)] 3) [(0,4,(Value.agg ⟨c9⟩)),(4,4,(Value.agg ⟨c10⟩)),(8,4,(Value.agg ⟨c11⟩))] fun c12 =>
 aNewS 3 c12 h8 fun v13 h14 =>
 aFill [(vint 0),(vint 0),(vint 0),(Value.slice none 0 0),(vint 0),(Value.slice none 0 0)] [(0,1,(vint 3)),(1,2,(Value.agg ⟨c3⟩)),(3,1,v7),(4,1,(vint 4)),(5,1,v13)] fun c15 =>
 aStore 6 v1 (Value.agg ⟨c15⟩) h14 fun h16 =>
 RetQ prog [.cell 4 27] h.length K .ret (RG.p (RG.p (RG.p (RG.p (RG.p (RG.p (RG.p (RG.p (RG.p (RG.p (RG.p (RG.p (RG.mk (regs [a0,a1]) []) 4 v1) 5 (Value.agg ⟨c3⟩)) 6 (Value.agg ⟨c4⟩)) 7 (Value.agg ⟨c5⟩)) 8 v7) 9 (Value.agg ⟨c9⟩)) 10 a0) 11 a1) 12 (Value.agg ⟨c10⟩)) 13 (Value.agg ⟨c11⟩)) 14 v13) 15 (Value.agg ⟨c15⟩)) h16))) := top_eq pok4 ct4 (by kernel_rfl)
theorem g4 (hJ : Closed prog main J) {a0 a1 : Value} (hs : heapOk h → W prog J 16 h.length 4 (codeOf f4) (RG.mk (regs [a0,a1]) []) h (RetQ prog [.cell 4 27] h.length K)) : Good prog J 4 [a0,a1] h K :=
 good_of_W hJ mixed at4 body4 (by kernel_rfl) (Nat.le_of_ble_eq_true rfl) hs
theorem at3 : prog.funcs[3]? = some f3 := by kernel_rfl
theorem body3 : f3.body = some (codeOf f3) := by kernel_rfl
def pl3 : Plans := [(3,false,.take 0 (.take 1 (.take 2 (.take 3 (.take 4 (.take 6 (.alt 5 true (.last 7 true (.take 8 (.take 9 (.last 10 true (.take 11 (.last 12 true (.take 13 (.last 14 false (.fin))))))))) (.last 7 true (.take 8 (.take 9 (.alt 5 true (.last 10 true (.take 11 (.last 12 true (.take 13 (.last 14 false (.fin)))))) (.last 10 true (.take 11 (.alt 5 true (.last 12 true (.take 13 (.last 14 false (.fin)))) (.last 12 true (.last 5 true (.take 13 (.last 14 false (.fin))))))))))))))))))),
 (11,true,.take 0 (.take 1 (.take 2 (.take 3 (.take 4 (.take 5 (.take 6 (.take 7 (.take 8 (.take 9 (.fin))))))))))),
 (17,true,.take 0 (.take 1 (.take 2 (.take 3 (.take 4 (.take 5 (.last 6 false (.take 7 (.take 8 (.take 9 (.take 10 (.take 11 (.fin))))))))))))),
 (29,true,.take 0 (.take 1 (.take 2 (.take 3 (.take 4 (.last 5 false (.take 6 (.take 7 (.take 8 (.take 9 (.take 10 (.fin))))))))))))]
def ct3 : Cuts := .bin (.go) (.bin (.go) (.bin (.go) (.cut (.bin (.go) (.cut (.bin (.bin (.go) (.cut (.go))) (.cut (.bin (.go) (.bin (.bin (.go) (.un (.un (.bin (.go) (.bin (.un (.bin (.go) (.bin (.go) (.cut (.go))))) (.go)))))) (.cut (.bin (.go) (.bin (.bin (.go) (.un (.un (.bin (.go) (.bin (.un (.bin (.go) (.bin (.go) (.cut (.go))))) (.go)))))) (.cut (.bin (.go) (.cut (.bin (.go) (.cut (.bin (.go) (.cut (.bin (.bin (.go) (.cut (.go))) (.cut (.bin (.go) (.bin (.bin (.go) (.un (.un (.bin (.go) (.bin (.un (.bin (.go) (.bin (.go) (.cut (.go))))) (.go)))))) (.cut (.bin (.go) (.cut (.bin (.go) (.cut (.bin (.go) (.bin (.go) (.cut (.bin (.go) (.bin (.go) (.cut (.bin (.bin (.go) (.cut (.go))) (.cut (.bin (.go) (.cut (.bin (.go) (.cut (.bin (.go) (.cut (.bin (.go) (.cut (.bin (.go) (.cut (.go)))))))))))))))))))))))))))))))))))))))))))))))
theorem pok3 : plansOk prog pl3 (codeOf f3) = true := by kernel_rfl
theorem e3 : W prog J 331 h.length 3 (codeOf f3) (RG.mk (regs []) []) h (RetQ prog [.tmp 0] h.length K) =
(Good prog J 4 [(vint 100),(vint 1)] h fun v1 h2 =>
 Good prog J 4 [(vint 97),(vint 0)] h2 fun v3 h4 =>
 Good prog J 4 [(vint 90),(vint 0)] h4 fun v5 h6 =>
 aAlloc [(vint 0),(vint 0),(vint 0),(Value.slice none 0 0),(vint 0),(Value.slice none 0 0)] h6 fun v7 h8 =>
 aAlloc [(vint 0),(vint 0),(vint 0),(Value.slice none 0 0),(vint 0),(Value.slice none 0 0)] h8 fun v9 h10 =>
 aAlloc [(vint 0),(vint 0),(vint 0),(Value.slice none 0 0),(vint 0),(Value.slice none 0 0)] h10 fun v11 h12 =>
 aStore 6 v7 v1 h12 fun h13 =>
 aStore 6 v9 v3 h13 fun h14 =>
 aStore 6 v11 v5 h14 fun h15 =>
 Good prog J 4 [(vint 100),(vint 1)] h15 fun v16 h17 =>
 Good prog J 4 [(vint 100),(vint 1)] h17 fun v18 h19 =>
 Good prog J 4 [(vint 100),(vint 1)] h19 fun v20 h21 =>
 Good prog J 4 [(vint 100),(vint 1)] h21 fun v22 h23 =>
 aAlloc [(vint 0),(vint 0),(vint 0),(Value.slice none 0 0),(vint 0),(Value.slice none 0 0)] h23 fun v24 h25 =>
 aAlloc [(vint 0),(vint 0),(vint 0),(Value.slice none 0 0),(vint 0),(Value.slice none 0 0)] h25 fun v26 h27 =>
 aAlloc [(vint 0),(vint 0),(vint 0),(Value.slice none 0 0),(vint 0),(Value.slice none 0 0)] h27 fun v28 h29 =>
 aAlloc [(vint 0),(vint 0),(vint 0),(Value.slice none 0 0),(vint 0),(Value.slice none 0 0)] h29 fun v30 h31 =>
 aStore 6 v24 v16 h31 fun h32 =>
 aStore 6 v26 v18 h32 fun h33 =>
 aStore 6 v28 v20 h33 fun h34 =>
 aStore 6 v30 v22 h34 fun h35 =>
 Hold (W prog J 331 h.length 3 (subC [1,1,1] (codeOf f3)) (RG.p (RG.p (RG.p (RG.p (RG.p (RG.p (RG.p (RG.p (RG.p (RG.p (RG.p (RG.p (RG.p (RG.p (RG.p (RG.mk (regs []) []) 0 (Value.bool false)) 38 v1) 39 v3) 40 v5) 1 v7) 2 v9) 3 v11) 41 v16) 42 v18) 43 v20) 44 v22) 4 v24) 5 v26) 6 v28) 7 v30) h35 (contX pl3 prog J 331 h.length 3 ct3 [1,1,1] (codeOf f3) [] (RetQ prog [.tmp 0] h.length K)))) := top_eq pok3 ct3 (by kernel_rfl)
theorem g3 (hJ : Closed prog main J) (hs : heapOk h → W prog J 331 h.length 3 (codeOf f3) (RG.mk (regs []) []) h (RetQ prog [.tmp 0] h.length K)) : Good prog J 3 [] h K :=
 good_of_W hJ mixed at3 body3 (by kernel_rfl) (Nat.le_of_ble_eq_true rfl) hs
theorem s3_1 {f : RG} : W prog J 331 n0 3 (subC [1,1,1] (codeOf f3)) f h (contX pl3 prog J 331 n0 3 ct3 [1,1,1] (codeOf f3) [] (RetQ prog [.tmp 0] n0 K)) =
((∃ B,aOff (f.r 5) 5 fun v1 =>
 aLoad false 1 v1 h fun v2 =>
 RdOk (some B) (ptrBlk v1) ∧ (aFill [(vint 0),(vint 0)] [(0,1,(vint 104)),(1,1,(vint 100))] fun c3 =>
 aOff (f.r 7) 5 fun v4 =>
 aLoad false 1 v4 h fun v5 =>
 RdOk (some B) (ptrBlk v4) ∧ (aOff (f.r 4) 0 fun v6 =>
(aSl2 4 v5 none (some (vint 1)) h fun v7 =>
 SameB (some B) h h ∧ (aStore 1 v6 (vint 4) h fun h8 =>
 SameB (some B) h h8 ∧ (aIdx 4 v2 (vint 0) fun v9 =>
 aOff v9 1 fun v10 =>
 aStore 1 v10 (vint 0) h8 fun h11 =>
 SameB (some B) h h11 ∧ (aOff (f.r 6) 1 fun v12 =>
 aStore 2 v12 (Value.agg ⟨c3⟩) h11 fun h13 =>
 SameB (some B) h h13 ∧ (aOff (f.r 7) 5 fun v14 =>
 aStore 1 v14 v7 h13 fun h15 =>
 Hold (W prog J 331 n0 3 (subC [1,1,1,1] (codeOf f3)) (RG.p (RG.p (RG.p (RG.p (RG.p (RG.p (RG.p (RG.p (RG.p (RG.p (RG.p f 45 v1) 46 v2) 47 (Value.agg ⟨c3⟩)) 48 v4) 49 v5) 51 v6) 50 v7) 52 v9) 53 v10) 54 v12) 55 v14) h15 (contX pl3 prog J 331 n0 3 ct3 [1,1,1,1] (codeOf f3) [] (RetQ prog [.tmp 0] n0 K)))))))) ∧ (aStore 1 v6 (vint 4) h fun h16 =>
 SameB (some B) h h16 ∧ (aIdx 4 v2 (vint 0) fun v17 =>
 aOff v17 1 fun v18 =>
(aSl2 4 v5 none (some (vint 1)) h16 fun v19 =>
 SameB (some B) h h16 ∧ (aStore 1 v18 (vint 0) h16 fun h20 =>
 SameB (some B) h h20 ∧ (aOff (f.r 6) 1 fun v21 =>
 aStore 2 v21 (Value.agg ⟨c3⟩) h20 fun h22 =>
 SameB (some B) h h22 ∧ (aOff (f.r 7) 5 fun v23 =>
 aStore 1 v23 v19 h22 fun h24 =>
 Hold (W prog J 331 n0 3 (subC [1,1,1,1] (codeOf f3)) (RG.p (RG.p (RG.p (RG.p (RG.p (RG.p (RG.p (RG.p (RG.p (RG.p (RG.p f 45 v1) 46 v2) 47 (Value.agg ⟨c3⟩)) 48 v4) 49 v5) 51 v6) 52 v17) 53 v18) 50 v19) 54 v21) 55 v23) h24 (contX pl3 prog J 331 n0 3 ct3 [1,1,1,1] (codeOf f3) [] (RetQ prog [.tmp 0] n0 K))))))) ∧ (aStore 1 v18 (vint 0) h16 fun h25 =>
 SameB (some B) h h25 ∧ (aOff (f.r 6) 1 fun v26 =>
(aSl2 4 v5 none (some (vint 1)) h25 fun v27 =>
 SameB (some B) h h25 ∧ (aStore 2 v26 (Value.agg ⟨c3⟩) h25 fun h28 =>
 SameB (some B) h h28 ∧ (aOff (f.r 7) 5 fun v29 =>
 aStore 1 v29 v27 h28 fun h30 =>
 Hold (W prog J 331 n0 3 (subC [1,1,1,1] (codeOf f3)) (RG.p (RG.p (RG.p (RG.p (RG.p (RG.p (RG.p (RG.p (RG.p (RG.p (RG.p f 45 v1) 46 v2) 47 (Value.agg ⟨c3⟩)) 48 v4) 49 v5) 51 v6) 52 v17) 53 v18) 54 v26) 50 v27) 55 v29) h30 (contX pl3 prog J 331 n0 3 ct3 [1,1,1,1] (codeOf f3) [] (RetQ prog [.tmp 0] n0 K)))))) ∧ (aStore 2 v26 (Value.agg ⟨c3⟩) h25 fun h31 =>
 SameB (some B) h h31 ∧ (aSl2 4 v5 none (some (vint 1)) h31 fun v32 =>
 SameB (some B) h h31 ∧ (aOff (f.r 7) 5 fun v33 =>
 aStore 1 v33 v32 h31 fun h34 =>
 Hold (W prog J 331 n0 3 (subC [1,1,1,1] (codeOf f3)) (RG.p (RG.p (RG.p (RG.p (RG.p (RG.p (RG.p (RG.p (RG.p (RG.p (RG.p f 45 v1) 46 v2) 47 (Value.agg ⟨c3⟩)) 48 v4) 49 v5) 51 v6) 52 v17) 53 v18) 54 v26) 50 v32) 55 v33) h34 (contX pl3 prog J 331 n0 3 ct3 [1,1,1,1] (codeOf f3) [] (RetQ prog [.tmp 0] n0 K)))))))))))))) := sub_eq pok3 ct3 (by kernel_rfl)
theorem s3_2 {f : RG} : W prog J 331 n0 3 (subC [1,1,1,1] (codeOf f3)) f h (contX pl3 prog J 331 n0 3 ct3 [1,1,1,1] (codeOf f3) [] (RetQ prog [.tmp 0] n0 K)) =
(Good prog J 5 [] h fun v1 h2 =>
 aUn .not v1 fun v3 =>
 cnd v3
(Hold (W prog J 331 n0 3 (subC yp9 (codeOf f3)) (RG.p (RG.p (RG.p (RG.p (RG.p (RG.p (RG.p (RG.p (RG.p (RG.p (RG.p (RG.p (RG.p (RG.p (RG.p (RG.p (RG.p (RG.p (RG.p (RG.p (RG.p (RG.p (RG.p (RG.p (RG.p (RG.p f 56 v1) 57 v3) 58 v3) 58 (Value.bool true)) 59 undef) 60 undef) 61 undef) 62 (Value.bool true)) 63 (Value.bool true)) 63 (Value.bool true)) 64 undef) 65 undef) 66 undef) 67 (Value.bool true)) 68 (Value.bool true)) 68 (Value.bool true)) 69 undef) 70 undef) 71 undef) 72 (Value.bool true)) 73 (Value.bool true)) 73 (Value.bool true)) 74 undef) 75 undef) 76 undef) 77 (Value.bool true)) h2 (contX pl3 prog J 331 n0 3 ct3 yp9 (codeOf f3) [] (RetQ prog [.tmp 0] n0 K))))
(aLoad true 6 (f.r 1) h2 fun v4 =>
 Good prog J 6 [v4] h2 fun v5 h6 =>
 aBin prog .neq 32 v5 (vint 0) fun v7 =>
 cnd v7
(Hold (W prog J 331 n0 3 (subC yp9 (codeOf f3)) (RG.p (RG.p (RG.p (RG.p (RG.p (RG.p (RG.p (RG.p (RG.p (RG.p (RG.p (RG.p (RG.p (RG.p (RG.p (RG.p (RG.p (RG.p (RG.p (RG.p (RG.p (RG.p (RG.p (RG.p (RG.p (RG.p f 56 v1) 57 v3) 58 v3) 58 (Value.bool false)) 59 v4) 60 v5) 61 v7) 62 v7) 63 v7) 63 (Value.bool true)) 64 undef) 65 undef) 66 undef) 67 (Value.bool true)) 68 (Value.bool true)) 68 (Value.bool true)) 69 undef) 70 undef) 71 undef) 72 (Value.bool true)) 73 (Value.bool true)) 73 (Value.bool true)) 74 undef) 75 undef) 76 undef) 77 (Value.bool true)) h6 (contX pl3 prog J 331 n0 3 ct3 yp9 (codeOf f3) [] (RetQ prog [.tmp 0] n0 K))))
(aLoad true 6 (f.r 4) h6 fun v8 =>
 Good prog J 6 [v8] h6 fun v9 h10 =>
 aBin prog .neq 32 v9 (vint 7) fun v11 =>
 cnd v11
(Hold (W prog J 331 n0 3 (subC yp9 (codeOf f3)) (RG.p (RG.p (RG.p (RG.p (RG.p (RG.p (RG.p (RG.p (RG.p (RG.p (RG.p (RG.p (RG.p (RG.p (RG.p (RG.p (RG.p (RG.p (RG.p (RG.p (RG.p (RG.p (RG.p (RG.p (RG.p (RG.p f 56 v1) 57 v3) 58 v3) 58 (Value.bool false)) 59 v4) 60 v5) 61 v7) 62 v7) 63 v7) 63 (Value.bool false)) 64 v8) 65 v9) 66 v11) 67 v11) 68 v11) 68 (Value.bool true)) 69 undef) 70 undef) 71 undef) 72 (Value.bool true)) 73 (Value.bool true)) 73 (Value.bool true)) 74 undef) 75 undef) 76 undef) 77 (Value.bool true)) h10 (contX pl3 prog J 331 n0 3 ct3 yp9 (codeOf f3) [] (RetQ prog [.tmp 0] n0 K))))
(aLoad true 6 (f.r 5) h10 fun v12 =>
 Good prog J 6 [v12] h10 fun v13 h14 =>
 aBin prog .neq 32 v13 (vint 1) fun v15 =>
 cnd v15
(Hold (W prog J 331 n0 3 (subC yp9 (codeOf f3)) (RG.p (RG.p (RG.p (RG.p (RG.p (RG.p (RG.p (RG.p (RG.p (RG.p (RG.p (RG.p (RG.p (RG.p (RG.p (RG.p (RG.p (RG.p (RG.p (RG.p (RG.p (RG.p (RG.p (RG.p (RG.p (RG.p f 56 v1) 57 v3) 58 v3) 58 (Value.bool false)) 59 v4) 60 v5) 61 v7) 62 v7) 63 v7) 63 (Value.bool false)) 64 v8) 65 v9) 66 v11) 67 v11) 68 v11) 68 (Value.bool false)) 69 v12) 70 v13) 71 v15) 72 v15) 73 v15) 73 (Value.bool true)) 74 undef) 75 undef) 76 undef) 77 (Value.bool true)) h14 (contX pl3 prog J 331 n0 3 ct3 yp9 (codeOf f3) [] (RetQ prog [.tmp 0] n0 K))))
(aLoad true 6 (f.r 6) h14 fun v16 =>
 Good prog J 6 [v16] h14 fun v17 h18 =>
 aBin prog .neq 32 v17 (vint 5) fun v19 =>
 Hold (W prog J 331 n0 3 (subC yp9 (codeOf f3)) (RG.p (RG.p (RG.p (RG.p (RG.p (RG.p (RG.p (RG.p (RG.p (RG.p (RG.p (RG.p (RG.p (RG.p (RG.p (RG.p (RG.p (RG.p (RG.p (RG.p (RG.p (RG.p (RG.p (RG.p (RG.p (RG.p f 56 v1) 57 v3) 58 v3) 58 (Value.bool false)) 59 v4) 60 v5) 61 v7) 62 v7) 63 v7) 63 (Value.bool false)) 64 v8) 65 v9) 66 v11) 67 v11) 68 v11) 68 (Value.bool false)) 69 v12) 70 v13) 71 v15) 72 v15) 73 v15) 73 (Value.bool false)) 74 v16) 75 v17) 76 v19) 77 v19) h18 (contX pl3 prog J 331 n0 3 ct3 yp9 (codeOf f3) [] (RetQ prog [.tmp 0] n0 K)))))))) := sub_eq pok3 ct3 (by kernel_rfl)
theorem s3_3 {f : RG} : W prog J 331 n0 3 (subC yp9 (codeOf f3)) f h (contX pl3 prog J 331 n0 3 ct3 yp9 (codeOf f3) [] (RetQ prog [.tmp 0] n0 K)) =
(cnd (f.r 77)
(retL n0 K f.ds [(Value.bool false)] h)
(Hold (W prog J 331 n0 3 (subC yp5 (codeOf f3)) f h (contX pl3 prog J 331 n0 3 ct3 yp5 (codeOf f3) [] (RetQ prog [.tmp 0] n0 K))))) := sub_eq pok3 ct3 (by kernel_rfl)
theorem s3_4 {f : RG} : W prog J 331 n0 3 (subC yp5 (codeOf f3)) f h (contX pl3 prog J 331 n0 3 ct3 yp5 (codeOf f3) [] (RetQ prog [.tmp 0] n0 K)) =
(aFill [(vint 0),(vint 0)] [(0,1,(vint 102)),(1,1,(vint 102))] fun c1 =>
 aFill [(vint 0),(vint 0)] [(0,1,(vint 100)),(1,1,(vint 101))] fun c2 =>
 aFill [(vint 0),(vint 0)] [(0,1,(vint 94)),(1,1,(vint 96))] fun c3 =>
(((3 * 2 : Nat) ≤ 16777216 ∧ (3 : Nat) ≤ 16777216 ∧ List.length [(vint 0),(vint 0)] = 2) ∧ aFill (zrep [(vint 0),(vint 0)] 3) [(0,2,(Value.agg ⟨c1⟩)),(2,2,(Value.agg ⟨c2⟩)),(4,2,(Value.agg ⟨c3⟩))] fun c4 =>
 aNewS 3 c4 h fun v5 h6 =>
 Sem J 331 n0 3 (subC yp8 (codeOf f3)) (RG.p (RG.p (RG.p (RG.p (RG.p (RG.p f 78 (Value.agg ⟨c1⟩)) 79 (Value.agg ⟨c2⟩)) 80 (Value.agg ⟨c3⟩)) 81 v5) 8 v5) 9 (vint 0)) h6 (contX pl3 prog J 331 n0 3 ct3 yp8 (codeOf f3) [] (RetQ prog [.tmp 0] n0 K)))) := sub_eq pok3 ct3 (by kernel_rfl)
theorem s3_5 {f : RG} {nx0 : RG → List AObj → Prop} : W prog J 331 n0 3 (subC yp4 (codeOf f3)) f h (thenK nx0 (contX pl3 prog J 331 n0 3 ct3 yp8 (codeOf f3) [] (RetQ prog [.tmp 0] n0 K))) =
(aBin prog .lss 3 (f.r 9) (vint 3) fun v1 =>
 cnd v1
(aOff (f.r 1) 5 fun v2 =>
 aLoad false 1 v2 h fun v3 =>
 aIdx 4 v3 (f.r 9) fun v4 =>
 aLoad true 4 v4 h fun v5 =>
 Good prog J 7 [v5] h fun v6 h7 =>
 aExt v6 0 fun v8 =>
 aExt v6 1 fun v9 =>
 aAlloc [(vint 0),(vint 0)] h7 fun v10 h11 =>
 aStore 2 v10 v8 h11 fun h12 =>
 aBin prog .neq 32 v9 (vint 0) fun v13 =>
 cnd v13
(Hold (W prog J 331 n0 3 (subC yp20 (codeOf f3)) (RG.p (RG.p (RG.p (RG.p (RG.p (RG.p (RG.p (RG.p (RG.p (RG.p (RG.p (RG.p (RG.p (RG.p (RG.p (RG.p (RG.p (RG.p (RG.p (RG.p (RG.p (RG.p (RG.p (RG.p f 82 (f.r 9)) 83 v1) 87 v2) 88 v3) 89 (f.r 9)) 90 v4) 91 v5) 92 v6) 86 v6) 93 v8) 94 v9) 10 v10) 11 v9) 95 v9) 96 v13) 97 v13) 97 (Value.bool true)) 98 undef) 99 undef) 100 undef) 101 undef) 102 undef) 103 undef) 104 (Value.bool true)) h12 (contX pl3 prog J 331 n0 3 ct3 yp20 (codeOf f3) [nx0] (RetQ prog [.tmp 0] n0 K))))
(aLoad true 2 v10 h12 fun v14 =>
 aIdx 2 (f.r 8) (f.r 9) fun v15 =>
 aLoad true 2 v15 h12 fun v16 =>
 aBin prog .neq 23 v14 v16 fun v17 =>
 Hold (W prog J 331 n0 3 (subC yp20 (codeOf f3)) (RG.p (RG.p (RG.p (RG.p (RG.p (RG.p (RG.p (RG.p (RG.p (RG.p (RG.p (RG.p (RG.p (RG.p (RG.p (RG.p (RG.p (RG.p (RG.p (RG.p (RG.p (RG.p (RG.p (RG.p f 82 (f.r 9)) 83 v1) 87 v2) 88 v3) 89 (f.r 9)) 90 v4) 91 v5) 92 v6) 86 v6) 93 v8) 94 v9) 10 v10) 11 v9) 95 v9) 96 v13) 97 v13) 97 (Value.bool false)) 98 v14) 99 (f.r 8)) 100 (f.r 9)) 101 v15) 102 v16) 103 v17) 104 v17) h12 (contX pl3 prog J 331 n0 3 ct3 yp20 (codeOf f3) [nx0] (RetQ prog [.tmp 0] n0 K)))))
(Hold (W prog J 331 n0 3 (subC yp16 (codeOf f3)) (RG.p (RG.p f 82 (f.r 9)) 83 v1) h (contX pl3 prog J 331 n0 3 ct3 yp16 (codeOf f3) [] (RetQ prog [.tmp 0] n0 K))))) := sub_eq pok3 ct3 (by kernel_rfl)
theorem l3_5 (hJ : Closed prog main J) {S : Type} (μ : S → Nat) (I : S → RG → List AObj → Prop) (hI : ∀ s f h,I s f h → heapOk h → n0 ≤ h.length → W prog J 331 n0 3 (subC yp4 (codeOf f3)) f h (thenK (Nx n0 μ I s) (contX pl3 prog J 331 n0 3 ct3 yp8 (codeOf f3) [] (RetQ prog [.tmp 0] n0 K))))
 {s : S} {f : RG} (hi : Gets n0 I s f h) : Sem J 331 n0 3 (subC yp8 (codeOf f3)) f h (contX pl3 prog J 331 n0 3 ct3 yp8 (codeOf f3) [] (RetQ prog [.tmp 0] n0 K)) :=
 loop_rule hJ mixed (b := subC yp4 (codeOf f3)) (by kernel_rfl) μ I hI hi
theorem s3_6 {f : RG} {nx0 : RG → List AObj → Prop} : W prog J 331 n0 3 (subC yp20 (codeOf f3)) f h (contX pl3 prog J 331 n0 3 ct3 yp20 (codeOf f3) [nx0] (RetQ prog [.tmp 0] n0 K)) =
(cnd (f.r 104)
(retL n0 K f.ds [(Value.bool false)] h)
(aBin prog .add 3 (f.r 9) (vint 1) fun v1 =>
 nx0 (RG.p (RG.p (RG.p f 84 (f.r 9)) 85 v1) 9 v1) h)) := sub_eq pok3 ct3 (by kernel_rfl)
theorem s3_7 {f : RG} : W prog J 331 n0 3 (subC yp16 (codeOf f3)) f h (contX pl3 prog J 331 n0 3 ct3 yp16 (codeOf f3) [] (RetQ prog [.tmp 0] n0 K)) =
((((3 * 1 : Nat) ≤ 16777216 ∧ (3 : Nat) ≤ 16777216 ∧ List.length [(vint 0)] = 1) ∧ aFill (zrep [(vint 0)] 3) [(0,1,(vint 102)),(1,1,(vint 100)),(2,1,(vint 97))] fun c1 =>
 aNewS 3 c1 h fun v2 h3 =>
(((3 * 1 : Nat) ≤ 16777216 ∧ (3 : Nat) ≤ 16777216 ∧ List.length [(vint 0)] = 1) ∧ aFill (zrep [(vint 0)] 3) [(0,1,(vint 1)),(1,1,(vint 3)),(2,1,(vint 2))] fun c4 =>
 aNewS 3 c4 h3 fun v5 h6 =>
 Sem J 331 n0 3 (subC yp10 (codeOf f3)) (RG.p (RG.p (RG.p (RG.p (RG.p f 105 v2) 106 v5) 12 v2) 13 v5) 14 (vint 0)) h6 (contX pl3 prog J 331 n0 3 ct3 yp10 (codeOf f3) [] (RetQ prog [.tmp 0] n0 K))))) := sub_eq pok3 ct3 (by kernel_rfl)
theorem s3_8 {f : RG} {nx0 : RG → List AObj → Prop} : W prog J 331 n0 3 (subC yp21 (codeOf f3)) f h (thenK nx0 (contX pl3 prog J 331 n0 3 ct3 yp10 (codeOf f3) [] (RetQ prog [.tmp 0] n0 K))) =
(aBin prog .lss 3 (f.r 14) (vint 3) fun v1 =>
 cnd v1
(aLoad true 6 (f.r 1) h fun v2 =>
 aIdx 1 (f.r 12) (f.r 14) fun v3 =>
 aLoad false 1 v3 h fun v4 =>
 Good prog J 8 [v2,(f.r 14),v4] h fun v5 h6 =>
 aExt v5 0 fun v7 =>
 aExt v5 1 fun v8 =>
 aBin prog .neq 32 v8 (vint 0) fun v9 =>
 cnd v9
(Hold (W prog J 331 n0 3 (subC yp22 (codeOf f3)) (RG.p (RG.p (RG.p (RG.p (RG.p (RG.p (RG.p (RG.p (RG.p (RG.p (RG.p (RG.p (RG.p (RG.p (RG.p (RG.p (RG.p (RG.p (RG.p (RG.p (RG.p (RG.p (RG.p (RG.p (RG.p f 107 (f.r 14)) 108 v1) 112 v2) 113 (f.r 14)) 114 (f.r 12)) 115 (f.r 14)) 116 v3) 117 v4) 118 v5) 111 v5) 119 v7) 120 v8) 15 v7) 16 v8) 121 v8) 122 v9) 123 v9) 123 (Value.bool true)) 124 undef) 125 undef) 126 undef) 127 undef) 128 undef) 129 undef) 130 (Value.bool true)) h6 (contX pl3 prog J 331 n0 3 ct3 yp22 (codeOf f3) [nx0] (RetQ prog [.tmp 0] n0 K))))
(aIdx 1 (f.r 13) (f.r 14) fun v10 =>
 aLoad false 1 v10 h6 fun v11 =>
 aBin prog .neq 3 v7 v11 fun v12 =>
 Hold (W prog J 331 n0 3 (subC yp22 (codeOf f3)) (RG.p (RG.p (RG.p (RG.p (RG.p (RG.p (RG.p (RG.p (RG.p (RG.p (RG.p (RG.p (RG.p (RG.p (RG.p (RG.p (RG.p (RG.p (RG.p (RG.p (RG.p (RG.p (RG.p (RG.p (RG.p f 107 (f.r 14)) 108 v1) 112 v2) 113 (f.r 14)) 114 (f.r 12)) 115 (f.r 14)) 116 v3) 117 v4) 118 v5) 111 v5) 119 v7) 120 v8) 15 v7) 16 v8) 121 v8) 122 v9) 123 v9) 123 (Value.bool false)) 124 v7) 125 (f.r 13)) 126 (f.r 14)) 127 v10) 128 v11) 129 v12) 130 v12) h6 (contX pl3 prog J 331 n0 3 ct3 yp22 (codeOf f3) [nx0] (RetQ prog [.tmp 0] n0 K)))))
(Hold (W prog J 331 n0 3 (subC [1,1,1,1,1,1,1,1,1] (codeOf f3)) (RG.p (RG.p f 107 (f.r 14)) 108 v1) h (contX pl3 prog J 331 n0 3 ct3 [1,1,1,1,1,1,1,1,1] (codeOf f3) [] (RetQ prog [.tmp 0] n0 K))))) := sub_eq pok3 ct3 (by kernel_rfl)
theorem l3_8 (hJ : Closed prog main J) {S : Type} (μ : S → Nat) (I : S → RG → List AObj → Prop) (hI : ∀ s f h,I s f h → heapOk h → n0 ≤ h.length → W prog J 331 n0 3 (subC yp21 (codeOf f3)) f h (thenK (Nx n0 μ I s) (contX pl3 prog J 331 n0 3 ct3 yp10 (codeOf f3) [] (RetQ prog [.tmp 0] n0 K))))
 {s : S} {f : RG} (hi : Gets n0 I s f h) : Sem J 331 n0 3 (subC yp10 (codeOf f3)) f h (contX pl3 prog J 331 n0 3 ct3 yp10 (codeOf f3) [] (RetQ prog [.tmp 0] n0 K)) :=
 loop_rule hJ mixed (b := subC yp21 (codeOf f3)) (by kernel_rfl) μ I hI hi
theorem s3_9 {f : RG} {nx0 : RG → List AObj → Prop} : W prog J 331 n0 3 (subC yp22 (codeOf f3)) f h (contX pl3 prog J 331 n0 3 ct3 yp22 (codeOf f3) [nx0] (RetQ prog [.tmp 0] n0 K)) =
(cnd (f.r 130)
(retL n0 K f.ds [(Value.bool false)] h)
(aBin prog .add 3 (f.r 14) (vint 1) fun v1 =>
 nx0 (RG.p (RG.p (RG.p f 109 (f.r 14)) 110 v1) 14 v1) h)) := sub_eq pok3 ct3 (by kernel_rfl)
theorem s3_10 {f : RG} : W prog J 331 n0 3 (subC [1,1,1,1,1,1,1,1,1] (codeOf f3)) f h (contX pl3 prog J 331 n0 3 ct3 [1,1,1,1,1,1,1,1,1] (codeOf f3) [] (RetQ prog [.tmp 0] n0 K)) =
(aLoad true 6 (f.r 2) h fun v1 =>
 Good prog J 9 [v1] h fun v2 h3 =>
 aExt v2 0 fun v4 =>
 aExt v2 1 fun v5 =>
 Hold (W prog J 331 n0 3 (subC [1,1,1,1,1,1,1,1,1,1] (codeOf f3)) (RG.p (RG.p (RG.p (RG.p (RG.p (RG.p (RG.p f 132 v1) 133 v2) 131 v2) 134 v4) 135 v5) 17 v4) 18 v5) h3 (contX pl3 prog J 331 n0 3 ct3 [1,1,1,1,1,1,1,1,1,1] (codeOf f3) [] (RetQ prog [.tmp 0] n0 K)))) := sub_eq pok3 ct3 (by kernel_rfl)
theorem s3_11 {f : RG} : W prog J 331 n0 3 (subC [1,1,1,1,1,1,1,1,1,1] (codeOf f3)) f h (contX pl3 prog J 331 n0 3 ct3 [1,1,1,1,1,1,1,1,1,1] (codeOf f3) [] (RetQ prog [.tmp 0] n0 K)) =
(aLoad true 6 (f.r 1) h fun v1 =>
 Good prog J 10 [v1,(vint 0),(vint 1)] h fun v2 h3 =>
 aExt v2 0 fun v4 =>
 aExt v2 1 fun v5 =>
 aAlloc [(vint 0),(vint 0)] h3 fun v6 h7 =>
 aStore 2 v6 v4 h7 fun h8 =>
 Hold (W prog J 331 n0 3 (subC [1,1,1,1,1,1,1,1,1,1,1] (codeOf f3)) (RG.p (RG.p (RG.p (RG.p (RG.p (RG.p (RG.p f 137 v1) 138 v2) 136 v2) 139 v4) 140 v5) 19 v6) 20 v5) h8 (contX pl3 prog J 331 n0 3 ct3 [1,1,1,1,1,1,1,1,1,1,1] (codeOf f3) [] (RetQ prog [.tmp 0] n0 K)))) := sub_eq pok3 ct3 (by kernel_rfl)
theorem s3_12 {f : RG} : W prog J 331 n0 3 (subC [1,1,1,1,1,1,1,1,1,1,1] (codeOf f3)) f h (contX pl3 prog J 331 n0 3 ct3 [1,1,1,1,1,1,1,1,1,1,1] (codeOf f3) [] (RetQ prog [.tmp 0] n0 K)) =
(aLoad true 6 (f.r 1) h fun v1 =>
 Good prog J 10 [v1,(vint 1),(vint 2)] h fun v2 h3 =>
 aExt v2 0 fun v4 =>
 aExt v2 1 fun v5 =>
 aAlloc [(vint 0),(vint 0)] h3 fun v6 h7 =>
 aStore 2 v6 v4 h7 fun h8 =>
 Hold (W prog J 331 n0 3 (subC [1,1,1,1,1,1,1,1,1,1,1,1] (codeOf f3)) (RG.p (RG.p (RG.p (RG.p (RG.p (RG.p (RG.p f 142 v1) 143 v2) 141 v2) 144 v4) 145 v5) 21 v6) 22 v5) h8 (contX pl3 prog J 331 n0 3 ct3 [1,1,1,1,1,1,1,1,1,1,1,1] (codeOf f3) [] (RetQ prog [.tmp 0] n0 K)))) := sub_eq pok3 ct3 (by kernel_rfl)
theorem s3_13 {f : RG} : W prog J 331 n0 3 (subC [1,1,1,1,1,1,1,1,1,1,1,1] (codeOf f3)) f h (contX pl3 prog J 331 n0 3 ct3 [1,1,1,1,1,1,1,1,1,1,1,1] (codeOf f3) [] (RetQ prog [.tmp 0] n0 K)) =
(aBin prog .neq 32 (f.r 18) (vint 11) fun v1 =>
 cnd v1
(Hold (W prog J 331 n0 3 (subC yp11 (codeOf f3)) (RG.p (RG.p (RG.p (RG.p (RG.p (RG.p (RG.p (RG.p (RG.p (RG.p (RG.p (RG.p (RG.p (RG.p (RG.p (RG.p (RG.p (RG.p (RG.p (RG.p (RG.p (RG.p (RG.p (RG.p f 146 (f.r 18)) 147 v1) 148 v1) 148 (Value.bool true)) 149 undef) 150 undef) 151 (Value.bool true)) 152 (Value.bool true)) 152 (Value.bool true)) 153 undef) 154 undef) 155 (Value.bool true)) 156 (Value.bool true)) 156 (Value.bool true)) 157 undef) 158 undef) 159 undef) 160 (Value.bool true)) 161 (Value.bool true)) 161 (Value.bool true)) 162 undef) 163 undef) 164 undef) 165 (Value.bool true)) h (contX pl3 prog J 331 n0 3 ct3 yp11 (codeOf f3) [] (RetQ prog [.tmp 0] n0 K))))
(aBin prog .neq 32 (f.r 20) (vint 0) fun v2 =>
 cnd v2
(Hold (W prog J 331 n0 3 (subC yp11 (codeOf f3)) (RG.p (RG.p (RG.p (RG.p (RG.p (RG.p (RG.p (RG.p (RG.p (RG.p (RG.p (RG.p (RG.p (RG.p (RG.p (RG.p (RG.p (RG.p (RG.p (RG.p (RG.p (RG.p (RG.p (RG.p f 146 (f.r 18)) 147 v1) 148 v1) 148 (Value.bool false)) 149 (f.r 20)) 150 v2) 151 v2) 152 v2) 152 (Value.bool true)) 153 undef) 154 undef) 155 (Value.bool true)) 156 (Value.bool true)) 156 (Value.bool true)) 157 undef) 158 undef) 159 undef) 160 (Value.bool true)) 161 (Value.bool true)) 161 (Value.bool true)) 162 undef) 163 undef) 164 undef) 165 (Value.bool true)) h (contX pl3 prog J 331 n0 3 ct3 yp11 (codeOf f3) [] (RetQ prog [.tmp 0] n0 K))))
(aBin prog .neq 32 (f.r 22) (vint 0) fun v3 =>
 cnd v3
(Hold (W prog J 331 n0 3 (subC yp11 (codeOf f3)) (RG.p (RG.p (RG.p (RG.p (RG.p (RG.p (RG.p (RG.p (RG.p (RG.p (RG.p (RG.p (RG.p (RG.p (RG.p (RG.p (RG.p (RG.p (RG.p (RG.p (RG.p (RG.p (RG.p (RG.p f 146 (f.r 18)) 147 v1) 148 v1) 148 (Value.bool false)) 149 (f.r 20)) 150 v2) 151 v2) 152 v2) 152 (Value.bool false)) 153 (f.r 22)) 154 v3) 155 v3) 156 v3) 156 (Value.bool true)) 157 undef) 158 undef) 159 undef) 160 (Value.bool true)) 161 (Value.bool true)) 161 (Value.bool true)) 162 undef) 163 undef) 164 undef) 165 (Value.bool true)) h (contX pl3 prog J 331 n0 3 ct3 yp11 (codeOf f3) [] (RetQ prog [.tmp 0] n0 K))))
(aLoad true 2 (f.r 19) h fun v4 =>
 aFill [(vint 0),(vint 0)] [(0,1,(vint 1)),(1,1,(vint 4))] fun c5 =>
 aBin prog .neq 23 v4 (Value.agg ⟨c5⟩) fun v6 =>
 cnd v6
(Hold (W prog J 331 n0 3 (subC yp11 (codeOf f3)) (RG.p (RG.p (RG.p (RG.p (RG.p (RG.p (RG.p (RG.p (RG.p (RG.p (RG.p (RG.p (RG.p (RG.p (RG.p (RG.p (RG.p (RG.p (RG.p (RG.p (RG.p (RG.p (RG.p (RG.p f 146 (f.r 18)) 147 v1) 148 v1) 148 (Value.bool false)) 149 (f.r 20)) 150 v2) 151 v2) 152 v2) 152 (Value.bool false)) 153 (f.r 22)) 154 v3) 155 v3) 156 v3) 156 (Value.bool false)) 157 v4) 158 (Value.agg ⟨c5⟩)) 159 v6) 160 v6) 161 v6) 161 (Value.bool true)) 162 undef) 163 undef) 164 undef) 165 (Value.bool true)) h (contX pl3 prog J 331 n0 3 ct3 yp11 (codeOf f3) [] (RetQ prog [.tmp 0] n0 K))))
(aLoad true 2 (f.r 21) h fun v7 =>
 aLoad true 2 (f.r 19) h fun v8 =>
 aBin prog .neq 23 v7 v8 fun v9 =>
 Hold (W prog J 331 n0 3 (subC yp11 (codeOf f3)) (RG.p (RG.p (RG.p (RG.p (RG.p (RG.p (RG.p (RG.p (RG.p (RG.p (RG.p (RG.p (RG.p (RG.p (RG.p (RG.p (RG.p (RG.p (RG.p (RG.p (RG.p (RG.p (RG.p (RG.p f 146 (f.r 18)) 147 v1) 148 v1) 148 (Value.bool false)) 149 (f.r 20)) 150 v2) 151 v2) 152 v2) 152 (Value.bool false)) 153 (f.r 22)) 154 v3) 155 v3) 156 v3) 156 (Value.bool false)) 157 v4) 158 (Value.agg ⟨c5⟩)) 159 v6) 160 v6) 161 v6) 161 (Value.bool false)) 162 v7) 163 v8) 164 v9) 165 v9) h (contX pl3 prog J 331 n0 3 ct3 yp11 (codeOf f3) [] (RetQ prog [.tmp 0] n0 K)))))))) := sub_eq pok3 ct3 (by kernel_rfl)
theorem s3_14 {f : RG} : W prog J 331 n0 3 (subC yp11 (codeOf f3)) f h (contX pl3 prog J 331 n0 3 ct3 yp11 (codeOf f3) [] (RetQ prog [.tmp 0] n0 K)) =
(cnd (f.r 165)
(retL n0 K f.ds [(Value.bool false)] h)
(Hold (W prog J 331 n0 3 (subC [1,1,1,1,1,1,1,1,1,1,1,1,1] (codeOf f3)) f h (contX pl3 prog J 331 n0 3 ct3 [1,1,1,1,1,1,1,1,1,1,1,1,1] (codeOf f3) [] (RetQ prog [.tmp 0] n0 K))))) := sub_eq pok3 ct3 (by kernel_rfl)
theorem s3_15 {f : RG} : W prog J 331 n0 3 (subC [1,1,1,1,1,1,1,1,1,1,1,1,1] (codeOf f3)) f h (contX pl3 prog J 331 n0 3 ct3 [1,1,1,1,1,1,1,1,1,1,1,1,1] (codeOf f3) [] (RetQ prog [.tmp 0] n0 K)) =
((((3 * 1 : Nat) ≤ 16777216 ∧ (3 : Nat) ≤ 16777216 ∧ List.length [(vint 0)] = 1) ∧ aFill (zrep [(vint 0)] 3) [(0,1,(vint 0)),(1,1,(vint 1)),(2,1,(vint 3))] fun c1 =>
 aNewS 3 c1 h fun v2 h3 =>
(((3 * 1 : Nat) ≤ 16777216 ∧ (3 : Nat) ≤ 16777216 ∧ List.length [(vint 0)] = 1) ∧ aFill (zrep [(vint 0)] 3) [(0,1,(vint 0)),(1,1,(vint 1)),(2,1,(vint 2))] fun c4 =>
 aNewS 3 c4 h3 fun v5 h6 =>
 Sem J 331 n0 3 (subC yp23 (codeOf f3)) (RG.p (RG.p (RG.p (RG.p (RG.p f 166 v2) 167 v5) 23 v2) 24 v5) 25 (vint 0)) h6 (contX pl3 prog J 331 n0 3 ct3 yp23 (codeOf f3) [] (RetQ prog [.tmp 0] n0 K))))) := sub_eq pok3 ct3 (by kernel_rfl)
theorem s3_16 {f : RG} {nx0 : RG → List AObj → Prop} : W prog J 331 n0 3 (subC [1,1,1,1,1,1,1,1,1,1,1,1,1,1,0,1,0,0] (codeOf f3)) f h (thenK nx0 (contX pl3 prog J 331 n0 3 ct3 yp23 (codeOf f3) [] (RetQ prog [.tmp 0] n0 K))) =
(aBin prog .lss 3 (f.r 25) (vint 3) fun v1 =>
 cnd v1
(aLoad true 6 (f.r 1) h fun v2 =>
 aIdx 1 (f.r 23) (f.r 25) fun v3 =>
 aLoad false 1 v3 h fun v4 =>
 Good prog J 11 [v2,v4] h fun v5 h6 =>
 aExt v5 0 fun v7 =>
 aExt v5 1 fun v8 =>
 aBin prog .neq 32 v8 (vint 0) fun v9 =>
 cnd v9
(Hold (W prog J 331 n0 3 (subC yp24 (codeOf f3)) (RG.p (RG.p (RG.p (RG.p (RG.p (RG.p (RG.p (RG.p (RG.p (RG.p (RG.p (RG.p (RG.p (RG.p (RG.p (RG.p (RG.p (RG.p (RG.p (RG.p (RG.p (RG.p (RG.p (RG.p f 168 (f.r 25)) 169 v1) 173 v2) 174 (f.r 23)) 175 (f.r 25)) 176 v3) 177 v4) 178 v5) 172 v5) 179 v7) 180 v8) 26 v7) 27 v8) 181 v8) 182 v9) 183 v9) 183 (Value.bool true)) 184 undef) 185 undef) 186 undef) 187 undef) 188 undef) 189 undef) 190 (Value.bool true)) h6 (contX pl3 prog J 331 n0 3 ct3 yp24 (codeOf f3) [nx0] (RetQ prog [.tmp 0] n0 K))))
(aIdx 1 (f.r 24) (f.r 25) fun v10 =>
 aLoad false 1 v10 h6 fun v11 =>
 aBin prog .neq 3 v7 v11 fun v12 =>
 Hold (W prog J 331 n0 3 (subC yp24 (codeOf f3)) (RG.p (RG.p (RG.p (RG.p (RG.p (RG.p (RG.p (RG.p (RG.p (RG.p (RG.p (RG.p (RG.p (RG.p (RG.p (RG.p (RG.p (RG.p (RG.p (RG.p (RG.p (RG.p (RG.p (RG.p f 168 (f.r 25)) 169 v1) 173 v2) 174 (f.r 23)) 175 (f.r 25)) 176 v3) 177 v4) 178 v5) 172 v5) 179 v7) 180 v8) 26 v7) 27 v8) 181 v8) 182 v9) 183 v9) 183 (Value.bool false)) 184 v7) 185 (f.r 24)) 186 (f.r 25)) 187 v10) 188 v11) 189 v12) 190 v12) h6 (contX pl3 prog J 331 n0 3 ct3 yp24 (codeOf f3) [nx0] (RetQ prog [.tmp 0] n0 K)))))
(Hold (W prog J 331 n0 3 (subC yp28 (codeOf f3)) (RG.p (RG.p f 168 (f.r 25)) 169 v1) h (contX pl3 prog J 331 n0 3 ct3 yp28 (codeOf f3) [] (RetQ prog [.tmp 0] n0 K))))) := sub_eq pok3 ct3 (by kernel_rfl)
theorem l3_16 (hJ : Closed prog main J) {S : Type} (μ : S → Nat) (I : S → RG → List AObj → Prop) (hI : ∀ s f h,I s f h → heapOk h → n0 ≤ h.length → W prog J 331 n0 3 (subC [1,1,1,1,1,1,1,1,1,1,1,1,1,1,0,1,0,0] (codeOf f3)) f h (thenK (Nx n0 μ I s) (contX pl3 prog J 331 n0 3 ct3 yp23 (codeOf f3) [] (RetQ prog [.tmp 0] n0 K))))
 {s : S} {f : RG} (hi : Gets n0 I s f h) : Sem J 331 n0 3 (subC yp23 (codeOf f3)) f h (contX pl3 prog J 331 n0 3 ct3 yp23 (codeOf f3) [] (RetQ prog [.tmp 0] n0 K)) :=
 loop_rule hJ mixed (b := subC [1,1,1,1,1,1,1,1,1,1,1,1,1,1,0,1,0,0] (codeOf f3)) (by kernel_rfl) μ I hI hi
theorem s3_17 {f : RG} {nx0 : RG → List AObj → Prop} : W prog J 331 n0 3 (subC yp24 (codeOf f3)) f h (contX pl3 prog J 331 n0 3 ct3 yp24 (codeOf f3) [nx0] (RetQ prog [.tmp 0] n0 K)) =
(cnd (f.r 190)
(retL n0 K f.ds [(Value.bool false)] h)
(aBin prog .add 3 (f.r 25) (vint 1) fun v1 =>
 nx0 (RG.p (RG.p (RG.p f 170 (f.r 25)) 171 v1) 25 v1) h)) := sub_eq pok3 ct3 (by kernel_rfl)
theorem s3_18 {f : RG} : W prog J 331 n0 3 (subC yp28 (codeOf f3)) f h (contX pl3 prog J 331 n0 3 ct3 yp28 (codeOf f3) [] (RetQ prog [.tmp 0] n0 K)) =
(aLoad true 6 (f.r 1) h fun v1 =>
 Good prog J 11 [v1,(vint 4)] h fun v2 h3 =>
 aExt v2 0 fun v4 =>
 aExt v2 1 fun v5 =>
 Hold (W prog J 331 n0 3 (subC yp29 (codeOf f3)) (RG.p (RG.p (RG.p (RG.p (RG.p (RG.p f 192 v1) 193 v2) 191 v2) 194 v4) 195 v5) 18 v5) h3 (contX pl3 prog J 331 n0 3 ct3 yp29 (codeOf f3) [] (RetQ prog [.tmp 0] n0 K)))) := sub_eq pok3 ct3 (by kernel_rfl)
theorem s3_19 {f : RG} : W prog J 331 n0 3 (subC yp29 (codeOf f3)) f h (contX pl3 prog J 331 n0 3 ct3 yp29 (codeOf f3) [] (RetQ prog [.tmp 0] n0 K)) =
(aLoad true 6 (f.r 1) h fun v1 =>
 Good prog J 12 [v1] h fun v2 h3 =>
 aExt v2 0 fun v4 =>
 aExt v2 1 fun v5 =>
 aExt v2 2 fun v6 =>
 Hold (W prog J 331 n0 3 (subC yp30 (codeOf f3)) (RG.p (RG.p (RG.p (RG.p (RG.p (RG.p (RG.p (RG.p (RG.p f 197 v1) 198 v2) 196 v2) 199 v4) 200 v5) 201 v6) 28 v4) 29 v5) 20 v6) h3 (contX pl3 prog J 331 n0 3 ct3 yp30 (codeOf f3) [] (RetQ prog [.tmp 0] n0 K)))) := sub_eq pok3 ct3 (by kernel_rfl)
theorem s3_20 {f : RG} : W prog J 331 n0 3 (subC yp30 (codeOf f3)) f h (contX pl3 prog J 331 n0 3 ct3 yp30 (codeOf f3) [] (RetQ prog [.tmp 0] n0 K)) =
(aLoad true 6 (f.r 1) h fun v1 =>
 Good prog J 13 [v1] h fun v2 h3 =>
 aExt v2 0 fun v4 =>
 aExt v2 1 fun v5 =>
 aLoad true 6 (f.r 3) h3 fun v6 =>
 Good prog J 13 [v6] h3 fun v7 h8 =>
 aExt v7 0 fun v9 =>
 aExt v7 1 fun v10 =>
 Hold (W prog J 331 n0 3 (subC yp31 (codeOf f3)) (RG.p (RG.p (RG.p (RG.p (RG.p (RG.p (RG.p (RG.p (RG.p (RG.p (RG.p (RG.p (RG.p (RG.p f 203 v1) 204 v2) 202 v2) 205 v4) 206 v5) 30 v4) 22 v5) 208 v6) 209 v7) 207 v7) 210 v9) 211 v10) 31 v9) 32 v10) h8 (contX pl3 prog J 331 n0 3 ct3 yp31 (codeOf f3) [] (RetQ prog [.tmp 0] n0 K)))) := sub_eq pok3 ct3 (by kernel_rfl)
theorem s3_21 {f : RG} : W prog J 331 n0 3 (subC yp31 (codeOf f3)) f h (contX pl3 prog J 331 n0 3 ct3 yp31 (codeOf f3) [] (RetQ prog [.tmp 0] n0 K)) =
(aLoad true 6 (f.r 1) h fun v1 =>
 Good prog J 14 [v1] h fun v2 h3 =>
 aExt v2 0 fun v4 =>
 aExt v2 1 fun v5 =>
 aLoad true 6 (f.r 3) h3 fun v6 =>
 Good prog J 14 [v6] h3 fun v7 h8 =>
 aExt v7 0 fun v9 =>
 aExt v7 1 fun v10 =>
 Hold (W prog J 331 n0 3 (subC yp32 (codeOf f3)) (RG.p (RG.p (RG.p (RG.p (RG.p (RG.p (RG.p (RG.p (RG.p (RG.p (RG.p (RG.p (RG.p (RG.p f 213 v1) 214 v2) 212 v2) 215 v4) 216 v5) 33 v4) 34 v5) 218 v6) 219 v7) 217 v7) 220 v9) 221 v10) 35 v9) 36 v10) h8 (contX pl3 prog J 331 n0 3 ct3 yp32 (codeOf f3) [] (RetQ prog [.tmp 0] n0 K)))) := sub_eq pok3 ct3 (by kernel_rfl)
theorem s3_22 {f : RG} : W prog J 331 n0 3 (subC yp32 (codeOf f3)) f h (contX pl3 prog J 331 n0 3 ct3 yp32 (codeOf f3) [] (RetQ prog [.tmp 0] n0 K)) =
(aBin prog .neq 32 (f.r 18) (vint 11) fun v1 =>
 cnd v1
(Hold (W prog J 331 n0 3 (subC yp2 (codeOf f3)) (RG.p (RG.p (RG.p (RG.p (RG.p (RG.p (RG.p (RG.p (RG.p (RG.p (RG.p (RG.p (RG.p (RG.p (RG.p (RG.p (RG.p (RG.p (RG.p (RG.p (RG.p (RG.p (RG.p (RG.p (RG.p (RG.p (RG.p (RG.p (RG.p (RG.p (RG.p (RG.p (RG.p (RG.p (RG.p (RG.p (RG.p (RG.p (RG.p (RG.p (RG.p (RG.p (RG.p (RG.p (RG.p (RG.p (RG.p (RG.p (RG.p (RG.p (RG.p (RG.p (RG.p (RG.p (RG.p (RG.p (RG.p f 222 (f.r 18)) 223 v1) 224 v1) 224 (Value.bool true)) 225 undef) 226 undef) 227 (Value.bool true)) 228 (Value.bool true)) 228 (Value.bool true)) 229 undef) 230 undef) 231 (Value.bool true)) 232 (Value.bool true)) 232 (Value.bool true)) 233 undef) 234 undef) 235 (Value.bool true)) 236 (Value.bool true)) 236 (Value.bool true)) 237 undef) 238 undef) 239 (Value.bool true)) 240 (Value.bool true)) 240 (Value.bool true)) 241 undef) 242 undef) 243 (Value.bool true)) 244 (Value.bool true)) 244 (Value.bool true)) 245 undef) 246 undef) 247 (Value.bool true)) 248 (Value.bool true)) 248 (Value.bool true)) 249 undef) 250 undef) 251 (Value.bool true)) 252 (Value.bool true)) 252 (Value.bool true)) 253 undef) 254 undef) 255 undef) 256 (Value.bool true)) 257 (Value.bool true)) 257 (Value.bool true)) 258 undef) 259 undef) 260 undef) 261 undef) 262 (Value.bool true)) 263 (Value.bool true)) 263 (Value.bool true)) 264 undef) 265 undef) 266 undef) 267 undef) 268 (Value.bool true)) h (contX pl3 prog J 331 n0 3 ct3 yp2 (codeOf f3) [] (RetQ prog [.tmp 0] n0 K))))
(aBin prog .neq 32 (f.r 20) (vint 0) fun v2 =>
 cnd v2
(Hold (W prog J 331 n0 3 (subC yp2 (codeOf f3)) (RG.p (RG.p (RG.p (RG.p (RG.p (RG.p (RG.p (RG.p (RG.p (RG.p (RG.p (RG.p (RG.p (RG.p (RG.p (RG.p (RG.p (RG.p (RG.p (RG.p (RG.p (RG.p (RG.p (RG.p (RG.p (RG.p (RG.p (RG.p (RG.p (RG.p (RG.p (RG.p (RG.p (RG.p (RG.p (RG.p (RG.p (RG.p (RG.p (RG.p (RG.p (RG.p (RG.p (RG.p (RG.p (RG.p (RG.p (RG.p (RG.p (RG.p (RG.p (RG.p (RG.p (RG.p (RG.p (RG.p (RG.p f 222 (f.r 18)) 223 v1) 224 v1) 224 (Value.bool false)) 225 (f.r 20)) 226 v2) 227 v2) 228 v2) 228 (Value.bool true)) 229 undef) 230 undef) 231 (Value.bool true)) 232 (Value.bool true)) 232 (Value.bool true)) 233 undef) 234 undef) 235 (Value.bool true)) 236 (Value.bool true)) 236 (Value.bool true)) 237 undef) 238 undef) 239 (Value.bool true)) 240 (Value.bool true)) 240 (Value.bool true)) 241 undef) 242 undef) 243 (Value.bool true)) 244 (Value.bool true)) 244 (Value.bool true)) 245 undef) 246 undef) 247 (Value.bool true)) 248 (Value.bool true)) 248 (Value.bool true)) 249 undef) 250 undef) 251 (Value.bool true)) 252 (Value.bool true)) 252 (Value.bool true)) 253 undef) 254 undef) 255 undef) 256 (Value.bool true)) 257 (Value.bool true)) 257 (Value.bool true)) 258 undef) 259 undef) 260 undef) 261 undef) 262 (Value.bool true)) 263 (Value.bool true)) 263 (Value.bool true)) 264 undef) 265 undef) 266 undef) 267 undef) 268 (Value.bool true)) h (contX pl3 prog J 331 n0 3 ct3 yp2 (codeOf f3) [] (RetQ prog [.tmp 0] n0 K))))
(aBin prog .neq 32 (f.r 22) (vint 0) fun v3 =>
 cnd v3
(Hold (W prog J 331 n0 3 (subC yp2 (codeOf f3)) (RG.p (RG.p (RG.p (RG.p (RG.p (RG.p (RG.p (RG.p (RG.p (RG.p (RG.p (RG.p (RG.p (RG.p (RG.p (RG.p (RG.p (RG.p (RG.p (RG.p (RG.p (RG.p (RG.p (RG.p (RG.p (RG.p (RG.p (RG.p (RG.p (RG.p (RG.p (RG.p (RG.p (RG.p (RG.p (RG.p (RG.p (RG.p (RG.p (RG.p (RG.p (RG.p (RG.p (RG.p (RG.p (RG.p (RG.p (RG.p (RG.p (RG.p (RG.p (RG.p (RG.p (RG.p (RG.p (RG.p (RG.p f 222 (f.r 18)) 223 v1) 224 v1) 224 (Value.bool false)) 225 (f.r 20)) 226 v2) 227 v2) 228 v2) 228 (Value.bool false)) 229 (f.r 22)) 230 v3) 231 v3) 232 v3) 232 (Value.bool true)) 233 undef) 234 undef) 235 (Value.bool true)) 236 (Value.bool true)) 236 (Value.bool true)) 237 undef) 238 undef) 239 (Value.bool true)) 240 (Value.bool true)) 240 (Value.bool true)) 241 undef) 242 undef) 243 (Value.bool true)) 244 (Value.bool true)) 244 (Value.bool true)) 245 undef) 246 undef) 247 (Value.bool true)) 248 (Value.bool true)) 248 (Value.bool true)) 249 undef) 250 undef) 251 (Value.bool true)) 252 (Value.bool true)) 252 (Value.bool true)) 253 undef) 254 undef) 255 undef) 256 (Value.bool true)) 257 (Value.bool true)) 257 (Value.bool true)) 258 undef) 259 undef) 260 undef) 261 undef) 262 (Value.bool true)) 263 (Value.bool true)) 263 (Value.bool true)) 264 undef) 265 undef) 266 undef) 267 undef) 268 (Value.bool true)) h (contX pl3 prog J 331 n0 3 ct3 yp2 (codeOf f3) [] (RetQ prog [.tmp 0] n0 K))))
(aBin prog .neq 32 (f.r 32) (vint 0) fun v4 =>
 cnd v4
(Hold (W prog J 331 n0 3 (subC yp2 (codeOf f3)) (RG.p (RG.p (RG.p (RG.p (RG.p (RG.p (RG.p (RG.p (RG.p (RG.p (RG.p (RG.p (RG.p (RG.p (RG.p (RG.p (RG.p (RG.p (RG.p (RG.p (RG.p (RG.p (RG.p (RG.p (RG.p (RG.p (RG.p (RG.p (RG.p (RG.p (RG.p (RG.p (RG.p (RG.p (RG.p (RG.p (RG.p (RG.p (RG.p (RG.p (RG.p (RG.p (RG.p (RG.p (RG.p (RG.p (RG.p (RG.p (RG.p (RG.p (RG.p (RG.p (RG.p (RG.p (RG.p (RG.p (RG.p f 222 (f.r 18)) 223 v1) 224 v1) 224 (Value.bool false)) 225 (f.r 20)) 226 v2) 227 v2) 228 v2) 228 (Value.bool false)) 229 (f.r 22)) 230 v3) 231 v3) 232 v3) 232 (Value.bool false)) 233 (f.r 32)) 234 v4) 235 v4) 236 v4) 236 (Value.bool true)) 237 undef) 238 undef) 239 (Value.bool true)) 240 (Value.bool true)) 240 (Value.bool true)) 241 undef) 242 undef) 243 (Value.bool true)) 244 (Value.bool true)) 244 (Value.bool true)) 245 undef) 246 undef) 247 (Value.bool true)) 248 (Value.bool true)) 248 (Value.bool true)) 249 undef) 250 undef) 251 (Value.bool true)) 252 (Value.bool true)) 252 (Value.bool true)) 253 undef) 254 undef) 255 undef) 256 (Value.bool true)) 257 (Value.bool true)) 257 (Value.bool true)) 258 undef) 259 undef) 260 undef) 261 undef) 262 (Value.bool true)) 263 (Value.bool true)) 263 (Value.bool true)) 264 undef) 265 undef) 266 undef) 267 undef) 268 (Value.bool true)) h (contX pl3 prog J 331 n0 3 ct3 yp2 (codeOf f3) [] (RetQ prog [.tmp 0] n0 K))))
(aBin prog .neq 32 (f.r 34) (vint 11) fun v5 =>
 cnd v5
(Hold (W prog J 331 n0 3 (subC yp2 (codeOf f3)) (RG.p (RG.p (RG.p (RG.p (RG.p (RG.p (RG.p (RG.p (RG.p (RG.p (RG.p (RG.p (RG.p (RG.p (RG.p (RG.p (RG.p (RG.p (RG.p (RG.p (RG.p (RG.p (RG.p (RG.p (RG.p (RG.p (RG.p (RG.p (RG.p (RG.p (RG.p (RG.p (RG.p (RG.p (RG.p (RG.p (RG.p (RG.p (RG.p (RG.p (RG.p (RG.p (RG.p (RG.p (RG.p (RG.p (RG.p (RG.p (RG.p (RG.p (RG.p (RG.p (RG.p (RG.p (RG.p (RG.p (RG.p f 222 (f.r 18)) 223 v1) 224 v1) 224 (Value.bool false)) 225 (f.r 20)) 226 v2) 227 v2) 228 v2) 228 (Value.bool false)) 229 (f.r 22)) 230 v3) 231 v3) 232 v3) 232 (Value.bool false)) 233 (f.r 32)) 234 v4) 235 v4) 236 v4) 236 (Value.bool false)) 237 (f.r 34)) 238 v5) 239 v5) 240 v5) 240 (Value.bool true)) 241 undef) 242 undef) 243 (Value.bool true)) 244 (Value.bool true)) 244 (Value.bool true)) 245 undef) 246 undef) 247 (Value.bool true)) 248 (Value.bool true)) 248 (Value.bool true)) 249 undef) 250 undef) 251 (Value.bool true)) 252 (Value.bool true)) 252 (Value.bool true)) 253 undef) 254 undef) 255 undef) 256 (Value.bool true)) 257 (Value.bool true)) 257 (Value.bool true)) 258 undef) 259 undef) 260 undef) 261 undef) 262 (Value.bool true)) 263 (Value.bool true)) 263 (Value.bool true)) 264 undef) 265 undef) 266 undef) 267 undef) 268 (Value.bool true)) h (contX pl3 prog J 331 n0 3 ct3 yp2 (codeOf f3) [] (RetQ prog [.tmp 0] n0 K))))
(aBin prog .neq 32 (f.r 36) (vint 0) fun v6 =>
 cnd v6
(Hold (W prog J 331 n0 3 (subC yp2 (codeOf f3)) (RG.p (RG.p (RG.p (RG.p (RG.p (RG.p (RG.p (RG.p (RG.p (RG.p (RG.p (RG.p (RG.p (RG.p (RG.p (RG.p (RG.p (RG.p (RG.p (RG.p (RG.p (RG.p (RG.p (RG.p (RG.p (RG.p (RG.p (RG.p (RG.p (RG.p (RG.p (RG.p (RG.p (RG.p (RG.p (RG.p (RG.p (RG.p (RG.p (RG.p (RG.p (RG.p (RG.p (RG.p (RG.p (RG.p (RG.p (RG.p (RG.p (RG.p (RG.p (RG.p (RG.p (RG.p (RG.p (RG.p (RG.p f 222 (f.r 18)) 223 v1) 224 v1) 224 (Value.bool false)) 225 (f.r 20)) 226 v2) 227 v2) 228 v2) 228 (Value.bool false)) 229 (f.r 22)) 230 v3) 231 v3) 232 v3) 232 (Value.bool false)) 233 (f.r 32)) 234 v4) 235 v4) 236 v4) 236 (Value.bool false)) 237 (f.r 34)) 238 v5) 239 v5) 240 v5) 240 (Value.bool false)) 241 (f.r 36)) 242 v6) 243 v6) 244 v6) 244 (Value.bool true)) 245 undef) 246 undef) 247 (Value.bool true)) 248 (Value.bool true)) 248 (Value.bool true)) 249 undef) 250 undef) 251 (Value.bool true)) 252 (Value.bool true)) 252 (Value.bool true)) 253 undef) 254 undef) 255 undef) 256 (Value.bool true)) 257 (Value.bool true)) 257 (Value.bool true)) 258 undef) 259 undef) 260 undef) 261 undef) 262 (Value.bool true)) 263 (Value.bool true)) 263 (Value.bool true)) 264 undef) 265 undef) 266 undef) 267 undef) 268 (Value.bool true)) h (contX pl3 prog J 331 n0 3 ct3 yp2 (codeOf f3) [] (RetQ prog [.tmp 0] n0 K))))
(aBin prog .neq 3 (f.r 28) (vint 2) fun v7 =>
 cnd v7
(Hold (W prog J 331 n0 3 (subC yp2 (codeOf f3)) (RG.p (RG.p (RG.p (RG.p (RG.p (RG.p (RG.p (RG.p (RG.p (RG.p (RG.p (RG.p (RG.p (RG.p (RG.p (RG.p (RG.p (RG.p (RG.p (RG.p (RG.p (RG.p (RG.p (RG.p (RG.p (RG.p (RG.p (RG.p (RG.p (RG.p (RG.p (RG.p (RG.p (RG.p (RG.p (RG.p (RG.p (RG.p (RG.p (RG.p (RG.p (RG.p (RG.p (RG.p (RG.p (RG.p (RG.p (RG.p (RG.p (RG.p (RG.p (RG.p (RG.p (RG.p (RG.p (RG.p (RG.p f 222 (f.r 18)) 223 v1) 224 v1) 224 (Value.bool false)) 225 (f.r 20)) 226 v2) 227 v2) 228 v2) 228 (Value.bool false)) 229 (f.r 22)) 230 v3) 231 v3) 232 v3) 232 (Value.bool false)) 233 (f.r 32)) 234 v4) 235 v4) 236 v4) 236 (Value.bool false)) 237 (f.r 34)) 238 v5) 239 v5) 240 v5) 240 (Value.bool false)) 241 (f.r 36)) 242 v6) 243 v6) 244 v6) 244 (Value.bool false)) 245 (f.r 28)) 246 v7) 247 v7) 248 v7) 248 (Value.bool true)) 249 undef) 250 undef) 251 (Value.bool true)) 252 (Value.bool true)) 252 (Value.bool true)) 253 undef) 254 undef) 255 undef) 256 (Value.bool true)) 257 (Value.bool true)) 257 (Value.bool true)) 258 undef) 259 undef) 260 undef) 261 undef) 262 (Value.bool true)) 263 (Value.bool true)) 263 (Value.bool true)) 264 undef) 265 undef) 266 undef) 267 undef) 268 (Value.bool true)) h (contX pl3 prog J 331 n0 3 ct3 yp2 (codeOf f3) [] (RetQ prog [.tmp 0] n0 K))))
(aBin prog .neq 3 (f.r 29) (vint 2) fun v8 =>
 cnd v8
(Hold (W prog J 331 n0 3 (subC yp2 (codeOf f3)) (RG.p (RG.p (RG.p (RG.p (RG.p (RG.p (RG.p (RG.p (RG.p (RG.p (RG.p (RG.p (RG.p (RG.p (RG.p (RG.p (RG.p (RG.p (RG.p (RG.p (RG.p (RG.p (RG.p (RG.p (RG.p (RG.p (RG.p (RG.p (RG.p (RG.p (RG.p (RG.p (RG.p (RG.p (RG.p (RG.p (RG.p (RG.p (RG.p (RG.p (RG.p (RG.p (RG.p (RG.p (RG.p (RG.p (RG.p (RG.p (RG.p (RG.p (RG.p (RG.p (RG.p (RG.p (RG.p (RG.p (RG.p f 222 (f.r 18)) 223 v1) 224 v1) 224 (Value.bool false)) 225 (f.r 20)) 226 v2) 227 v2) 228 v2) 228 (Value.bool false)) 229 (f.r 22)) 230 v3) 231 v3) 232 v3) 232 (Value.bool false)) 233 (f.r 32)) 234 v4) 235 v4) 236 v4) 236 (Value.bool false)) 237 (f.r 34)) 238 v5) 239 v5) 240 v5) 240 (Value.bool false)) 241 (f.r 36)) 242 v6) 243 v6) 244 v6) 244 (Value.bool false)) 245 (f.r 28)) 246 v7) 247 v7) 248 v7) 248 (Value.bool false)) 249 (f.r 29)) 250 v8) 251 v8) 252 v8) 252 (Value.bool true)) 253 undef) 254 undef) 255 undef) 256 (Value.bool true)) 257 (Value.bool true)) 257 (Value.bool true)) 258 undef) 259 undef) 260 undef) 261 undef) 262 (Value.bool true)) 263 (Value.bool true)) 263 (Value.bool true)) 264 undef) 265 undef) 266 undef) 267 undef) 268 (Value.bool true)) h (contX pl3 prog J 331 n0 3 ct3 yp2 (codeOf f3) [] (RetQ prog [.tmp 0] n0 K))))
(aLenS (f.r 30) fun v9 =>
 aBin prog .gtr 3 v9 (vint 0) fun v10 =>
 cnd v10
(Hold (W prog J 331 n0 3 (subC yp2 (codeOf f3)) (RG.p (RG.p (RG.p (RG.p (RG.p (RG.p (RG.p (RG.p (RG.p (RG.p (RG.p (RG.p (RG.p (RG.p (RG.p (RG.p (RG.p (RG.p (RG.p (RG.p (RG.p (RG.p (RG.p (RG.p (RG.p (RG.p (RG.p (RG.p (RG.p (RG.p (RG.p (RG.p (RG.p (RG.p (RG.p (RG.p (RG.p (RG.p (RG.p (RG.p (RG.p (RG.p (RG.p (RG.p (RG.p (RG.p (RG.p (RG.p (RG.p (RG.p (RG.p (RG.p (RG.p (RG.p (RG.p (RG.p (RG.p f 222 (f.r 18)) 223 v1) 224 v1) 224 (Value.bool false)) 225 (f.r 20)) 226 v2) 227 v2) 228 v2) 228 (Value.bool false)) 229 (f.r 22)) 230 v3) 231 v3) 232 v3) 232 (Value.bool false)) 233 (f.r 32)) 234 v4) 235 v4) 236 v4) 236 (Value.bool false)) 237 (f.r 34)) 238 v5) 239 v5) 240 v5) 240 (Value.bool false)) 241 (f.r 36)) 242 v6) 243 v6) 244 v6) 244 (Value.bool false)) 245 (f.r 28)) 246 v7) 247 v7) 248 v7) 248 (Value.bool false)) 249 (f.r 29)) 250 v8) 251 v8) 252 v8) 252 (Value.bool false)) 253 (f.r 30)) 254 v9) 255 v10) 256 v10) 257 v10) 257 (Value.bool true)) 258 undef) 259 undef) 260 undef) 261 undef) 262 (Value.bool true)) 263 (Value.bool true)) 263 (Value.bool true)) 264 undef) 265 undef) 266 undef) 267 undef) 268 (Value.bool true)) h (contX pl3 prog J 331 n0 3 ct3 yp2 (codeOf f3) [] (RetQ prog [.tmp 0] n0 K))))
((((1 * 1 : Nat) ≤ 16777216 ∧ (1 : Nat) ≤ 16777216 ∧ List.length [(vint 0)] = 1) ∧ aFill (zrep [(vint 0)] 1) [(0,1,(vint 1))] fun c11 =>
 aNewS 1 c11 h fun v12 h13 =>
 Good prog J 15 [(f.r 31),v12] h13 fun v14 h15 =>
 aUn .not v14 fun v16 =>
 cnd v16
(Hold (W prog J 331 n0 3 (subC yp2 (codeOf f3)) (RG.p (RG.p (RG.p (RG.p (RG.p (RG.p (RG.p (RG.p (RG.p (RG.p (RG.p (RG.p (RG.p (RG.p (RG.p (RG.p (RG.p (RG.p (RG.p (RG.p (RG.p (RG.p (RG.p (RG.p (RG.p (RG.p (RG.p (RG.p (RG.p (RG.p (RG.p (RG.p (RG.p (RG.p (RG.p (RG.p (RG.p (RG.p (RG.p (RG.p (RG.p (RG.p (RG.p (RG.p (RG.p (RG.p (RG.p (RG.p (RG.p (RG.p (RG.p (RG.p (RG.p (RG.p (RG.p (RG.p (RG.p f 222 (f.r 18)) 223 v1) 224 v1) 224 (Value.bool false)) 225 (f.r 20)) 226 v2) 227 v2) 228 v2) 228 (Value.bool false)) 229 (f.r 22)) 230 v3) 231 v3) 232 v3) 232 (Value.bool false)) 233 (f.r 32)) 234 v4) 235 v4) 236 v4) 236 (Value.bool false)) 237 (f.r 34)) 238 v5) 239 v5) 240 v5) 240 (Value.bool false)) 241 (f.r 36)) 242 v6) 243 v6) 244 v6) 244 (Value.bool false)) 245 (f.r 28)) 246 v7) 247 v7) 248 v7) 248 (Value.bool false)) 249 (f.r 29)) 250 v8) 251 v8) 252 v8) 252 (Value.bool false)) 253 (f.r 30)) 254 v9) 255 v10) 256 v10) 257 v10) 257 (Value.bool false)) 258 (f.r 31)) 259 v12) 260 v14) 261 v16) 262 v16) 263 v16) 263 (Value.bool true)) 264 undef) 265 undef) 266 undef) 267 undef) 268 (Value.bool true)) h15 (contX pl3 prog J 331 n0 3 ct3 yp2 (codeOf f3) [] (RetQ prog [.tmp 0] n0 K))))
((((1 * 1 : Nat) ≤ 16777216 ∧ (1 : Nat) ≤ 16777216 ∧ List.length [(vint 0)] = 1) ∧ aFill (zrep [(vint 0)] 1) [(0,1,(vint 1))] fun c17 =>
 aNewS 1 c17 h15 fun v18 h19 =>
 Good prog J 15 [(f.r 35),v18] h19 fun v20 h21 =>
 aUn .not v20 fun v22 =>
 Hold (W prog J 331 n0 3 (subC yp2 (codeOf f3)) (RG.p (RG.p (RG.p (RG.p (RG.p (RG.p (RG.p (RG.p (RG.p (RG.p (RG.p (RG.p (RG.p (RG.p (RG.p (RG.p (RG.p (RG.p (RG.p (RG.p (RG.p (RG.p (RG.p (RG.p (RG.p (RG.p (RG.p (RG.p (RG.p (RG.p (RG.p (RG.p (RG.p (RG.p (RG.p (RG.p (RG.p (RG.p (RG.p (RG.p (RG.p (RG.p (RG.p (RG.p (RG.p (RG.p (RG.p (RG.p (RG.p (RG.p (RG.p (RG.p (RG.p (RG.p (RG.p (RG.p (RG.p f 222 (f.r 18)) 223 v1) 224 v1) 224 (Value.bool false)) 225 (f.r 20)) 226 v2) 227 v2) 228 v2) 228 (Value.bool false)) 229 (f.r 22)) 230 v3) 231 v3) 232 v3) 232 (Value.bool false)) 233 (f.r 32)) 234 v4) 235 v4) 236 v4) 236 (Value.bool false)) 237 (f.r 34)) 238 v5) 239 v5) 240 v5) 240 (Value.bool false)) 241 (f.r 36)) 242 v6) 243 v6) 244 v6) 244 (Value.bool false)) 245 (f.r 28)) 246 v7) 247 v7) 248 v7) 248 (Value.bool false)) 249 (f.r 29)) 250 v8) 251 v8) 252 v8) 252 (Value.bool false)) 253 (f.r 30)) 254 v9) 255 v10) 256 v10) 257 v10) 257 (Value.bool false)) 258 (f.r 31)) 259 v12) 260 v14) 261 v16) 262 v16) 263 v16) 263 (Value.bool false)) 264 (f.r 35)) 265 v18) 266 v20) 267 v22) 268 v22) h21 (contX pl3 prog J 331 n0 3 ct3 yp2 (codeOf f3) [] (RetQ prog [.tmp 0] n0 K)))))))))))))))) := sub_eq pok3 ct3 (by kernel_rfl)
theorem s3_23 {f : RG} : W prog J 331 n0 3 (subC yp2 (codeOf f3)) f h (contX pl3 prog J 331 n0 3 ct3 yp2 (codeOf f3) [] (RetQ prog [.tmp 0] n0 K)) =
(cnd (f.r 268)
(retL n0 K f.ds [(Value.bool false)] h)
(Hold (W prog J 331 n0 3 (subC yp33 (codeOf f3)) f h (contX pl3 prog J 331 n0 3 ct3 yp33 (codeOf f3) [] (RetQ prog [.tmp 0] n0 K))))) := sub_eq pok3 ct3 (by kernel_rfl)
theorem s3_24 {f : RG} : W prog J 331 n0 3 (subC yp33 (codeOf f3)) f h (contX pl3 prog J 331 n0 3 ct3 yp33 (codeOf f3) [] (RetQ prog [.tmp 0] n0 K)) =
(aLoad true 6 (f.r 2) h fun v1 =>
 Good prog J 16 [v1] h fun v2 h3 =>
 aExt v2 0 fun v4 =>
 aExt v2 1 fun v5 =>
 Hold (W prog J 331 n0 3 (subC yp34 (codeOf f3)) (RG.p (RG.p (RG.p (RG.p (RG.p (RG.p (RG.p f 270 v1) 271 v2) 269 v2) 272 v4) 273 v5) 30 v4) 18 v5) h3 (contX pl3 prog J 331 n0 3 ct3 yp34 (codeOf f3) [] (RetQ prog [.tmp 0] n0 K)))) := sub_eq pok3 ct3 (by kernel_rfl)
theorem s3_25 {f : RG} : W prog J 331 n0 3 (subC yp34 (codeOf f3)) f h (contX pl3 prog J 331 n0 3 ct3 yp34 (codeOf f3) [] (RetQ prog [.tmp 0] n0 K)) =
(aLoad true 6 (f.r 3) h fun v1 =>
 Good prog J 16 [v1] h fun v2 h3 =>
 aExt v2 0 fun v4 =>
 aExt v2 1 fun v5 =>
 Hold (W prog J 331 n0 3 (subC yp35 (codeOf f3)) (RG.p (RG.p (RG.p (RG.p (RG.p (RG.p (RG.p f 275 v1) 276 v2) 274 v2) 277 v4) 278 v5) 31 v4) 20 v5) h3 (contX pl3 prog J 331 n0 3 ct3 yp35 (codeOf f3) [] (RetQ prog [.tmp 0] n0 K)))) := sub_eq pok3 ct3 (by kernel_rfl)
theorem s3_26 {f : RG} : W prog J 331 n0 3 (subC yp35 (codeOf f3)) f h (contX pl3 prog J 331 n0 3 ct3 yp35 (codeOf f3) [] (RetQ prog [.tmp 0] n0 K)) =
((((3 * 1 : Nat) ≤ 16777216 ∧ (3 : Nat) ≤ 16777216 ∧ List.length [(vint 0)] = 1) ∧ aFill (zrep [(vint 0)] 3) [(0,1,(vint 0)),(1,1,(vint 1)),(2,1,(vint 2))] fun c1 =>
 aNewS 3 c1 h fun v2 h3 =>
 Good prog J 17 [(vint 3),v2] h3 fun v4 h5 =>
 aExt v4 0 fun v6 =>
 aExt v4 1 fun v7 =>
 Hold (W prog J 331 n0 3 (subC yp36 (codeOf f3)) (RG.p (RG.p (RG.p (RG.p (RG.p (RG.p (RG.p f 280 v2) 281 v4) 279 v4) 282 v6) 283 v7) 35 v6) 22 v7) h5 (contX pl3 prog J 331 n0 3 ct3 yp36 (codeOf f3) [] (RetQ prog [.tmp 0] n0 K))))) := sub_eq pok3 ct3 (by kernel_rfl)
theorem s3_27 {f : RG} : W prog J 331 n0 3 (subC yp36 (codeOf f3)) f h (contX pl3 prog J 331 n0 3 ct3 yp36 (codeOf f3) [] (RetQ prog [.tmp 0] n0 K)) =
((((3 * 1 : Nat) ≤ 16777216 ∧ (3 : Nat) ≤ 16777216 ∧ List.length [(vint 0)] = 1) ∧ aFill (zrep [(vint 0)] 3) [(0,1,(vint 0)),(1,1,(vint 1)),(2,1,(vint 2))] fun c1 =>
 aNewS 3 c1 h fun v2 h3 =>
 Good prog J 17 [(vint 4),v2] h3 fun v4 h5 =>
 aExt v4 0 fun v6 =>
 aExt v4 1 fun v7 =>
 Hold (W prog J 331 n0 3 (subC yp37 (codeOf f3)) (RG.p (RG.p (RG.p (RG.p (RG.p (RG.p f 285 v2) 286 v4) 284 v4) 287 v6) 288 v7) 32 v7) h5 (contX pl3 prog J 331 n0 3 ct3 yp37 (codeOf f3) [] (RetQ prog [.tmp 0] n0 K))))) := sub_eq pok3 ct3 (by kernel_rfl)
theorem s3_28 {f : RG} : W prog J 331 n0 3 (subC yp37 (codeOf f3)) f h (contX pl3 prog J 331 n0 3 ct3 yp37 (codeOf f3) [] (RetQ prog [.tmp 0] n0 K)) =
(aLoad true 6 (f.r 7) h fun v1 =>
 Good prog J 18 [v1] h fun v2 h3 =>
 aExt v2 0 fun v4 =>
 aExt v2 1 fun v5 =>
 Hold (W prog J 331 n0 3 (subC yp38 (codeOf f3)) (RG.p (RG.p (RG.p (RG.p (RG.p (RG.p (RG.p f 290 v1) 291 v2) 289 v2) 292 v4) 293 v5) 37 v4) 34 v5) h3 (contX pl3 prog J 331 n0 3 ct3 yp38 (codeOf f3) [] (RetQ prog [.tmp 0] n0 K)))) := sub_eq pok3 ct3 (by kernel_rfl)
theorem s3_29 {f : RG} : W prog J 331 n0 3 (subC yp38 (codeOf f3)) f h (contX pl3 prog J 331 n0 3 ct3 yp38 (codeOf f3) [] (RetQ prog [.tmp 0] n0 K)) =
(aBin prog .eql 32 (f.r 18) (vint 0) fun v1 =>
 cnd v1
(aBin prog .eql 32 (f.r 20) (vint 0) fun v2 =>
 cnd v2
(aBin prog .eql 32 (f.r 22) (vint 0) fun v3 =>
 cnd v3
(aBin prog .eql 32 (f.r 32) (vint 1) fun v4 =>
 cnd v4
(aBin prog .eql 32 (f.r 34) (vint 0) fun v5 =>
 cnd v5
((((1 * 1 : Nat) ≤ 16777216 ∧ (1 : Nat) ≤ 16777216 ∧ List.length [(vint 0)] = 1) ∧ aFill (zrep [(vint 0)] 1) [(0,1,(vint 1))] fun c6 =>
 aNewS 1 c6 h fun v7 h8 =>
 Good prog J 15 [(f.r 30),v7] h8 fun v9 h10 =>
 cnd v9
((((1 * 1 : Nat) ≤ 16777216 ∧ (1 : Nat) ≤ 16777216 ∧ List.length [(vint 0)] = 1) ∧ aFill (zrep [(vint 0)] 1) [(0,1,(vint 2))] fun c11 =>
 aNewS 1 c11 h10 fun v12 h13 =>
 Good prog J 15 [(f.r 31),v12] h13 fun v14 h15 =>
 cnd v14
((((3 * 1 : Nat) ≤ 16777216 ∧ (3 : Nat) ≤ 16777216 ∧ List.length [(vint 0)] = 1) ∧ aFill (zrep [(vint 0)] 3) [(0,1,(vint 0)),(1,1,(vint 1)),(2,1,(vint 2))] fun c16 =>
 aNewS 3 c16 h15 fun v17 h18 =>
 Good prog J 15 [(f.r 35),v17] h18 fun v19 h20 =>
 cnd v19
(aBin prog .eql 9 (f.r 37) (Value.string { data := #[103,97,116,101,115,61,51,32,102,105,114,115,116,61,49,48,48,46,46,49,48,52,32,108,111,115,116,61,52,10,99,104,97,110,103,101,61,48,46,46,50,10,99,104,97,110,103,101,61,45,51,46,46,45,49,10,99,111,117,110,116,32,103,97,116,101,61,48,32,109,97,110,61,49,32,110,117,109,98,101,114,61,49,48,50,32,101,114,114,61,48,10,116,97,108,108,105,101,100,10] }) fun v21 =>
 retL n0 K f.ds [v21] h20)
(retL n0 K f.ds [(Value.bool false)] h20)))
(retL n0 K f.ds [(Value.bool false)] h15)))
(retL n0 K f.ds [(Value.bool false)] h10)))
(retL n0 K f.ds [(Value.bool false)] h))
(retL n0 K f.ds [(Value.bool false)] h))
(retL n0 K f.ds [(Value.bool false)] h))
(retL n0 K f.ds [(Value.bool false)] h))
(retL n0 K f.ds [(Value.bool false)] h)) := sub_eq pok3 ct3 (by kernel_rfl)
end
end Go.Proofs.YtaceckiodofdkaaDoor
namespace Go.Proofs.YtaceckiodofdkaaDoor
open Go.Conc Go.Proofs.Tryd
set_option maxRecDepth 100000
theorem wrongP_find {t : Tal} : wrongO t = firstN (fun m => (picksR t.counts.length m 0).find? fun r => truthS t (setF 0 r)) (t.counts.length + 1) := by
 unfold wrongO
 exact pickP_find
theorem clashP_find {t : Tal} : clashO t = firstN (fun m => (picksR t.counts.length m 0).find? fun r => !truthS t (andU 127 (setF 0 r))) (t.counts.length + 1) := by
 unfold clashO
 exact pickP_find
noncomputable def lostP (t : Tal) (a b : Int) : Rng × Int :=
 open Classical in
 if talErr t ≠ 0 then (⟨0,0⟩,talErr t) else if ¬ ((0 ≤ a ∧ a ≤ t.gates - 1) ∧ (0 ≤ b ∧ b ≤ t.gates - 1)) then (⟨0,0⟩,3) else if a ≥ b then (⟨0,0⟩,5) else if ¬ TruthIs t (limA t 0) then (⟨0,0⟩,11) else (lostR t (bkR t (limA t 0)) a.toNat b.toNat,0)
def SinceAt (t : Tal) (many : Int) (g : Nat) : Prop := g < t.gates.toNat ∧ (∀ j,j < g → (lostR t (bkR t (limA t 0)) 0 j).lo < many) ∧ many ≤ (lostR t (bkR t (limA t 0)) 0 g).lo
theorem sinceAt_one {t : Tal} {many : Int} {g k : Nat} (h : SinceAt t many g) (h' : SinceAt t many k) : g = k := by
 rcases Nat.lt_trichotomy g k with e | e | e
 ·have := h'.2.1 g e
  have := h.2.2
  omega
 ·exact e
 ·have := h.2.1 k e
  have := h'.2.2
  omega
noncomputable def sinceP (t : Tal) (many : Int) : Int × Int :=
 open Classical in
 if talErr t ≠ 0 then (0,talErr t) else if many < 0 then (0,1) else if ¬ TruthIs t (limA t 0) then (0,11) else if h : ∃ g,SinceAt t many g then ((Classical.choose h : Nat),0) else (0,11)
noncomputable def doubtP (t : Tal) : Int × Int × Int :=
 open Classical in
 if talErr t ≠ 0 then (0,0,talErr t) else if ¬ TruthIs t (limA t 0) then (0,0,11) else ((dbt (bkR t (limA t 0)) t.gates.toNat).1,(dbt (bkR t (limA t 0)) t.gates.toNat).2,0)
section
variable {main : Bool} {J : JT} {h H : List AObj} {K : Value → List AObj → Prop} {n0 : Nat} {v cv nv : Value} {t : Tal} {a b many : Int}
theorem lostP_all (P : Value → Prop) (hK : P (.tuple ⟨[(lostP t a b).1.val,vint (lostP t a b).2]⟩)) :
  (talErr t ≠ 0 → P (.tuple ⟨[.agg ⟨[vint 0,vint 0]⟩,vint (talErr t)]⟩)) ∧ (talErr t = 0 → ¬ ((0 ≤ a ∧ a ≤ t.gates - 1) ∧ (0 ≤ b ∧ b ≤ t.gates - 1)) → P (.tuple ⟨[.agg ⟨[vint 0,vint 0]⟩,vint 3]⟩)) ∧
  (talErr t = 0 → (0 ≤ a ∧ a ≤ t.gates - 1) → (0 ≤ b ∧ b ≤ t.gates - 1) → a ≥ b → P (.tuple ⟨[.agg ⟨[vint 0,vint 0]⟩,vint 5]⟩)) ∧
  (talErr t = 0 → (0 ≤ a ∧ a ≤ t.gates - 1) → (0 ≤ b ∧ b ≤ t.gates - 1) → a < b → ¬ TruthIs t (limA t 0) → P (.tuple ⟨[.agg ⟨[vint 0,vint 0]⟩,vint 11]⟩)) ∧
  (talErr t = 0 → (0 ≤ a ∧ a ≤ t.gates - 1) → (0 ≤ b ∧ b ≤ t.gates - 1) → a < b → TruthIs t (limA t 0) → P (.tuple ⟨[(lostR t (bkR t (limA t 0)) a.toNat b.toNat).val,vint 0]⟩)) := by
 have go : ∀ x y,lostP t a b = (x,y) → P (.tuple ⟨[x.val,vint y]⟩) := fun x y hx => by rw [hx] at hK; exact hK
 refine ⟨fun h0 => go ⟨0,0⟩ (talErr t) ?_,fun h0 hg => go ⟨0,0⟩ 3 ?_,fun h0 h1 h2 h3 => go ⟨0,0⟩ 5 ?_,fun h0 h1 h2 h3 hT => go ⟨0,0⟩ 11 ?_,fun h0 h1 h2 h3 hT => go _ 0 ?_⟩
 ·unfold lostP
  rw [if_pos h0]
 ·unfold lostP
  rw [if_neg (not_not_intro h0),if_pos hg]
 ·unfold lostP
  rw [if_neg (not_not_intro h0),if_neg (not_not_intro ⟨h1,h2⟩),if_pos h3]
 ·unfold lostP
  rw [if_neg (not_not_intro h0),if_neg (not_not_intro ⟨h1,h2⟩),if_neg (show ¬ a ≥ b by omega),if_pos hT]
 ·unfold lostP
  rw [if_neg (not_not_intro h0),if_neg (not_not_intro ⟨h1,h2⟩),if_neg (show ¬ a ≥ b by omega),if_neg (not_not_intro hT)]
theorem good10' (hJ : Closed prog main J) (ht : TalAt h v t cv nv) (hK : K (.tuple ⟨[(lostP t a b).1.val,vint (lostP t a b).2]⟩) h) : Good prog J 10 [v,vint a,vint b] h K := by
 obtain ⟨k1,k2,k3,k4,k5⟩ := lostP_all (fun x => K x h) hK
 exact good10 hJ ht k1 k2 k3 k4 k5
theorem since_all (P : Value → Prop) (hK : P (.tuple ⟨[vint (sinceP t many).1,vint (sinceP t many).2]⟩)) :
  (talErr t ≠ 0 → P (.tuple ⟨[vint 0,vint (talErr t)]⟩)) ∧ (talErr t = 0 → many < 0 → P (.tuple ⟨[vint 0,vint 1]⟩)) ∧ (talErr t = 0 → 0 ≤ many → ¬ TruthIs t (limA t 0) → P (.tuple ⟨[vint 0,vint 11]⟩)) ∧
  (talErr t = 0 → 0 ≤ many → TruthIs t (limA t 0) → ∀ g,g < t.gates.toNat → (∀ j,j < g → (lostR t (bkR t (limA t 0)) 0 j).lo < many) → many ≤ (lostR t (bkR t (limA t 0)) 0 g).lo → P (.tuple ⟨[vint (g : Nat),vint 0]⟩)) ∧
  (talErr t = 0 → 0 ≤ many → TruthIs t (limA t 0) → (∀ j,j < t.gates.toNat → (lostR t (bkR t (limA t 0)) 0 j).lo < many) → P (.tuple ⟨[vint 0,vint 11]⟩)) := by
 have go : ∀ x y,sinceP t many = (x,y) → P (.tuple ⟨[vint x,vint y]⟩) := fun x y hx => by rw [hx] at hK; exact hK
 refine ⟨fun h0 => go 0 (talErr t) ?_,fun h0 hg => go 0 1 ?_,fun h0 h1 hT => go 0 11 ?_,fun h0 h1 hT g g1 g2 g3 => go (g : Nat) 0 ?_,fun h0 h1 hT hn => go 0 11 ?_⟩
 ·unfold sinceP
  rw [if_pos h0]
 ·unfold sinceP
  rw [if_neg (not_not_intro h0),if_pos hg]
 ·unfold sinceP
  rw [if_neg (not_not_intro h0),if_neg (show ¬ many < 0 by omega),if_pos hT]
 ·have he : ∃ g,SinceAt t many g := ⟨g,g1,g2,g3⟩
  unfold sinceP
  rw [if_neg (not_not_intro h0),if_neg (show ¬ many < 0 by omega),if_neg (not_not_intro hT),dif_pos he,sinceAt_one (Classical.choose_spec he) ⟨g1,g2,g3⟩]
 ·have he : ¬ ∃ g,SinceAt t many g := by
   rintro ⟨g,g1,_,g3⟩
   have := hn g g1
   omega
  unfold sinceP
  rw [if_neg (not_not_intro h0),if_neg (show ¬ many < 0 by omega),if_neg (not_not_intro hT),dif_neg he]
theorem good11' (hJ : Closed prog main J) (ht : TalAt h v t cv nv) (hK : K (.tuple ⟨[vint (sinceP t many).1,vint (sinceP t many).2]⟩) h) : Good prog J 11 [v,vint many] h K := by
 obtain ⟨k1,k2,k3,k4,k5⟩ := since_all (fun x => K x h) hK
 exact good11 hJ ht k1 k2 k3 k4 k5
theorem doubt_all (P : Value → Prop) (hK : P (.tuple ⟨[vint (doubtP t).1,vint (doubtP t).2.1,vint (doubtP t).2.2]⟩)) :
  (talErr t ≠ 0 → P (.tuple ⟨[vint 0,vint 0,vint (talErr t)]⟩)) ∧ (talErr t = 0 → ¬ TruthIs t (limA t 0) → P (.tuple ⟨[vint 0,vint 0,vint 11]⟩)) ∧
  (talErr t = 0 → TruthIs t (limA t 0) → P (.tuple ⟨[vint ((dbt (bkR t (limA t 0)) t.gates.toNat).1 : Nat),vint (dbt (bkR t (limA t 0)) t.gates.toNat).2,vint 0]⟩)) := by
 have go : ∀ x y z,doubtP t = (x,y,z) → P (.tuple ⟨[vint x,vint y,vint z]⟩) := fun x y z hx => by rw [hx] at hK; exact hK
 refine ⟨fun h0 => go 0 0 (talErr t) ?_,fun h0 hT => go 0 0 11 ?_,fun h0 hT => go _ _ 0 ?_⟩
 ·unfold doubtP
  rw [if_pos h0]
 ·unfold doubtP
  rw [if_neg (not_not_intro h0),if_pos hT]
 ·unfold doubtP
  rw [if_neg (not_not_intro h0),if_neg (not_not_intro hT)]
theorem good12' (hJ : Closed prog main J) (ht : TalAt h v t cv nv) (hK : K (.tuple ⟨[vint (doubtP t).1,vint (doubtP t).2.1,vint (doubtP t).2.2]⟩) h) : Good prog J 12 [v] h K := by
 obtain ⟨k1,k2,k3⟩ := doubt_all (fun x => K x h) hK
 exact good12 hJ ht k1 k2 k3
end
def readsO (c : Cnt) : Rng := if cntErr c 5 = 0 then rd c else ⟨0,0⟩
section
variable {main : Bool} {J : JT} {h H : List AObj} {K : Value → List AObj → Prop} {KV : Value → Prop} {n0 : Nat}
theorem good7' (hJ : Closed prog main J) {c : Cnt} (hK : K (.tuple ⟨[.agg ⟨(readsO c).cells⟩,vint (cntErr c 5)]⟩) H) : Good prog J 7 [c.val] H K := by
 refine good7 hJ (fun hne => ?_) fun heq => ?_
 ·unfold readsO at hK
  rw [if_neg hne] at hK
  exact hK
 ·unfold readsO at hK
  rw [if_pos heq,heq] at hK
  exact hK
end
end Go.Proofs.YtaceckiodofdkaaDoor
namespace Go.Proofs.YtaceckiodofdkaaDoor
open Go.Conc Go.Proofs.Tryd
set_option maxRecDepth 100000
set_option maxHeartbeats 4000000
set_option linter.unusedVariables false
section
variable {main : Bool} {J : JT} {n0 : Nat} {h : List AObj} {K : Value → List AObj → Prop}
theorem at33 : prog.funcs[33]? = some f33 := by kernel_rfl
theorem body33 : f33.body = some (codeOf f33) := by kernel_rfl
def pl33 : Plans := []
def ct33 : Cuts := .go
theorem pok33 : plansOk prog pl33 (codeOf f33) = true := by kernel_rfl
theorem e33 {a0 : Value} : W prog J 6 h.length 33 (codeOf f33) (RG.mk (regs [a0]) []) h (RetQ prog [.tmp 2] h.length K) =
(Good prog J 49 [a0,(Value.string { data := #[32] })] h fun v1 h2 =>
 aBin prog .add 9 v1 (Value.string { data := #[10] }) fun v3 =>
 retL h.length K [] [v3] h2) := top_eq pok33 ct33 (by kernel_rfl)
theorem g33 (hJ : Closed prog main J) {a0 : Value} (hs : heapOk h → W prog J 6 h.length 33 (codeOf f33) (RG.mk (regs [a0]) []) h (RetQ prog [.tmp 2] h.length K)) : Good prog J 33 [a0] h K :=
 good_of_W hJ mixed at33 body33 (by kernel_rfl) (Nat.le_of_ble_eq_true rfl) hs
theorem at34 : prog.funcs[34]? = some f34 := by kernel_rfl
theorem body34 : f34.body = some (codeOf f34) := by kernel_rfl
def pl34 : Plans := []
def ct34 : Cuts := .go
theorem pok34 : plansOk prog pl34 (codeOf f34) = true := by kernel_rfl
theorem e34 {a0 a1 : Value} : W prog J 10 h.length 34 (codeOf f34) (RG.mk (regs [a0,a1]) []) h (RetQ prog [.tmp 4] h.length K) =
(aBin prog .add 9 a0 (Value.string { data := #[61] }) fun v1 =>
 Good prog J 50 [a1] h fun v2 h3 =>
 aBin prog .add 9 v1 v2 fun v4 =>
 retL h.length K [] [v4] h3) := top_eq pok34 ct34 (by kernel_rfl)
theorem g34 (hJ : Closed prog main J) {a0 a1 : Value} (hs : heapOk h → W prog J 10 h.length 34 (codeOf f34) (RG.mk (regs [a0,a1]) []) h (RetQ prog [.tmp 4] h.length K)) : Good prog J 34 [a0,a1] h K :=
 good_of_W hJ mixed at34 body34 (by kernel_rfl) (Nat.le_of_ble_eq_true rfl) hs
theorem at35 : prog.funcs[35]? = some f35 := by kernel_rfl
theorem body35 : f35.body = some (codeOf f35) := by kernel_rfl
def pl35 : Plans := [(1,false,.take 0 (.take 1 (.take 2 (.take 5 (.take 6 (.last 3 true (.take 4 (.last 7 true (.take 8 (.take 9 (.fin)))))))))))]
def ct35 : Cuts := .go
theorem pok35 : plansOk prog pl35 (codeOf f35) = true := by kernel_rfl
theorem e35 {a0 a1 : Value} : W prog J 14 h.length 35 (codeOf f35) (RG.mk (regs [a0,a1]) []) h (RetQ prog [.tmp 4] h.length K) =
(aBox a1 h fun v1 h2 =>
(∃ B,aOff v1 0 fun v3 =>
 aLoad false 1 v3 h2 fun v4 =>
 RdOk (some B) (ptrBlk v3) ∧ (aOff v1 1 fun v5 =>
 aLoad false 1 v5 h2 fun v6 =>
 RdOk (some B) (ptrBlk v5) ∧ (Good prog J 34 [a0,v4] h2 fun v7 h8 =>
 SameB (some B) h2 h8 ∧ (aBin prog .add 9 v7 (Value.string { data := #[46,46] }) fun v9 =>
 Good prog J 50 [v6] h8 fun v10 h11 =>
 SameB (some B) h2 h11 ∧ (aBin prog .add 9 v9 v10 fun v12 =>
 retL h.length K [] [v12] h11)))))) := top_eq pok35 ct35 (by kernel_rfl)
theorem g35 (hJ : Closed prog main J) {a0 a1 : Value} (hs : heapOk h → W prog J 14 h.length 35 (codeOf f35) (RG.mk (regs [a0,a1]) []) h (RetQ prog [.tmp 4] h.length K)) : Good prog J 35 [a0,a1] h K :=
 good_of_W hJ mixed at35 body35 (by kernel_rfl) (Nat.le_of_ble_eq_true rfl) hs
theorem at18 : prog.funcs[18]? = some f18 := by kernel_rfl
theorem body18 : f18.body = some (codeOf f18) := by kernel_rfl
def pl18 : Plans := [(4,false,.take 0 (.take 1 (.take 3 (.take 4 (.take 6 (.take 7 (.last 2 true (.last 5 true (.last 8 true (.last 9 true (.last 10 true (.take 11 (.fin))))))))))))),
 (13,false,.take 0 (.take 1 (.take 2 (.take 4 (.take 5 (.take 7 (.take 8 (.take 10 (.take 11 (.last 3 true (.last 6 true (.last 9 true (.last 12 true (.last 13 true (.last 14 true (.take 15 (.take 16 (.fin))))))))))))))))))]
def ct18 : Cuts := .go
theorem pok18 : plansOk prog pl18 (codeOf f18) = true := by kernel_rfl
theorem e18 {a0 : Value} : W prog J 68 h.length 18 (codeOf f18) (RG.mk (regs [a0]) []) h (RetQ prog [.tmp 2,.tmp 3] h.length K) =
(aBox a0 h fun v1 h2 =>
 aLoad true 6 v1 h2 fun v3 =>
 Good prog J 6 [v3] h2 fun v4 h5 =>
 aBin prog .neq 32 v4 (vint 0) fun v6 =>
 cnd v6
(retL h.length K [] [(Value.string { data := #[] }),v4] h5)
((∃ B,aOff v1 0 fun v7 =>
 aLoad false 1 v7 h5 fun v8 =>
 RdOk (some B) (ptrBlk v7) ∧ (aOff v1 1 fun v9 =>
 aLoad true 2 v9 h5 fun v10 =>
 RdOk (some B) (ptrBlk v9) ∧ (aOff v1 4 fun v11 =>
 aLoad false 1 v11 h5 fun v12 =>
 RdOk (some B) (ptrBlk v11) ∧ (Good prog J 34 [(Value.string { data := #[103,97,116,101,115] }),v8] h5 fun v13 h14 =>
 SameB (some B) h5 h14 ∧ (Good prog J 35 [(Value.string { data := #[102,105,114,115,116] }),v10] h14 fun v15 h16 =>
 SameB (some B) h5 h16 ∧ (Good prog J 34 [(Value.string { data := #[108,111,115,116] }),v12] h16 fun v17 h18 =>
 SameB (some B) h5 h18 ∧ ((((3 * 1 : Nat) ≤ 16777216 ∧ (3 : Nat) ≤ 16777216 ∧ List.length [(Value.string { data := #[] })] = 1) ∧ aFill (zrep [(Value.string { data := #[] })] 3) [(0,1,v13),(1,1,v15),(2,1,v17)] fun c19 =>
 aNewS 3 c19 h18 fun v20 h21 =>
 SameB (some B) h5 h21 ∧ (Good prog J 33 [v20] h21 fun v22 h23 =>
 SameB (some B) h5 h23 ∧ (aOff v1 3 fun v24 =>
 aLoad false 1 v24 h23 fun v25 =>
 aLenS v25 fun v26 =>
 Sem J 68 h.length 18 (subC yp0 (codeOf f18)) (RG.p (RG.p (RG.p (RG.p (RG.p (RG.p (RG.p (RG.p (RG.p (RG.p (RG.p (RG.p (RG.p (RG.p (RG.p (RG.p (RG.p (RG.p (RG.p (RG.p (RG.p (RG.p (RG.p (RG.p (RG.mk (regs [a0]) []) 1 v1) 2 (Value.string { data := #[] })) 3 (vint 0)) 10 v3) 11 v4) 4 v4) 12 v4) 13 v6) 15 v7) 16 v8) 18 v9) 19 v10) 21 v11) 22 v12) 17 v13) 20 v15) 23 v17) 24 v20) 25 v22) 5 v22) 26 v24) 27 v25) 28 v26) 29 (vint 0)) h23 (contX pl18 prog J 68 h.length 18 ct18 yp0 (codeOf f18) [] (RetQ prog [.tmp 2,.tmp 3] h.length K)))))))))))))) := top_eq pok18 ct18 (by kernel_rfl)
theorem g18 (hJ : Closed prog main J) {a0 : Value} (hs : heapOk h → W prog J 68 h.length 18 (codeOf f18) (RG.mk (regs [a0]) []) h (RetQ prog [.tmp 2,.tmp 3] h.length K)) : Good prog J 18 [a0] h K :=
 good_of_W hJ mixed at18 body18 (by kernel_rfl) (Nat.le_of_ble_eq_true rfl) hs
theorem s18_1 {f : RG} {nx0 : RG → List AObj → Prop} : W prog J 68 n0 18 (subC yp1 (codeOf f18)) f h (thenK nx0 (contX pl18 prog J 68 n0 18 ct18 yp0 (codeOf f18) [] (RetQ prog [.tmp 2,.tmp 3] n0 K))) =
(aBin prog .lss 3 (f.r 29) (f.r 28) fun v1 =>
 cnd v1
(aIdx 2 (f.r 27) (f.r 29) fun v2 =>
 aLoad true 2 v2 h fun v3 =>
 aAlloc [(vint 0),(vint 0)] h fun v4 h5 =>
 aStore 2 v4 v3 h5 fun h6 =>
 aLoad true 2 v4 h6 fun v7 =>
 Good prog J 35 [(Value.string { data := #[99,104,97,110,103,101] }),v7] h6 fun v8 h9 =>
(((1 * 1 : Nat) ≤ 16777216 ∧ (1 : Nat) ≤ 16777216 ∧ List.length [(Value.string { data := #[] })] = 1) ∧ aFill (zrep [(Value.string { data := #[] })] 1) [(0,1,v8)] fun c10 =>
 aNewS 1 c10 h9 fun v11 h12 =>
 Good prog J 33 [v11] h12 fun v13 h14 =>
 aBin prog .add 9 (f.r 5) v13 fun v15 =>
 aBin prog .add 3 (f.r 29) (vint 1) fun v16 =>
 nx0 (RG.p (RG.p (RG.p (RG.p (RG.p (RG.p (RG.p (RG.p (RG.p (RG.p (RG.p (RG.p (RG.p f 30 v1) 31 v2) 32 v3) 7 v4) 33 (f.r 5)) 34 v7) 35 v8) 36 v11) 37 v13) 38 v15) 5 v15) 39 v16) 29 v16) h14))
(aOff (f.r 1) 5 fun v17 =>
 aLoad false 1 v17 h fun v18 =>
 aLenS v18 fun v19 =>
 Sem J 68 n0 18 (subC yp3 (codeOf f18)) (RG.p (RG.p (RG.p (RG.p (RG.p f 30 v1) 40 v17) 41 v18) 42 v19) 43 (vint 0)) h (contX pl18 prog J 68 n0 18 ct18 yp3 (codeOf f18) [] (RetQ prog [.tmp 2,.tmp 3] n0 K)))) := sub_eq pok18 ct18 (by kernel_rfl)
theorem l18_1 (hJ : Closed prog main J) {S : Type} (μ : S → Nat) (I : S → RG → List AObj → Prop) (hI : ∀ s f h,I s f h → heapOk h → n0 ≤ h.length → W prog J 68 n0 18 (subC yp1 (codeOf f18)) f h (thenK (Nx n0 μ I s) (contX pl18 prog J 68 n0 18 ct18 yp0 (codeOf f18) [] (RetQ prog [.tmp 2,.tmp 3] n0 K))))
 {s : S} {f : RG} (hi : Gets n0 I s f h) : Sem J 68 n0 18 (subC yp0 (codeOf f18)) f h (contX pl18 prog J 68 n0 18 ct18 yp0 (codeOf f18) [] (RetQ prog [.tmp 2,.tmp 3] n0 K)) :=
 loop_rule hJ mixed (b := subC yp1 (codeOf f18)) (by kernel_rfl) μ I hI hi
theorem s18_2 {f : RG} {nx0 : RG → List AObj → Prop} : W prog J 68 n0 18 (subC yp7 (codeOf f18)) f h (thenK nx0 (contX pl18 prog J 68 n0 18 ct18 yp3 (codeOf f18) [] (RetQ prog [.tmp 2,.tmp 3] n0 K))) =
(aBin prog .lss 3 (f.r 43) (f.r 42) fun v1 =>
 cnd v1
(aIdx 4 (f.r 41) (f.r 43) fun v2 =>
 aLoad true 4 v2 h fun v3 =>
 aAlloc [(vint 0),(vint 0),(vint 0),(vint 0)] h fun v4 h5 =>
 aStore 4 v4 v3 h5 fun h6 =>
(∃ B,aOff v4 0 fun v7 =>
 aLoad false 1 v7 h6 fun v8 =>
 RdOk (some B) (ptrBlk v7) ∧ (aOff v4 1 fun v9 =>
 aLoad false 1 v9 h6 fun v10 =>
 RdOk (some B) (ptrBlk v9) ∧ (aOff v4 2 fun v11 =>
 aLoad false 1 v11 h6 fun v12 =>
 RdOk (some B) (ptrBlk v11) ∧ (aOff v4 3 fun v13 =>
 aLoad false 1 v13 h6 fun v14 =>
 RdOk (some B) (ptrBlk v13) ∧ (Good prog J 34 [(Value.string { data := #[103,97,116,101] }),v8] h6 fun v15 h16 =>
 SameB (some B) h6 h16 ∧ (Good prog J 34 [(Value.string { data := #[109,97,110] }),v10] h16 fun v17 h18 =>
 SameB (some B) h6 h18 ∧ (Good prog J 34 [(Value.string { data := #[110,117,109,98,101,114] }),v12] h18 fun v19 h20 =>
 SameB (some B) h6 h20 ∧ (Good prog J 34 [(Value.string { data := #[101,114,114] }),v14] h20 fun v21 h22 =>
 SameB (some B) h6 h22 ∧ ((((5 * 1 : Nat) ≤ 16777216 ∧ (5 : Nat) ≤ 16777216 ∧ List.length [(Value.string { data := #[] })] = 1) ∧ aFill (zrep [(Value.string { data := #[] })] 5) [(0,1,(Value.string { data := #[99,111,117,110,116] })),(1,1,v15),(2,1,v17),(3,1,v19),(4,1,v21)] fun c23 =>
 aNewS 5 c23 h22 fun v24 h25 =>
 SameB (some B) h6 h25 ∧ (Good prog J 33 [v24] h25 fun v26 h27 =>
 SameB (some B) h6 h27 ∧ (aBin prog .add 9 (f.r 5) v26 fun v28 =>
 aBin prog .add 3 (f.r 43) (vint 1) fun v29 =>
 nx0 (RG.p (RG.p (RG.p (RG.p (RG.p (RG.p (RG.p (RG.p (RG.p (RG.p (RG.p (RG.p (RG.p (RG.p (RG.p (RG.p (RG.p (RG.p (RG.p (RG.p (RG.p (RG.p (RG.p f 44 v1) 45 v2) 46 v3) 9 v4) 47 (f.r 5)) 48 v7) 49 v8) 51 v9) 52 v10) 54 v11) 55 v12) 57 v13) 58 v14) 50 v15) 53 v17) 56 v19) 59 v21) 60 v24) 61 v26) 62 v28) 5 v28) 63 v29) 43 v29) h27)))))))))))))
((((1 * 1 : Nat) ≤ 16777216 ∧ (1 : Nat) ≤ 16777216 ∧ List.length [(Value.string { data := #[] })] = 1) ∧ aFill (zrep [(Value.string { data := #[] })] 1) [(0,1,(Value.string { data := #[116,97,108,108,105,101,100] }))] fun c30 =>
 aNewS 1 c30 h fun v31 h32 =>
 Good prog J 33 [v31] h32 fun v33 h34 =>
 aBin prog .add 9 (f.r 5) v33 fun v35 =>
 retL n0 K f.ds [v35,(vint 0)] h34))) := sub_eq pok18 ct18 (by kernel_rfl)
theorem l18_2 (hJ : Closed prog main J) {S : Type} (μ : S → Nat) (I : S → RG → List AObj → Prop) (hI : ∀ s f h,I s f h → heapOk h → n0 ≤ h.length → W prog J 68 n0 18 (subC yp7 (codeOf f18)) f h (thenK (Nx n0 μ I s) (contX pl18 prog J 68 n0 18 ct18 yp3 (codeOf f18) [] (RetQ prog [.tmp 2,.tmp 3] n0 K))))
 {s : S} {f : RG} (hi : Gets n0 I s f h) : Sem J 68 n0 18 (subC yp3 (codeOf f18)) f h (contX pl18 prog J 68 n0 18 ct18 yp3 (codeOf f18) [] (RetQ prog [.tmp 2,.tmp 3] n0 K)) :=
 loop_rule hJ mixed (b := subC yp7 (codeOf f18)) (by kernel_rfl) μ I hI hi
end
section
variable {main : Bool} {J : JT} {n0 : Nat} {h : List AObj} {K : Value → List AObj → Prop}
theorem at66 : prog.funcs[66]? = some f66 := by kernel_rfl
theorem body66 : f66.body = some (codeOf f66) := by kernel_rfl
def pl66 : Plans := []
def ct66 : Cuts := .bin (.go) (.bin (.go) (.cut (.bin (.go) (.cut (.go)))))
theorem pok66 : plansOk prog pl66 (codeOf f66) = true := by kernel_rfl
theorem e66 {a0 : Value} : W prog J 25 h.length 66 (codeOf f66) (RG.mk (regs [a0]) []) h (RetQ prog [.tmp 2] h.length K) =
(aBin prog .geq 116 a0 (Value.int .u64 4294967296) fun v1 =>
 cnd v1
(aBin prog .shr 116 a0 (Value.int .u64 32) fun v2 =>
 Hold (W prog J 25 h.length 66 (subC [1,1] (codeOf f66)) (RG.p (RG.p (RG.p (RG.p (RG.p (RG.p (RG.p (RG.mk (regs [a0]) []) 2 (vint 0)) 3 a0) 4 v1) 5 a0) 6 v2) 0 v2) 2 (vint 32)) h (contX pl66 prog J 25 h.length 66 ct66 [1,1] (codeOf f66) [] (RetQ prog [.tmp 2] h.length K))))
(Hold (W prog J 25 h.length 66 (subC [1,1] (codeOf f66)) (RG.p (RG.p (RG.p (RG.mk (regs [a0]) []) 2 (vint 0)) 3 a0) 4 v1) h (contX pl66 prog J 25 h.length 66 ct66 [1,1] (codeOf f66) [] (RetQ prog [.tmp 2] h.length K))))) := top_eq pok66 ct66 (by kernel_rfl)
theorem g66 (hJ : Closed prog main J) {a0 : Value} (hs : heapOk h → W prog J 25 h.length 66 (codeOf f66) (RG.mk (regs [a0]) []) h (RetQ prog [.tmp 2] h.length K)) : Good prog J 66 [a0] h K :=
 good_of_W hJ mixed at66 body66 (by kernel_rfl) (Nat.le_of_ble_eq_true rfl) hs
theorem s66_1 {f : RG} : W prog J 25 n0 66 (subC [1,1] (codeOf f66)) f h (contX pl66 prog J 25 n0 66 ct66 [1,1] (codeOf f66) [] (RetQ prog [.tmp 2] n0 K)) =
(aBin prog .geq 116 (f.r 0) (Value.int .u64 65536) fun v1 =>
 cnd v1
(aBin prog .shr 116 (f.r 0) (Value.int .u64 16) fun v2 =>
 aBin prog .add 3 (f.r 2) (vint 16) fun v3 =>
 Hold (W prog J 25 n0 66 (subC [1,1,1] (codeOf f66)) (RG.p (RG.p (RG.p (RG.p (RG.p (RG.p (RG.p (RG.p f 7 (f.r 0)) 8 v1) 9 (f.r 0)) 10 v2) 0 v2) 11 (f.r 2)) 12 v3) 2 v3) h (contX pl66 prog J 25 n0 66 ct66 [1,1,1] (codeOf f66) [] (RetQ prog [.tmp 2] n0 K))))
(Hold (W prog J 25 n0 66 (subC [1,1,1] (codeOf f66)) (RG.p (RG.p f 7 (f.r 0)) 8 v1) h (contX pl66 prog J 25 n0 66 ct66 [1,1,1] (codeOf f66) [] (RetQ prog [.tmp 2] n0 K))))) := sub_eq pok66 ct66 (by kernel_rfl)
theorem s66_2 {f : RG} : W prog J 25 n0 66 (subC [1,1,1] (codeOf f66)) f h (contX pl66 prog J 25 n0 66 ct66 [1,1,1] (codeOf f66) [] (RetQ prog [.tmp 2] n0 K)) =
(aBin prog .geq 116 (f.r 0) (Value.int .u64 256) fun v1 =>
 cnd v1
(aBin prog .shr 116 (f.r 0) (Value.int .u64 8) fun v2 =>
 aBin prog .add 3 (f.r 2) (vint 8) fun v3 =>
 aConvI .u8 v2 fun v4 =>
 aIdxStr (Value.string { data := #[0,1,2,2,3,3,3,3,4,4,4,4,4,4,4,4,5,5,5,5,5,5,5,5,5,5,5,5,5,5,5,5,6,6,6,6,6,6,6,6,6,6,6,6,6,6,6,6,6,6,6,6,6,6,6,6,6,6,6,6,6,6,6,6,7,7,7,7,7,7,7,7,7,7,7,7,7,7,7,7,7,7,7,7,7,7,7,7,7,7,7,7,7,7,7,7,7,7,7,7,7,7,7,7,7,7,7,7,7,7,7,7,7,7,7,7,7,7,7,7,7,7,7,7,7,7,7,7,8,8,8,8,8,8,8,8,8,8,8,8,8,8,8,8,8,8,8,8,8,8,8,8,8,8,8,8,8,8,8,8,8,8,8,8,8,8,8,8,8,8,8,8,8,8,8,8,8,8,8,8,8,8,8,8,8,8,8,8,8,8,8,8,8,8,8,8,8,8,8,8,8,8,8,8,8,8,8,8,8,8,8,8,8,8,8,8,8,8,8,8,8,8,8,8,8,8,8,8,8,8,8,8,8,8,8,8,8,8,8,8,8,8,8,8,8,8,8,8,8,8,8,8,8,8,8,8] }) v4 fun v5 =>
 aConvI .i64 v5 fun v6 =>
 aBin prog .add 3 v3 v6 fun v7 =>
 retL n0 K f.ds [v7] h)
(aConvI .u8 (f.r 0) fun v8 =>
 aIdxStr (Value.string { data := #[0,1,2,2,3,3,3,3,4,4,4,4,4,4,4,4,5,5,5,5,5,5,5,5,5,5,5,5,5,5,5,5,6,6,6,6,6,6,6,6,6,6,6,6,6,6,6,6,6,6,6,6,6,6,6,6,6,6,6,6,6,6,6,6,7,7,7,7,7,7,7,7,7,7,7,7,7,7,7,7,7,7,7,7,7,7,7,7,7,7,7,7,7,7,7,7,7,7,7,7,7,7,7,7,7,7,7,7,7,7,7,7,7,7,7,7,7,7,7,7,7,7,7,7,7,7,7,7,8,8,8,8,8,8,8,8,8,8,8,8,8,8,8,8,8,8,8,8,8,8,8,8,8,8,8,8,8,8,8,8,8,8,8,8,8,8,8,8,8,8,8,8,8,8,8,8,8,8,8,8,8,8,8,8,8,8,8,8,8,8,8,8,8,8,8,8,8,8,8,8,8,8,8,8,8,8,8,8,8,8,8,8,8,8,8,8,8,8,8,8,8,8,8,8,8,8,8,8,8,8,8,8,8,8,8,8,8,8,8,8,8,8,8,8,8,8,8,8,8,8,8,8,8,8,8,8] }) v8 fun v9 =>
 aConvI .i64 v9 fun v10 =>
 aBin prog .add 3 (f.r 2) v10 fun v11 =>
 retL n0 K f.ds [v11] h)) := sub_eq pok66 ct66 (by kernel_rfl)
theorem at65 : prog.funcs[65]? = some f65 := by kernel_rfl
theorem body65 : f65.body = some (codeOf f65) := by kernel_rfl
def pl65 : Plans := []
def ct65 : Cuts := .go
theorem pok65 : plansOk prog pl65 (codeOf f65) = true := by kernel_rfl
theorem e65 {a0 : Value} : W prog J 6 h.length 65 (codeOf f65) (RG.mk (regs [a0]) []) h (RetQ prog [.tmp 2] h.length K) =
(aBin prog .mul 3 a0 (vint 78913) fun v1 =>
 aBin prog .shr 3 v1 (Value.int .u64 18) fun v2 =>
 retL h.length K [] [v2] h) := top_eq pok65 ct65 (by kernel_rfl)
theorem g65 (hJ : Closed prog main J) {a0 : Value} (hs : heapOk h → W prog J 6 h.length 65 (codeOf f65) (RG.mk (regs [a0]) []) h (RetQ prog [.tmp 2] h.length K)) : Good prog J 65 [a0] h K :=
 good_of_W hJ mixed at65 body65 (by kernel_rfl) (Nat.le_of_ble_eq_true rfl) hs
theorem at67 : prog.funcs[67]? = some f67 := by kernel_rfl
theorem body67 : f67.body = some (codeOf f67) := by kernel_rfl
def pl67 : Plans := []
def ct67 : Cuts := .go
theorem pok67 : plansOk prog pl67 (codeOf f67) = true := by kernel_rfl
theorem e67 {a0 : Value} : W prog J 4 h.length 67 (codeOf f67) (RG.mk (regs [a0]) []) h (RetQ prog [.tmp 2] h.length K) =
(cnd a0
(retL h.length K [] [(vint 1)] h)
(retL h.length K [] [(vint 0)] h)) := top_eq pok67 ct67 (by kernel_rfl)
theorem g67 (hJ : Closed prog main J) {a0 : Value} (hs : heapOk h → W prog J 4 h.length 67 (codeOf f67) (RG.mk (regs [a0]) []) h (RetQ prog [.tmp 2] h.length K)) : Good prog J 67 [a0] h K :=
 good_of_W hJ mixed at67 body67 (by kernel_rfl) (Nat.le_of_ble_eq_true rfl) hs
theorem at62 : prog.funcs[62]? = some f62 := by kernel_rfl
theorem body62 : f62.body = some (codeOf f62) := by kernel_rfl
def pl62 : Plans := []
def ct62 : Cuts := .go
theorem pok62 : plansOk prog pl62 (codeOf f62) = true := by kernel_rfl
theorem e62 {a0 : Value} : W prog J 15 h.length 62 (codeOf f62) (RG.mk (regs [a0]) []) h (RetQ prog [.tmp 2] h.length K) =
(Good prog J 66 [a0] h fun v1 h2 =>
 Good prog J 65 [v1] h2 fun v3 h4 =>
 aIdxA 20 1 (gv h4 1) v3 fun v5 =>
 aLoad false 1 v5 h4 fun v6 =>
 aBin prog .geq 116 a0 v6 fun v7 =>
 Good prog J 67 [v7] h4 fun v8 h9 =>
 aBin prog .add 3 v3 v8 fun v10 =>
 retL h.length K [] [v10] h9) := top_eq pok62 ct62 (by kernel_rfl)
theorem g62 (hJ : Closed prog main J) {a0 : Value} (hs : heapOk h → W prog J 15 h.length 62 (codeOf f62) (RG.mk (regs [a0]) []) h (RetQ prog [.tmp 2] h.length K)) : Good prog J 62 [a0] h K :=
 good_of_W hJ mixed at62 body62 (by kernel_rfl) (Nat.le_of_ble_eq_true rfl) hs
theorem at63 : prog.funcs[63]? = some f63 := by kernel_rfl
theorem body63 : f63.body = some (codeOf f63) := by kernel_rfl
def pl63 : Plans := [(7,true,.take 0 (.take 1 (.take 2 (.take 3 (.take 4 (.take 5 (.take 6 (.take 7 (.take 8 (.take 9 (.take 10 (.take 11 (.last 12 false (.take 13 (.last 14 false (.fin)))))))))))))))),
 (8,true,.take 0 (.take 1 (.take 2 (.take 3 (.take 4 (.take 5 (.take 6 (.take 7 (.take 8 (.take 9 (.take 10 (.take 11 (.last 12 false (.take 13 (.last 14 false (.fin)))))))))))))))),
 (9,true,.take 0 (.take 1 (.take 2 (.take 3 (.take 4 (.take 5 (.take 6 (.take 7 (.take 8 (.take 9 (.take 10 (.take 11 (.last 12 false (.take 13 (.last 14 false (.fin)))))))))))))))),
 (10,true,.take 0 (.take 1 (.take 2 (.take 3 (.take 4 (.take 5 (.take 6 (.take 7 (.take 8 (.take 9 (.take 10 (.take 11 (.last 12 false (.take 13 (.last 14 false (.fin)))))))))))))))),
 (17,true,.take 0 (.take 1 (.take 2 (.take 3 (.take 4 (.take 5 (.take 6 (.take 7 (.take 8 (.take 9 (.take 10 (.take 11 (.last 12 false (.take 13 (.last 14 false (.fin)))))))))))))))),
 (18,true,.take 0 (.take 1 (.take 2 (.take 3 (.take 4 (.take 5 (.take 6 (.take 7 (.take 8 (.take 9 (.take 10 (.take 11 (.last 12 false (.take 13 (.last 14 false (.fin)))))))))))))))),
 (23,true,.take 0 (.take 1 (.take 2 (.take 3 (.take 4 (.take 5 (.take 6 (.take 7 (.take 8 (.take 9 (.take 10 (.take 11 (.last 12 false (.take 13 (.last 14 false (.fin))))))))))))))))]
def ct63 : Cuts := .bin (.go) (.bin (.un (.un (.bin (.go) (.cut (.go))))) (.bin (.go) (.bin (.bin (.go) (.bin (.bin (.go) (.cut (.go))) (.go))) (.cut (.bin (.go) (.cut (.go)))))))
theorem pok63 : plansOk prog pl63 (codeOf f63) = true := by kernel_rfl
theorem e63 {a0 a1 : Value} : W prog J 167 h.length 63 (codeOf f63) (RG.mk (regs [a0,a1]) []) h (RetQ prog [] h.length K) =
(aLenS a0 fun v1 =>
 Sem J 167 h.length 63 (subC [1,0,0] (codeOf f63)) (RG.p (RG.p (RG.p (RG.mk (regs [a0,a1]) []) 17 a0) 18 v1) 4 v1) h (contX pl63 prog J 167 h.length 63 ct63 [1,0,0] (codeOf f63) [] (RetQ prog [] h.length K))) := top_eq pok63 ct63 (by kernel_rfl)
theorem g63 (hJ : Closed prog main J) {a0 a1 : Value} (hs : heapOk h → W prog J 167 h.length 63 (codeOf f63) (RG.mk (regs [a0,a1]) []) h (RetQ prog [] h.length K)) : Good prog J 63 [a0,a1] h K :=
 good_of_W hJ mixed at63 body63 (by kernel_rfl) (Nat.le_of_ble_eq_true rfl) hs
theorem s63_1 {f : RG} {nx0 : RG → List AObj → Prop} : W prog J 167 n0 63 (subC [1,0,0,0] (codeOf f63)) f h (thenK nx0 (contX pl63 prog J 167 n0 63 ct63 [1,0,0] (codeOf f63) [] (RetQ prog [] n0 K))) =
(aBin prog .geq 3 (f.r 4) (vint 8) fun v1 =>
 cnd v1
(Hold (W prog J 167 n0 63 (subC [1,0,0,0,1] (codeOf f63)) (RG.p (RG.p f 19 (f.r 4)) 20 v1) h (contX pl63 prog J 167 n0 63 ct63 [1,0,0,0,1] (codeOf f63) [nx0] (RetQ prog [] n0 K))))
(aConvI .u32 (f.r 1) fun v2 =>
 aBin prog .geq 3 (f.r 4) (vint 4) fun v3 =>
 cnd v3
(aBin prog .rem 123 v2 (Value.int .u32 10000) fun v4 =>
 Hold (W prog J 167 n0 63 (subC [1,1,1,0,1,0,1] (codeOf f63)) (RG.p (RG.p (RG.p (RG.p (RG.p (RG.p (RG.p (RG.p (RG.p (RG.p f 19 (f.r 4)) 20 v1) 96 (f.r 1)) 97 v2) 12 v2) 98 (f.r 4)) 99 v3) 100 v2) 101 v4) 13 v4) h (contX pl63 prog J 167 n0 63 ct63 [1,1,1,0,1,0,1] (codeOf f63) [] (RetQ prog [] n0 K))))
(Hold (W prog J 167 n0 63 (subC [1,1,1,1] (codeOf f63)) (RG.p (RG.p (RG.p (RG.p (RG.p (RG.p (RG.p f 19 (f.r 4)) 20 v1) 96 (f.r 1)) 97 v2) 12 v2) 98 (f.r 4)) 99 v3) h (contX pl63 prog J 167 n0 63 ct63 [1,1,1,1] (codeOf f63) [] (RetQ prog [] n0 K)))))) := sub_eq pok63 ct63 (by kernel_rfl)
theorem l63_1 (hJ : Closed prog main J) {S : Type} (μ : S → Nat) (I : S → RG → List AObj → Prop) (hI : ∀ s f h,I s f h → heapOk h → n0 ≤ h.length → W prog J 167 n0 63 (subC [1,0,0,0] (codeOf f63)) f h (thenK (Nx n0 μ I s) (contX pl63 prog J 167 n0 63 ct63 [1,0,0] (codeOf f63) [] (RetQ prog [] n0 K))))
 {s : S} {f : RG} (hi : Gets n0 I s f h) : Sem J 167 n0 63 (subC [1,0,0] (codeOf f63)) f h (contX pl63 prog J 167 n0 63 ct63 [1,0,0] (codeOf f63) [] (RetQ prog [] n0 K)) :=
 loop_rule hJ mixed (b := subC [1,0,0,0] (codeOf f63)) (by kernel_rfl) μ I hI hi
theorem s63_4 {f : RG} : W prog J 167 n0 63 (subC [1,1,1,1] (codeOf f63)) f h (contX pl63 prog J 167 n0 63 ct63 [1,1,1,1] (codeOf f63) [] (RetQ prog [] n0 K)) =
(aBin prog .geq 3 (f.r 4) (vint 2) fun v1 =>
 cnd v1
(aBin prog .rem 123 (f.r 12) (Value.int .u32 100) fun v2 =>
 aBin prog .mul 123 v2 (Value.int .u32 2) fun v3 =>
 aBin prog .quo 123 (f.r 12) (Value.int .u32 100) fun v4 =>
 aBin prog .sub 3 (f.r 4) (vint 1) fun v5 =>
 aBin prog .sub 3 (f.r 4) (vint 2) fun v6 =>
 aBin prog .add 123 v3 (Value.int .u32 1) fun v7 =>
 aIdxStr (Value.string { data := #[48,48,48,49,48,50,48,51,48,52,48,53,48,54,48,55,48,56,48,57,49,48,49,49,49,50,49,51,49,52,49,53,49,54,49,55,49,56,49,57,50,48,50,49,50,50,50,51,50,52,50,53,50,54,50,55,50,56,50,57,51,48,51,49,51,50,51,51,51,52,51,53,51,54,51,55,51,56,51,57,52,48,52,49,52,50,52,51,52,52,52,53,52,54,52,55,52,56,52,57,53,48,53,49,53,50,53,51,53,52,53,53,53,54,53,55,53,56,53,57,54,48,54,49,54,50,54,51,54,52,54,53,54,54,54,55,54,56,54,57,55,48,55,49,55,50,55,51,55,52,55,53,55,54,55,55,55,56,55,57,56,48,56,49,56,50,56,51,56,52,56,53,56,54,56,55,56,56,56,57,57,48,57,49,57,50,57,51,57,52,57,53,57,54,57,55,57,56,57,57] }) v7 fun v8 =>
 aIdxStr (Value.string { data := #[48,48,48,49,48,50,48,51,48,52,48,53,48,54,48,55,48,56,48,57,49,48,49,49,49,50,49,51,49,52,49,53,49,54,49,55,49,56,49,57,50,48,50,49,50,50,50,51,50,52,50,53,50,54,50,55,50,56,50,57,51,48,51,49,51,50,51,51,51,52,51,53,51,54,51,55,51,56,51,57,52,48,52,49,52,50,52,51,52,52,52,53,52,54,52,55,52,56,52,57,53,48,53,49,53,50,53,51,53,52,53,53,53,54,53,55,53,56,53,57,54,48,54,49,54,50,54,51,54,52,54,53,54,54,54,55,54,56,54,57,55,48,55,49,55,50,55,51,55,52,55,53,55,54,55,55,55,56,55,57,56,48,56,49,56,50,56,51,56,52,56,53,56,54,56,55,56,56,56,57,57,48,57,49,57,50,57,51,57,52,57,53,57,54,57,55,57,56,57,57] }) v3 fun v9 =>
 aIdx 1 (f.r 0) v5 fun v10 =>
 aStore 1 v10 v8 h fun h11 =>
 aIdx 1 (f.r 0) v6 fun v12 =>
 aStore 1 v12 v9 h11 fun h13 =>
 aBin prog .sub 3 (f.r 4) (vint 2) fun v14 =>
 Hold (W prog J 167 n0 63 (subC yp5 (codeOf f63)) (RG.p (RG.p (RG.p (RG.p (RG.p (RG.p (RG.p (RG.p (RG.p (RG.p (RG.p (RG.p (RG.p (RG.p (RG.p (RG.p (RG.p (RG.p (RG.p (RG.p (RG.p (RG.p (RG.p (RG.p (RG.p f 138 (f.r 4)) 139 v1) 140 (f.r 12)) 141 v2) 142 v3) 16 v3) 143 (f.r 12)) 144 v4) 12 v4) 145 (f.r 0)) 146 (f.r 4)) 147 v5) 148 (f.r 0)) 149 (f.r 4)) 150 v6) 151 v3) 152 v7) 153 v8) 154 v3) 155 v9) 156 v10) 157 v12) 158 (f.r 4)) 159 v14) 4 v14) h13 (contX pl63 prog J 167 n0 63 ct63 yp5 (codeOf f63) [] (RetQ prog [] n0 K))))
(Hold (W prog J 167 n0 63 (subC yp5 (codeOf f63)) (RG.p (RG.p f 138 (f.r 4)) 139 v1) h (contX pl63 prog J 167 n0 63 ct63 yp5 (codeOf f63) [] (RetQ prog [] n0 K))))) := sub_eq pok63 ct63 (by kernel_rfl)
theorem s63_5 {f : RG} : W prog J 167 n0 63 (subC yp5 (codeOf f63)) f h (contX pl63 prog J 167 n0 63 ct63 yp5 (codeOf f63) [] (RetQ prog [] n0 K)) =
(aBin prog .gtr 3 (f.r 4) (vint 0) fun v1 =>
 cnd v1
(aBin prog .add 123 (Value.int .u32 48) (f.r 12) fun v2 =>
 aConvI .u8 v2 fun v3 =>
 aIdx 1 (f.r 0) (vint 0) fun v4 =>
 aStore 1 v4 v3 h fun h5 =>
 retL n0 K f.ds [] h5)
(retL n0 K f.ds [] h)) := sub_eq pok63 ct63 (by kernel_rfl)
end
section
variable {main : Bool} {J : JT} {n0 : Nat} {h : List AObj} {K : Value → List AObj → Prop}
theorem at50 : prog.funcs[50]? = some f50 := by kernel_rfl
theorem body50 : f50.body = some (codeOf f50) := by kernel_rfl
def pl50 : Plans := []
def ct50 : Cuts := .go
theorem pok50 : plansOk prog pl50 (codeOf f50) = true := by kernel_rfl
theorem e50 {a0 : Value} : W prog J 5 h.length 50 (codeOf f50) (RG.mk (regs [a0]) []) h (RetQ prog [.tmp 2] h.length K) =
(Good prog J 55 [a0] h fun v1 h2 =>
 retL h.length K [] [v1] h2) := top_eq pok50 ct50 (by kernel_rfl)
theorem g50 (hJ : Closed prog main J) {a0 : Value} (hs : heapOk h → W prog J 5 h.length 50 (codeOf f50) (RG.mk (regs [a0]) []) h (RetQ prog [.tmp 2] h.length K)) : Good prog J 50 [a0] h K :=
 good_of_W hJ mixed at50 body50 (by kernel_rfl) (Nat.le_of_ble_eq_true rfl) hs
theorem at55 : prog.funcs[55]? = some f55 := by kernel_rfl
theorem body55 : f55.body = some (codeOf f55) := by kernel_rfl
def pl55 : Plans := []
def ct55 : Cuts := .go
theorem pok55 : plansOk prog pl55 (codeOf f55) = true := by kernel_rfl
theorem e55 {a0 : Value} : W prog J 5 h.length 55 (codeOf f55) (RG.mk (regs [a0]) []) h (RetQ prog [.tmp 2] h.length K) =
(Good prog J 58 [a0,(vint 10)] h fun v1 h2 =>
 retL h.length K [] [v1] h2) := top_eq pok55 ct55 (by kernel_rfl)
theorem g55 (hJ : Closed prog main J) {a0 : Value} (hs : heapOk h → W prog J 5 h.length 55 (codeOf f55) (RG.mk (regs [a0]) []) h (RetQ prog [.tmp 2] h.length K)) : Good prog J 55 [a0] h K :=
 good_of_W hJ mixed at55 body55 (by kernel_rfl) (Nat.le_of_ble_eq_true rfl) hs
theorem at58 : prog.funcs[58]? = some f58 := by kernel_rfl
theorem body58 : f58.body = some (codeOf f58) := by kernel_rfl
def pl58 : Plans := []
def ct58 : Cuts := .bin (.go) (.bin (.bin (.go) (.bin (.bin (.bin (.go) (.cut (.go))) (.bin (.go) (.bin (.go) (.bin (.go) (.cut (.go)))))) (.go))) (.go))
theorem pok58 : plansOk prog pl58 (codeOf f58) = true := by kernel_rfl
theorem e58 {a0 a1 : Value} : W prog J 54 h.length 58 (codeOf f58) (RG.mk (regs [a0,a1]) []) h (RetQ prog [.tmp 4] h.length K) =
(aBin prog .eql 3 a1 (vint 10) fun v1 =>
 cnd v1
(aBin prog .leq 2 (vint 0) a0 fun v2 =>
 cnd v2
(aBin prog .lss 2 a0 (vint 100) fun v3 =>
 Hold (W prog J 54 h.length 58 (subC [1,0,1,0,0,1] (codeOf f58)) (RG.p (RG.p (RG.p (RG.p (RG.p (RG.p (RG.p (RG.p (RG.p (RG.p (RG.mk (regs [a0,a1]) []) 4 (Value.string { data := #[] })) 10 a1) 11 v1) 12 a0) 13 v2) 14 v2) 14 (Value.bool true)) 15 a0) 16 v3) 17 v3) h (contX pl58 prog J 54 h.length 58 ct58 [1,0,1,0,0,1] (codeOf f58) [] (RetQ prog [.tmp 4] h.length K))))
(Hold (W prog J 54 h.length 58 (subC [1,0,1,0,0,1] (codeOf f58)) (RG.p (RG.p (RG.p (RG.p (RG.p (RG.p (RG.p (RG.p (RG.p (RG.p (RG.mk (regs [a0,a1]) []) 4 (Value.string { data := #[] })) 10 a1) 11 v1) 12 a0) 13 v2) 14 v2) 14 (Value.bool false)) 15 undef) 16 undef) 17 (Value.bool false)) h (contX pl58 prog J 54 h.length 58 ct58 [1,0,1,0,0,1] (codeOf f58) [] (RetQ prog [.tmp 4] h.length K)))))
(aConvI .u64 a0 fun v4 =>
 aBin prog .lss 2 a0 (vint 0) fun v5 =>
 Good prog J 64 [(Value.slice none 0 0),v4,a1,v5,(Value.bool false)] h fun v6 h7 =>
 aExt v6 0 fun v8 =>
 aExt v6 1 fun v9 =>
 retL h.length K [] [v9] h7)) := top_eq pok58 ct58 (by kernel_rfl)
theorem g58 (hJ : Closed prog main J) {a0 a1 : Value} (hs : heapOk h → W prog J 54 h.length 58 (codeOf f58) (RG.mk (regs [a0,a1]) []) h (RetQ prog [.tmp 4] h.length K)) : Good prog J 58 [a0,a1] h K :=
 good_of_W hJ mixed at58 body58 (by kernel_rfl) (Nat.le_of_ble_eq_true rfl) hs
theorem s58_1 {f : RG} : W prog J 54 n0 58 (subC [1,0,1,0,0,1] (codeOf f58)) f h (contX pl58 prog J 54 n0 58 ct58 [1,0,1,0,0,1] (codeOf f58) [] (RetQ prog [.tmp 4] n0 K)) =
(cnd (f.r 17)
(Good prog J 61 [(f.r 0)] h fun v1 h2 =>
 retL n0 K f.ds [v1] h2)
(aAlloc [(Value.int .u8 0),(Value.int .u8 0),(Value.int .u8 0),(Value.int .u8 0),(Value.int .u8 0),(Value.int .u8 0),(Value.int .u8 0),(Value.int .u8 0),(Value.int .u8 0),(Value.int .u8 0),(Value.int .u8 0),(Value.int .u8 0),(Value.int .u8 0),(Value.int .u8 0),(Value.int .u8 0),(Value.int .u8 0),(Value.int .u8 0),(Value.int .u8 0),(Value.int .u8 0),(Value.int .u8 0),(Value.int .u8 0),(Value.int .u8 0),(Value.int .u8 0),(Value.int .u8 0)] h fun v3 h4 =>
 aConvI .u64 (f.r 0) fun v5 =>
 aBin prog .lss 2 (f.r 0) (vint 0) fun v6 =>
 cnd v6
(aUn .neg v5 fun v7 =>
 Hold (W prog J 54 n0 58 (subC yp17 (codeOf f58)) (RG.p (RG.p (RG.p (RG.p (RG.p (RG.p (RG.p (RG.p (RG.p f 5 v3) 20 (f.r 0)) 21 v5) 6 v5) 22 (f.r 0)) 23 v6) 24 v5) 25 v7) 6 v7) h4 (contX pl58 prog J 54 n0 58 ct58 yp17 (codeOf f58) [] (RetQ prog [.tmp 4] n0 K))))
(Hold (W prog J 54 n0 58 (subC yp17 (codeOf f58)) (RG.p (RG.p (RG.p (RG.p (RG.p (RG.p f 5 v3) 20 (f.r 0)) 21 v5) 6 v5) 22 (f.r 0)) 23 v6) h4 (contX pl58 prog J 54 n0 58 ct58 yp17 (codeOf f58) [] (RetQ prog [.tmp 4] n0 K)))))) := sub_eq pok58 ct58 (by kernel_rfl)
theorem s58_2 {f : RG} : W prog J 54 n0 58 (subC yp17 (codeOf f58)) f h (contX pl58 prog J 54 n0 58 ct58 yp17 (codeOf f58) [] (RetQ prog [.tmp 4] n0 K)) =
(Good prog J 62 [(f.r 6)] h fun v1 h2 =>
 aBin prog .add 3 (vint 1) v1 fun v3 =>
 aSlA 24 1 (f.r 5) (some (vint 1)) (some v3) fun v4 =>
 Good prog J 63 [v4,(f.r 6)] h2 fun v5 h6 =>
 aBin prog .lss 2 (f.r 0) (vint 0) fun v7 =>
 cnd v7
(aIdxA 24 1 (f.r 5) (vint 0) fun v8 =>
 aStore 1 v8 (Value.int .u8 45) h6 fun h9 =>
 aBin prog .add 3 (vint 1) v1 fun v10 =>
 aSlA 24 1 (f.r 5) none (some v10) fun v11 =>
 aB2S v11 h9 fun v12 =>
 retL n0 K f.ds [v12] h9)
(aBin prog .add 3 (vint 1) v1 fun v13 =>
 aSlA 24 1 (f.r 5) (some (vint 1)) (some v13) fun v14 =>
 aB2S v14 h6 fun v15 =>
 retL n0 K f.ds [v15] h6)) := sub_eq pok58 ct58 (by kernel_rfl)
theorem at61 : prog.funcs[61]? = some f61 := by kernel_rfl
theorem body61 : f61.body = some (codeOf f61) := by kernel_rfl
def pl61 : Plans := []
def ct61 : Cuts := .go
theorem pok61 : plansOk prog pl61 (codeOf f61) = true := by kernel_rfl
theorem e61 {a0 : Value} : W prog J 15 h.length 61 (codeOf f61) (RG.mk (regs [a0]) []) h (RetQ prog [.tmp 2] h.length K) =
(aBin prog .lss 3 a0 (vint 10) fun v1 =>
 cnd v1
(aBin prog .add 3 a0 (vint 1) fun v2 =>
 aSlStr (Value.string { data := #[48,49,50,51,52,53,54,55,56,57,97,98,99,100,101,102,103,104,105,106,107,108,109,110,111,112,113,114,115,116,117,118,119,120,121,122] }) (some a0) (some v2) fun v3 =>
 retL h.length K [] [v3] h)
(aBin prog .mul 3 a0 (vint 2) fun v4 =>
 aBin prog .mul 3 a0 (vint 2) fun v5 =>
 aBin prog .add 3 v5 (vint 2) fun v6 =>
 aSlStr (Value.string { data := #[48,48,48,49,48,50,48,51,48,52,48,53,48,54,48,55,48,56,48,57,49,48,49,49,49,50,49,51,49,52,49,53,49,54,49,55,49,56,49,57,50,48,50,49,50,50,50,51,50,52,50,53,50,54,50,55,50,56,50,57,51,48,51,49,51,50,51,51,51,52,51,53,51,54,51,55,51,56,51,57,52,48,52,49,52,50,52,51,52,52,52,53,52,54,52,55,52,56,52,57,53,48,53,49,53,50,53,51,53,52,53,53,53,54,53,55,53,56,53,57,54,48,54,49,54,50,54,51,54,52,54,53,54,54,54,55,54,56,54,57,55,48,55,49,55,50,55,51,55,52,55,53,55,54,55,55,55,56,55,57,56,48,56,49,56,50,56,51,56,52,56,53,56,54,56,55,56,56,56,57,57,48,57,49,57,50,57,51,57,52,57,53,57,54,57,55,57,56,57,57] }) (some v4) (some v6) fun v7 =>
 retL h.length K [] [v7] h)) := top_eq pok61 ct61 (by kernel_rfl)
theorem g61 (hJ : Closed prog main J) {a0 : Value} (hs : heapOk h → W prog J 15 h.length 61 (codeOf f61) (RG.mk (regs [a0]) []) h (RetQ prog [.tmp 2] h.length K)) : Good prog J 61 [a0] h K :=
 good_of_W hJ mixed at61 body61 (by kernel_rfl) (Nat.le_of_ble_eq_true rfl) hs
end
section
variable {main : Bool} {J : JT} {n0 : Nat} {h : List AObj} {K : Value → List AObj → Prop}
theorem at56 : prog.funcs[56]? = some f56 := by kernel_rfl
theorem body56 : f56.body = some (codeOf f56) := by kernel_rfl
def pl56 : Plans := []
def ct56 : Cuts := .go
theorem pok56 : plansOk prog pl56 (codeOf f56) = true := by kernel_rfl
theorem e56 {a0 : Value} : W prog J 20 h.length 56 (codeOf f56) (RG.mk (regs [a0]) []) h (RetQ prog [] h.length K) =
(aNil a0 fun v1 =>
 aOff v1 0 fun v2 =>
 aLoad false 1 v2 h fun v3 =>
 aBin prog .eql 100 v3 (Value.pointer none) fun v4 =>
 cnd v4
(aP2U prog 103 a0 h fun v5 =>
 Good prog J 59 [v5] h fun v6 h7 =>
 aU2P prog 103 v6 h7 fun v8 =>
 aNil a0 fun v9 =>
 aOff v9 0 fun v10 =>
 aStore 1 v10 v8 h7 fun h11 =>
 retL h.length K [] [] h11)
(aNil a0 fun v12 =>
 aOff v12 0 fun v13 =>
 aLoad false 1 v13 h fun v14 =>
 aBin prog .neq 100 v14 a0 fun v15 =>
 cnd v15
(Sem J 20 h.length 56 (subC [1,1,1,0] (codeOf f56)) (RG.p (RG.p (RG.p (RG.p (RG.p (RG.p (RG.p (RG.p (RG.p (RG.p (RG.p (RG.mk (regs [a0]) []) 2 a0) 3 v1) 4 v2) 5 v3) 6 v4) 14 a0) 15 v12) 16 v13) 17 v14) 18 a0) 19 v15) h (contX pl56 prog J 20 h.length 56 ct56 [1,1,1,0] (codeOf f56) [] (RetQ prog [] h.length K)))
(retL h.length K [] [] h))) := top_eq pok56 ct56 (by kernel_rfl)
theorem g56 (hJ : Closed prog main J) {a0 : Value} (hs : heapOk h → W prog J 20 h.length 56 (codeOf f56) (RG.mk (regs [a0]) []) h (RetQ prog [] h.length K)) : Good prog J 56 [a0] h K :=
 good_of_W hJ mixed at56 body56 (by kernel_rfl) (Nat.le_of_ble_eq_true rfl) hs
theorem at57 : prog.funcs[57]? = some f57 := by kernel_rfl
theorem body57 : f57.body = some (codeOf f57) := by kernel_rfl
def pl57 : Plans := [(0,false,.take 0 (.take 1 (.take 2 (.take 3 (.take 4 (.take 5 (.take 6 (.take 7 (.take 9 (.take 10 (.take 11 (.take 12 (.take 13 (.last 8 true (.last 14 true (.take 15 (.fin)))))))))))))))))]
def ct57 : Cuts := .go
theorem pok57 : plansOk prog pl57 (codeOf f57) = true := by kernel_rfl
theorem e57 {a0 a1 : Value} : W prog J 30 h.length 57 (codeOf f57) (RG.mk (regs [a0,a1]) []) h (RetQ prog [] h.length K) =
((∃ B,aNil a0 fun v1 =>
 aOff v1 1 fun v2 =>
 aLoad false 1 v2 h fun v3 =>
 RdOk (some B) (ptrBlk v2) ∧ (aCapS v3 fun v4 =>
 aBin prog .mul 3 (vint 2) v4 fun v5 =>
 aBin prog .add 3 v5 a1 fun v6 =>
 aNil a0 fun v7 =>
 aOff v7 1 fun v8 =>
 aLoad false 1 v8 h fun v9 =>
 RdOk (some B) (ptrBlk v8) ∧ (aLenS v9 fun v10 =>
 RdOk (some B) (mapBlk v9) ∧ (Good prog J 60 [v6] h fun v11 h12 =>
 SameB (some B) h h12 ∧ (aSl2 1 v11 none (some v10) h12 fun v13 =>
 SameB (some B) h h12 ∧ (aNil a0 fun v14 =>
 aOff v14 1 fun v15 =>
 aLoad false 1 v15 h12 fun v16 =>
(0 < (1 : Nat) ∧ aCopy 1 v13 v16 h12 fun v17 h18 =>
 aNil a0 fun v19 =>
 aOff v19 1 fun v20 =>
 aStore 1 v20 v13 h18 fun h21 =>
 retL h.length K [] [] h21)))))))) := top_eq pok57 ct57 (by kernel_rfl)
theorem g57 (hJ : Closed prog main J) {a0 a1 : Value} (hs : heapOk h → W prog J 30 h.length 57 (codeOf f57) (RG.mk (regs [a0,a1]) []) h (RetQ prog [] h.length K)) : Good prog J 57 [a0,a1] h K :=
 good_of_W hJ mixed at57 body57 (by kernel_rfl) (Nat.le_of_ble_eq_true rfl) hs
theorem at52 : prog.funcs[52]? = some f52 := by kernel_rfl
theorem body52 : f52.body = some (codeOf f52) := by kernel_rfl
def pl52 : Plans := [(3,true,.take 0 (.take 1 (.take 2 (.take 3 (.take 4 (.take 5 (.take 6 (.take 7 (.take 8 (.take 9 (.take 10 (.take 11 (.take 12 (.fin))))))))))))))]
def ct52 : Cuts := .go
theorem pok52 : plansOk prog pl52 (codeOf f52) = true := by kernel_rfl
theorem e52 {a0 a1 : Value} : W prog J 25 h.length 52 (codeOf f52) (RG.mk (regs [a0,a1]) []) h (RetQ prog [] h.length K) =
(Good prog J 56 [a0] h fun v1 h2 =>
 aBin prog .lss 3 a1 (vint 0) fun v3 =>
 cnd v3
(False)
(aNil a0 fun v4 =>
 aOff v4 1 fun v5 =>
 aLoad false 1 v5 h2 fun v6 =>
 aCapS v6 fun v7 =>
 aNil a0 fun v8 =>
 aOff v8 1 fun v9 =>
 aLoad false 1 v9 h2 fun v10 =>
 aLenS v10 fun v11 =>
 aBin prog .sub 3 v7 v11 fun v12 =>
 aBin prog .lss 3 v12 a1 fun v13 =>
 cnd v13
(Good prog J 57 [a0,a1] h2 fun v14 h15 =>
 retL h.length K [] [] h15)
(retL h.length K [] [] h2))) := top_eq pok52 ct52 (by kernel_rfl)
theorem g52 (hJ : Closed prog main J) {a0 a1 : Value} (hs : heapOk h → W prog J 25 h.length 52 (codeOf f52) (RG.mk (regs [a0,a1]) []) h (RetQ prog [] h.length K)) : Good prog J 52 [a0,a1] h K :=
 good_of_W hJ mixed at52 body52 (by kernel_rfl) (Nat.le_of_ble_eq_true rfl) hs
theorem at53 : prog.funcs[53]? = some f53 := by kernel_rfl
theorem body53 : f53.body = some (codeOf f53) := by kernel_rfl
def pl53 : Plans := []
def ct53 : Cuts := .go
theorem pok53 : plansOk prog pl53 (codeOf f53) = true := by kernel_rfl
theorem e53 {a0 a1 : Value} : W prog J 19 h.length 53 (codeOf f53) (RG.mk (regs [a0,a1]) []) h (RetQ prog [.tmp 4,.tmp 5] h.length K) =
(Good prog J 56 [a0] h fun v1 h2 =>
 aNil a0 fun v3 =>
 aOff v3 1 fun v4 =>
 aLoad false 1 v4 h2 fun v5 =>
((List.length [(Value.int .u8 0)] = 1 ∧ (1 : Nat) = 1 ∧ 0 < (1 : Nat) ∧ (1 : Nat) ≤ 1024) ∧ aAppS 5 v5 a1 h2 fun v6 h7 =>
 aNil a0 fun v8 =>
 aOff v8 1 fun v9 =>
 aStore 1 v9 v6 h7 fun h10 =>
 aLenStr a1 fun v11 =>
 retL h.length K [] [v11,(Value.nilIface)] h10)) := top_eq pok53 ct53 (by kernel_rfl)
theorem g53 (hJ : Closed prog main J) {a0 a1 : Value} (hs : heapOk h → W prog J 19 h.length 53 (codeOf f53) (RG.mk (regs [a0,a1]) []) h (RetQ prog [.tmp 4,.tmp 5] h.length K)) : Good prog J 53 [a0,a1] h K :=
 good_of_W hJ mixed at53 body53 (by kernel_rfl) (Nat.le_of_ble_eq_true rfl) hs
theorem at54 : prog.funcs[54]? = some f54 := by kernel_rfl
theorem body54 : f54.body = some (codeOf f54) := by kernel_rfl
def pl54 : Plans := [(1,false,.take 0 (.take 1 (.take 2 (.take 3 (.take 5 (.take 6 (.take 7 (.take 8 (.take 9 (.last 4 true (.last 10 true (.take 11 (.fin)))))))))))))]
def ct54 : Cuts := .go
theorem pok54 : plansOk prog pl54 (codeOf f54) = true := by kernel_rfl
theorem e54 {a0 : Value} : W prog J 14 h.length 54 (codeOf f54) (RG.mk (regs [a0]) []) h (RetQ prog [.tmp 2] h.length K) =
((∃ B,aNil a0 fun v1 =>
 aOff v1 1 fun v2 =>
 aLoad false 1 v2 h fun v3 =>
 RdOk (some B) (ptrBlk v2) ∧ (aNil a0 fun v4 =>
 aOff v4 1 fun v5 =>
 aLoad false 1 v5 h fun v6 =>
 RdOk (some B) (ptrBlk v5) ∧ (aLenS v6 fun v7 =>
 RdOk (some B) (mapBlk v6) ∧ (aSlD v3 h fun v8 =>
 SameB (some B) h h ∧ (aUStr prog 5 v8 v7 h fun v9 h10 =>
 SameB (some B) h h10 ∧ (retL h.length K [] [v9] h10))))))) := top_eq pok54 ct54 (by kernel_rfl)
theorem g54 (hJ : Closed prog main J) {a0 : Value} (hs : heapOk h → W prog J 14 h.length 54 (codeOf f54) (RG.mk (regs [a0]) []) h (RetQ prog [.tmp 2] h.length K)) : Good prog J 54 [a0] h K :=
 good_of_W hJ mixed at54 body54 (by kernel_rfl) (Nat.le_of_ble_eq_true rfl) hs
theorem at49 : prog.funcs[49]? = some f49 := by kernel_rfl
theorem body49 : f49.body = some (codeOf f49) := by kernel_rfl
def pl49 : Plans := []
def ct49 : Cuts := .bin (.go) (.bin (.go) (.bin (.go) (.bin (.go) (.cut (.go)))))
theorem pok49 : plansOk prog pl49 (codeOf f49) = true := by kernel_rfl
theorem e49 {a0 a1 : Value} : W prog J 75 h.length 49 (codeOf f49) (RG.mk (regs [a0,a1]) []) h (RetQ prog [.tmp 4] h.length K) =
(aLenS a0 fun v1 =>
 aBin prog .eql 3 v1 (vint 0) fun v2 =>
 cnd v2
(retL h.length K [] [(Value.string { data := #[] })] h)
(aBin prog .eql 3 v1 (vint 1) fun v3 =>
 cnd v3
(aIdx 1 a0 (vint 0) fun v4 =>
 aLoad false 1 v4 h fun v5 =>
 retL h.length K [] [v5] h)
(aLenStr a1 fun v6 =>
 aBin prog .gtr 3 v6 (vint 0) fun v7 =>
 cnd v7
(aLenStr a1 fun v8 =>
 aLenS a0 fun v9 =>
 aBin prog .sub 3 v9 (vint 1) fun v10 =>
 aBin prog .quo 3 (vint 9223372036854775807) v10 fun v11 =>
 aBin prog .geq 3 v8 v11 fun v12 =>
 cnd v12
(False)
(aLenStr a1 fun v13 =>
 aLenS a0 fun v14 =>
 aBin prog .sub 3 v14 (vint 1) fun v15 =>
 aBin prog .mul 3 v13 v15 fun v16 =>
 aBin prog .add 3 (vint 0) v16 fun v17 =>
 Hold (W prog J 75 h.length 49 (subC [1,1,1,1] (codeOf f49)) (RG.p (RG.p (RG.p (RG.p (RG.p (RG.p (RG.p (RG.p (RG.p (RG.p (RG.p (RG.p (RG.p (RG.p (RG.p (RG.p (RG.p (RG.p (RG.p (RG.p (RG.p (RG.p (RG.p (RG.p (RG.p (RG.p (RG.p (RG.mk (regs [a0,a1]) []) 4 (Value.string { data := #[] })) 11 a0) 12 v1) 14 v2) 13 v2) 16 v3) 15 v3) 5 (vint 0)) 20 a1) 21 v6) 22 v7) 23 a1) 24 v8) 25 a0) 26 v9) 27 v10) 28 v11) 29 v12) 31 (vint 0)) 32 a1) 33 v13) 34 a0) 35 v14) 36 v15) 37 v16) 38 v17) 5 v17) h (contX pl49 prog J 75 h.length 49 ct49 [1,1,1,1] (codeOf f49) [] (RetQ prog [.tmp 4] h.length K)))))
(Hold (W prog J 75 h.length 49 (subC [1,1,1,1] (codeOf f49)) (RG.p (RG.p (RG.p (RG.p (RG.p (RG.p (RG.p (RG.p (RG.p (RG.p (RG.p (RG.mk (regs [a0,a1]) []) 4 (Value.string { data := #[] })) 11 a0) 12 v1) 14 v2) 13 v2) 16 v3) 15 v3) 5 (vint 0)) 20 a1) 21 v6) 22 v7) h (contX pl49 prog J 75 h.length 49 ct49 [1,1,1,1] (codeOf f49) [] (RetQ prog [.tmp 4] h.length K))))))) := top_eq pok49 ct49 (by kernel_rfl)
theorem g49 (hJ : Closed prog main J) {a0 a1 : Value} (hs : heapOk h → W prog J 75 h.length 49 (codeOf f49) (RG.mk (regs [a0,a1]) []) h (RetQ prog [.tmp 4] h.length K)) : Good prog J 49 [a0,a1] h K :=
 good_of_W hJ mixed at49 body49 (by kernel_rfl) (Nat.le_of_ble_eq_true rfl) hs
theorem s49_1 {f : RG} : W prog J 75 n0 49 (subC [1,1,1,1] (codeOf f49)) f h (contX pl49 prog J 75 n0 49 ct49 [1,1,1,1] (codeOf f49) [] (RetQ prog [.tmp 4] n0 K)) =
(aLenS (f.r 0) fun v1 =>
 Sem J 75 n0 49 (subC yp3 (codeOf f49)) (RG.p (RG.p (RG.p f 39 (f.r 0)) 40 v1) 41 (vint 0)) h (contX pl49 prog J 75 n0 49 ct49 yp3 (codeOf f49) [] (RetQ prog [.tmp 4] n0 K))) := sub_eq pok49 ct49 (by kernel_rfl)
theorem s49_2 {f : RG} {nx0 : RG → List AObj → Prop} : W prog J 75 n0 49 (subC yp7 (codeOf f49)) f h (thenK nx0 (contX pl49 prog J 75 n0 49 ct49 yp3 (codeOf f49) [] (RetQ prog [.tmp 4] n0 K))) =
(aBin prog .lss 3 (f.r 41) (f.r 40) fun v1 =>
 cnd v1
(aIdx 1 (f.r 39) (f.r 41) fun v2 =>
 aLoad false 1 v2 h fun v3 =>
 aLenStr v3 fun v4 =>
 aBin prog .sub 3 (vint 9223372036854775807) (f.r 5) fun v5 =>
 aBin prog .gtr 3 v4 v5 fun v6 =>
 cnd v6
(False)
(aLenStr v3 fun v7 =>
 aBin prog .add 3 (f.r 5) v7 fun v8 =>
 aBin prog .add 3 (f.r 41) (vint 1) fun v9 =>
 nx0 (RG.p (RG.p (RG.p (RG.p (RG.p (RG.p (RG.p (RG.p (RG.p (RG.p (RG.p (RG.p (RG.p (RG.p (RG.p (RG.p f 42 v1) 43 v2) 44 v3) 7 v3) 45 v3) 46 v4) 47 (f.r 5)) 48 v5) 49 v6) 51 (f.r 5)) 52 v3) 53 v7) 54 v8) 5 v8) 55 v9) 41 v9) h))
(aAllocT 103 [(Value.pointer none),(Value.slice none 0 0)] h fun v10 h11 =>
 Good prog J 52 [v10,(f.r 5)] h11 fun v12 h13 =>
 aIdx 1 (f.r 0) (vint 0) fun v14 =>
 aLoad false 1 v14 h13 fun v15 =>
 Good prog J 53 [v10,v15] h13 fun v16 h17 =>
 aSl2 1 (f.r 0) (some (vint 1)) none h17 fun v18 =>
 aLenS v18 fun v19 =>
 Sem J 75 n0 49 (subC yp10 (codeOf f49)) (RG.p (RG.p (RG.p (RG.p (RG.p (RG.p (RG.p (RG.p (RG.p (RG.p (RG.p (RG.p f 42 v1) 8 v10) 56 (f.r 5)) 57 v12) 58 (f.r 0)) 59 v14) 60 v15) 61 v16) 62 (f.r 0)) 63 v18) 64 v19) 65 (vint 0)) h17 (contX pl49 prog J 75 n0 49 ct49 yp10 (codeOf f49) [] (RetQ prog [.tmp 4] n0 K)))) := sub_eq pok49 ct49 (by kernel_rfl)
theorem l49_2 (hJ : Closed prog main J) {S : Type} (μ : S → Nat) (I : S → RG → List AObj → Prop) (hI : ∀ s f h,I s f h → heapOk h → n0 ≤ h.length → W prog J 75 n0 49 (subC yp7 (codeOf f49)) f h (thenK (Nx n0 μ I s) (contX pl49 prog J 75 n0 49 ct49 yp3 (codeOf f49) [] (RetQ prog [.tmp 4] n0 K))))
 {s : S} {f : RG} (hi : Gets n0 I s f h) : Sem J 75 n0 49 (subC yp3 (codeOf f49)) f h (contX pl49 prog J 75 n0 49 ct49 yp3 (codeOf f49) [] (RetQ prog [.tmp 4] n0 K)) :=
 loop_rule hJ mixed (b := subC yp7 (codeOf f49)) (by kernel_rfl) μ I hI hi
theorem s49_3 {f : RG} {nx0 : RG → List AObj → Prop} : W prog J 75 n0 49 (subC yp21 (codeOf f49)) f h (thenK nx0 (contX pl49 prog J 75 n0 49 ct49 yp10 (codeOf f49) [] (RetQ prog [.tmp 4] n0 K))) =
(aBin prog .lss 3 (f.r 65) (f.r 64) fun v1 =>
 cnd v1
(aIdx 1 (f.r 63) (f.r 65) fun v2 =>
 aLoad false 1 v2 h fun v3 =>
 Good prog J 53 [(f.r 8),(f.r 1)] h fun v4 h5 =>
 Good prog J 53 [(f.r 8),v3] h5 fun v6 h7 =>
 aBin prog .add 3 (f.r 65) (vint 1) fun v8 =>
 nx0 (RG.p (RG.p (RG.p (RG.p (RG.p (RG.p (RG.p (RG.p (RG.p (RG.p f 66 v1) 67 v2) 68 v3) 10 v3) 69 (f.r 1)) 70 v4) 71 v3) 72 v6) 73 v8) 65 v8) h7)
(Good prog J 54 [(f.r 8)] h fun v9 h10 =>
 retL n0 K f.ds [v9] h10)) := sub_eq pok49 ct49 (by kernel_rfl)
theorem l49_3 (hJ : Closed prog main J) {S : Type} (μ : S → Nat) (I : S → RG → List AObj → Prop) (hI : ∀ s f h,I s f h → heapOk h → n0 ≤ h.length → W prog J 75 n0 49 (subC yp21 (codeOf f49)) f h (thenK (Nx n0 μ I s) (contX pl49 prog J 75 n0 49 ct49 yp10 (codeOf f49) [] (RetQ prog [.tmp 4] n0 K))))
 {s : S} {f : RG} (hi : Gets n0 I s f h) : Sem J 75 n0 49 (subC yp10 (codeOf f49)) f h (contX pl49 prog J 75 n0 49 ct49 yp10 (codeOf f49) [] (RetQ prog [.tmp 4] n0 K)) :=
 loop_rule hJ mixed (b := subC yp21 (codeOf f49)) (by kernel_rfl) μ I hI hi
end
end Go.Proofs.YtaceckiodofdkaaDoor
namespace Go.Proofs.YtaceckiodofdkaaDoor
open Go.Conc
section
variable {P : Program} {W0 : World} {Post : Value → World → Prop} {ρ : Env} {h : List AObj} {FC : Frm} {w : World} {ft : Foot} {f : RG} {a : Act} {b : FB} {K : Value → List AObj → Prop} {n0 : Nat}
theorem leave_top {fn : Func} (hk : b.kind = .normal) (hf : P.funcs[b.fn]? = some fn) (hin : P.inits.idxOf? b.fn = none)
  (hc : ∀ v h' ρ' w' ft' cv,K v h' → HRel ρ' h' FC w' ft' → Env.upto n0 ρ ρ' → n0 ≤ h'.length → VRel h'.length ρ' v cv → Base W0 w' → Post cv w') :
  ∀ (ds : List Nat) (h : List AObj) (w : World) (ft : Foot) (a : Act) (fr : Frame),fr.fn = b.fn → fr.kind = .normal → fr.mode = .returning → fr.tmps = a.tmps → fr.defers = ds.map (fun d => { target := .collected (ρ.blk d),args := #[] }) → RegRel h.length ρ f.r a.tmps → HRel ρ h FC w ft → n0 ≤ h.length →
   takeW ds h (fun h => resW P fn.results.toList f.r h fun vs => K (pack vs) h ∨ ∃ σ h' v,GC n0 σ h h' ∧ pack vs = sub σ v ∧ VOk h'.length v ∧ K v h') → J1 P W0 Post (G fr []) w ft
 | [],h,w,ft,a,fr,e1,e2,e3,e4,e5,hr,H,hn,hq => by
  obtain ⟨fn',tmps,todo,defers,mode,kind,ro⟩ := fr
  simp only at e1 e2 e3 e4 e5
  subst e1 e2 e3 e4 e5
  refine J1.both rfl fun w₁ h₁ hbase => .inr ?_
  have H₁ := H.rely h₁
  have hrun : RunsTo P (EvOk ft) (results fn a.tmps) w₁ fun cv w' => w' = w₁ ∧ ∃ vs,cv = ren ρ (pack vs) ∧ (∀ v ∈ vs,VOk h.length v) ∧ (K (pack vs) h ∨ ∃ σ h' v,GC n0 σ h h' ∧ pack vs = sub σ v ∧ VOk h'.length v ∧ K v h') := by
   unfold results
   have : (fn.results.mapM (resF a.tmps)) = Functor.map List.toArray (fn.results.toList.mapM (resF a.tmps)) := by
    rw [Array.mapM_eq_mapM_toList]
   show RunsTo P (EvOk ft) (do
    let vs ← fn.results.mapM (resF a.tmps)
    pure (if h : vs.size = 1 then vs[0] else .tuple vs)) w₁ _
   rw [this]
   refine RunsTo.bind (RunsTo.map (res_run (n := 0) H₁ hr fn.results.toList hq fun vs hvs hok => RunsTo.pure ⟨rfl,vs,?_,hok,hvs⟩))
   exact pack_ren vs
  obtain ⟨cv,w',es,hr',he,rfl,vs,rfl,hvok,hvs⟩ := hrun #[] (by simp)
  have hes : ∀ e ∈ seen P b.fn es,EvOk ft e := fun e hm => he e (mem_seen hm)
  refine ⟨ren ρ (pack vs),seen P b.fn es,?_,hes,?_⟩
  ·simp only [G,stepG,unwind,List.map_nil,hf,hr']
   simp [doReturn,GStep.after,hin]
  ·rcases hvs with hK | ⟨σ,h',v,g,hp,hok,hK⟩
   ·exact hc _ h _ w' ft _ hK H₁ (Env.upto_refl _ _) hn (.inr ⟨pack_ok hvok,rfl⟩) hbase
   ·rw [hp,ren_sub]
    exact hc v h' _ w' ft _ hK (g.rel H₁) g.upto g.le (.inr ⟨hok,rfl⟩) hbase
 | d :: ds,h,w,ft,a,fr,e1,e2,e3,e4,e5,hr,H,hn,hq => by
  obtain ⟨fn',tmps,todo,defers,mode,kind,ro⟩ := fr
  simp only at e1 e2 e3 e4 e5
  subst e1 e2 e3 e4 e5
  obtain ⟨hd,hq⟩ := hq
  refine (J1.closed P W0 Post).step rfl fun w₁ h₁ => ?_
  have H₁ := H.rely h₁
  obtain ⟨cv,w',es,hr',he,rfl,H',hst,hsz⟩ := take_run (P := P) H₁ hd (Q := fun l w' => l = [] ∧ HRel ρ (h.set d .dead) FC w' ft ∧ Stays ft w₁ w' ∧ w'.heap.size = w₁.heap.size) (fun w' a1 a2 a3 => ⟨rfl,a1,a2,a3⟩) #[] (by simp)
  have hes : ∀ e ∈ seen P b.fn es,EvOk ft e := fun e hm => he e (mem_seen hm)
  refine ⟨G { fn := b.fn,tmps := a.tmps,todo := todo,defers := ds.map (fun d => { target := .collected (ρ.blk d),args := #[] }),mode := .returning,kind := .normal,roundOf := ro } [],w',seen P b.fn es,?_,rfl,hst.guar hes,?_⟩
  ·simp only [G,stepG,unwind,List.map_cons,hr']
   simp [GStep.after]
  ·rw [hsz,Foot.ext_self]
   exact leave_top hk hf hin hc ds _ w' ft a _ rfl rfl rfl rfl rfl (by rw [List.length_set]; exact hr) H' (by rw [List.length_set]; exact hn) hq
theorem top_of_W (hm : P.follows .mixedOrders = true) {g : FuncId} {fn : Func} (hf : P.funcs[g]? = some fn) {c : Code} (hb : fn.body = some c) (hin : P.inits.idxOf? g = none) {args : List Value} {cargs : Array Value} (ha : args.length ≤ fn.ntmps) (hl : cargs.size = args.length)
  (hr : ∀ i : Nat,VRel h.length ρ (args.getD i unk) (cargs.toList.getD i undef)) (H : HRel ρ h FC w ft)
  (hs : W P (J1 P W0 Post) fn.ntmps h.length g c ⟨regs args,[]⟩ h (RetQ P fn.results.toList h.length K))
  (hc : ∀ v h' ρ' w' ft' cv,K v h' → HRel ρ' h' FC w' ft' → Env.upto h.length ρ ρ' → h.length ≤ h'.length → VRel h'.length ρ' v cv → Base W0 w' → Post cv w') : J1 P W0 Post (G (Frame.enter P g cargs .normal) []) w ft := by
 have hJ := J1.closed P W0 Post
 obtain ⟨cargs⟩ := cargs
 simp only at hl hr
 have he : Frame.enter P g ⟨cargs⟩ .normal = FB.at ⟨g,.normal,none,[]⟩ ⟨⟨cargs⟩ ++ Array.replicate (fn.ntmps - cargs.length) undef,[]⟩ [.code c] := by
  simp [Frame.enter,FB.at,hf,hb]
 rw [he]
 have A : ActRel h.length ρ fn.ntmps ⟨regs args,[]⟩ ⟨⟨cargs⟩ ++ Array.replicate (fn.ntmps - cargs.length) undef,[]⟩ := by
  refine ⟨fun t => ?_,by simp at hl ⊢; omega,rfl,by simp⟩
  have := hr t
  have ht : ((⟨cargs⟩ : Array Value) ++ Array.replicate (fn.ntmps - cargs.length) undef).getD t undef = cargs.getD t undef := by
   rw [Array.getD_eq_getD_getElem?,List.getD_eq_getElem?_getD]
   by_cases hx : t < cargs.length
   ·rw [Array.getElem?_append_left (by simpa using hx)]
    simp
   ·rw [Array.getElem?_append_right (by simp; omega),List.getElem?_eq_none (by omega)]
    simp only [Array.getElem?_replicate]
    split <;> rfl
  rw [ht]
  exact this
 have last : ∀ f' h' ρ' w' ft' a' todo,RetQ P fn.results.toList h.length K .ret f' h' → ActRel h'.length ρ' fn.ntmps f' a' → HRel ρ' h' FC w' ft' → Env.upto h.length ρ ρ' → h.length ≤ h'.length →
   J1 P W0 Post (G { (FB.at ⟨g,.normal,none,[]⟩ a' todo) with mode := .returning } []) w' ft' := by
  intro f' h' ρ' w' ft' a' todo q A' H' hu hl
  exact leave_top (b := ⟨g,.normal,none,[]⟩) (f := f') (n0 := h.length) (ρ := ρ') rfl hf hin (fun v h2 ρ2 w2 ft2 cv k H2 u2 l2 v2 => hc v h2 ρ2 w2 ft2 cv k H2 (Env.upto_trans hu u2) l2 v2) f'.ds h' w' ft' a' _ rfl rfl rfl rfl ((List.append_nil _).trans A'.defers) A'.regs H' hl q
 refine W_sound hJ hm c hs ⟨g,.normal,none,[]⟩ _ [] [] (fun jump a w ft => jump = some .ret ∧ ∀ todo,J1 P W0 Post (G { (FB.at ⟨g,.normal,none,[]⟩ a todo) with mode := .returning } []) w ft) ρ FC w ft rfl (by simp) ?_ A H (Nat.le_refl _) ?_
 ·rintro jump a w ft todo ⟨rfl,hj⟩ hh
  rcases hh with ⟨_,k,rfl⟩ | ⟨id,k,e,_⟩ | ⟨e,_⟩
  ·exact hJ.ctrl rfl rfl (fun w => by simp [G,stepG,stepG.exec,FB.at]) (hj (.code .ret :: k))
  ·cases e
  ·cases e
 ·intro e f' h' ρ' w' ft' a' q A' H' hu hl
  cases e with
  | normal => exact hJ.ctrl rfl rfl (fun w => by simp [G,stepG,stepG.exec,FB.at]) (last f' h' ρ' w' ft' a' [] q A' H' hu hl)
  | ret => exact ⟨rfl,fun todo => last f' h' ρ' w' ft' a' todo q A' H' hu hl⟩
  | exit id => exact q.elim
  | goto l => exact q.elim
  | panic l => exact q.elim
  | outgrown => exact q.elim
theorem run_of_J1 {g : Goroutine} {w : World} {ft : Foot} (h : J1 P W0 Post g w ft) (hb : ∀ b,ft.rd b → b < w.heap.size) (hs : ∀ b,ft.wr b → ft.rd b) (hw : W0 = w) : Ends P Post (solo g w) #[] := by
 rw [solo_eq_crowd]
 exact h #[g] w none #[] (fun _ => 0) hb hs (RelyW.refl _ _) (by subst hw; exact ⟨rfl,rfl,rfl,Nat.le_refl _⟩) rfl (leavers_one P g) (past_nil.mono (Nat.zero_le _))
end
def RunsX {α : Type} (P : Program) (s : Go.Sem α) (w : World) (v : α) (w' : World) (es : List Event) : Prop := ∀ acc : Array Event,s.runT P w acc = (.ok v w',acc ++ es.toArray)
section
variable {α β : Type} {P : Program} {w w1 w2 : World}
theorem RunsX.pure {a : α} : RunsX P (Pure.pure a) w a w [] := fun acc => by
 show (Result.ok a w,acc) = _
 simp
theorem RunsX.bind {s : Go.Sem α} {f : α → Go.Sem β} {v : α} {u : β} {e1 e2 : List Event} (h : RunsX P s w v w1 e1) (h2 : RunsX P (f v) w1 u w2 e2) : RunsX P (s >>= f) w u w2 (e1 ++ e2) := by
 intro acc
 show (s.bind f).runT P w acc = _
 rw [Sem.runT_bind',h acc]
 show (f v).runT P w1 (acc ++ e1.toArray) = _
 rw [h2]
 simp
theorem RunsX.program : RunsX P Go.program w P w [] := fun acc => by
 show (Result.ok P w,acc) = _
 simp
theorem RunsX.mark {m : Mark} : RunsX P (Go.mark m) w () w [⟨.mark m,false,true⟩] := fun acc => by
 show (Result.ok () w,acc.push _) = _
 simp
structure IsExt (P : Program) (g : FuncId) (fn : Func) (e : Array Value → Go.Sem Value) : Prop where
 here : P.funcs[g]? = some fn
 name : (fn.name == "runtime.NumGoroutine") = false
 body : fn.body.isNone = true
 next : Extern.findNext fn = none
 find : Extern.find fn = some e
variable {main : Bool} {J : JT} {g : FuncId} {cargs : List Value} {b : FB} {a : Act} {ops : Array Oper} {i : Nat} {rest : List Nat} {o : Oper} {k : List Item} {cs : List Frame} {w' : World} {fn : Func}
theorem runs_ext {e : Array Value → Go.Sem Value} (E : IsExt P g fn e) {args : Array Value} {v : Value} {es : List Event} (h : RunsX P (e args) w v w' es) : RunsX P (callFunc g args) w (.value v) w' (⟨.mark (.extern g),false,true⟩ :: es) := by
 unfold callFunc
 refine RunsX.bind (e1 := []) RunsX.program ?_
 simp only [E.here,E.name,E.body,E.next,E.find]
 refine RunsX.bind (e1 := [⟨.mark (.extern g),false,true⟩]) RunsX.mark ?_
 have := RunsX.bind (f := fun v => (Pure.pure (Next.value v) : Go.Sem Next)) h RunsX.pure
 rw [List.append_nil] at this
 exact this
theorem site_step {e : Array Value → Go.Sem Value} (S : Site g cargs b a ops i o) (E : IsExt P g fn e) {v : Value} {es : List Event} (h : RunsX P (e ⟨cargs⟩) w v w' es) (hs : ∀ x ∈ es,x.sync = true ∧ ∀ f,x.loc ≠ .mark (.extern f)) :
  stepG P main (G (b.at a (.inRegion ops (i :: rest) :: k)) cs) w = .go (G (b.at (a.put o.dst v) (.inRegion ops rest :: k)) cs) w' es.toArray := by
 have hr : (execOp a.eval o).runT P w #[] = (.ok (.value v) w',#[⟨.mark (.extern g),false,true⟩] ++ es.toArray) := by
  rw [S.calls,runs_ext E h #[]]
  simp
 have hf := FB.finish_at b a ops i rest k v
 rw [S.here] at hf
 simp only [Option.bind_some] at hf
 have hk' : (b.kind == CallKind.early) = false := by simpa using S.kind
 rw [stepG_op S.here S.wanted S.nodef,← hf]
 simp only [stepG.apply,hr,if_true]
 have hz := seen_entry (P := P) b.fn g es.toArray (by simpa using hs)
 rw [show (#[⟨.mark (.extern g),false,true⟩] ++ es.toArray : Array Event) = (⟨.mark (.extern g),false,true⟩ :: es).toArray by simp] at hz
 simp [G,FB.at,hk',GStep.after,hz]
theorem IsExt.not {e : Array Value → Go.Sem Value} (E : IsExt P g fn e) : g < P.funcs.size ∧ callable P g = false := by
 refine ⟨(Array.getElem?_eq_some_iff.1 E.here).1,?_⟩
 have hb : fn.body.isSome = false := by
  have := E.body
  cases h : fn.body with
  | none => rfl
  | some c => rw [h] at this; cases this
 unfold callable
 rw [E.here]
 simp [hb]
end
section
variable {P : Program} {main : Bool} {J : JT} {g : FuncId} {fn : Func}
theorem good_same (hJ : Closed P main J) {e : Array Value → Go.Sem Value} (E : IsExt P g fn e) {v : Value} {h : List AObj} {K : Value → List AObj → Prop} (hv : v ≠ unk)
  (hrun : ∀ c w,RunsX P (e ⟨[c]⟩) w c w []) (hK : K v h) : Good P J g [v] h K :=
 .inr ⟨E.not,fun b a ops i rest o k cs ρ FC w ft cargs S H hr hl hc => hJ.step rfl fun w₁ h₁ => by
  match cargs,hl with
  | [c],_ =>
   have h0 : VRel h.length ρ v c := hr 0
   exact ⟨_,w₁,#[],site_step S E (hrun c _) (by simp),rfl,GuarW.refl _ _,by
    rw [Foot.ext_self]
    exact hc v h ρ w₁ ft c hK (H.rely h₁) (Env.upto_refl _ _) (Nat.le_refl _) h0⟩⟩
theorem RunsX.choose {q : Question} {w : World} (hq : q.forced = false) : ∃ T d,RunsX P (Go.choose q) w (q.cut T) { w with drawn := d } [] := by
 refine ⟨w.tape w.drawn q,w.drawn + 1,fun acc => ?_⟩
 unfold Go.choose
 unfold Sem.runT
 rw [hq]
 simp
theorem RunsX.newObj {o : Obj} {w : World} : RunsX P (Go.newObj o) w w.heap.size { w with heap := w.heap.push o } [] := fun acc => by
 show (Result.ok _ _,acc) = _
 simp
theorem RunsX.underlying {t : TypeId} {d : TypeDesc} {w : World} (hu : P.underlying t = some d) : RunsX P (Go.underlying t) w d w [] := by
 unfold Go.underlying
 refine RunsX.bind (e1 := []) (e2 := []) RunsX.program ?_
 simp only [hu]
 exact RunsX.pure
theorem digits_size : ∀ (n t : Nat) (acc : Array Value),(Extern.BytealgMakeNoZero.digits n t acc).size = acc.size + n
 | 0,_,acc => by simp [Extern.BytealgMakeNoZero.digits]
 | n + 1,t,acc => by
  simp only [Extern.BytealgMakeNoZero.digits]
  rw [digits_size n]
  simp
  omega
theorem digits_plain (ρ : Env) (m : Nat) : ∀ (n t : Nat) (acc : Array Value),(∀ v ∈ acc,VOk m v ∧ one v = true ∧ ren ρ v = v) → ∀ v ∈ Extern.BytealgMakeNoZero.digits n t acc,VOk m v ∧ one v = true ∧ ren ρ v = v
 | 0,_,acc,ha => by simpa [Extern.BytealgMakeNoZero.digits] using ha
 | n + 1,t,acc,ha => by
  simp only [Extern.BytealgMakeNoZero.digits]
  refine digits_plain ρ m n _ _ fun v hv => ?_
  rcases Array.mem_push.1 hv with hv | rfl
  ·exact ha v hv
  ·exact ⟨by simp [VOk],rfl,by simp [ren]⟩
theorem runs_mnz {params results : Array TypeId} {t e : TypeId} (ht : results[0]? = some t) (hu : P.underlying t = some (.slice e)) {n : Int} (h0 : 0 ≤ n) (h1 : n ≤ 1000000) (w : World) :
  ∃ C B d es,n.toNat ≤ C ∧ (es = [] ∨ es = [⟨.mark .noRoom,false,true⟩]) ∧
   RunsX P (Extern.BytealgMakeNoZero.makeNoZero params results #[.int .i64 n]) w (.slice (some ⟨w.heap.size,0,none⟩) n.toNat C) { w with heap := w.heap.push (.cells (Extern.BytealgMakeNoZero.digits C B #[]) e),drawn := d } es := by
 obtain ⟨T,d,hT⟩ := RunsX.choose (P := P) (q := .appendCap n.toNat 0 e) (w := w) rfl
 obtain ⟨T2, d2, hT2⟩ := RunsX.choose (P := P) (q := .extern "internal/bytealg.MakeNoZero.bytes" 0) (w := { w with drawn := d }) rfl
 have hge : n.toNat ≤ (Question.appendCap n.toNat 0 e).cut T := by simp [Question.cut]
 generalize (Question.appendCap n.toNat 0 e).cut T = C at hT hge
 generalize (Question.extern "internal/bytealg.MakeNoZero.bytes" 0).cut T2 = B at hT2
 have room : ∃ es,(es = [] ∨ es = [⟨.mark .noRoom,false,true⟩]) ∧ RunsX P (askRoom C) { w with drawn := d } () { w with drawn := d } es := by
  unfold askRoom
  split
  ·exact ⟨_,.inr rfl,RunsX.mark⟩
  ·exact ⟨_,.inl rfl,RunsX.pure⟩
 obtain ⟨es,hes,hroom⟩ := room
 refine ⟨C,B,d2,es,hge,hes,?_⟩
 have ed : Extern.BytealgMakeNoZero.makeNoZero params results #[.int .i64 n] = (do
   let some t := results[0]? | stuck "bytealg.MakeNoZero: no result type"
   let .slice elem ← Go.underlying t | stuck "bytealg.MakeNoZero: slice type expected"
   if n < 0 || n > 2 ^ 48 then runtimePanic (.error "makeslice: len out of range")
   let cap ← Go.choose (.appendCap n.toNat 0 elem)
   askRoom cap
   let bytes ← Go.choose (.extern "internal/bytealg.MakeNoZero.bytes" 0)
   let a ← newRow elem (Extern.BytealgMakeNoZero.digits cap bytes #[])
   pure (.slice (some a) n.toNat cap)) := rfl
 rw [ed]
 simp only [ht]
 refine RunsX.bind (e1 := []) (e2 := es) (RunsX.underlying hu) ?_
 simp only
 rw [if_neg (by simp; omega)]
 refine RunsX.bind (e1 := []) (e2 := es) hT ?_
 have : es = es ++ [] := by simp
 rw [this]
 refine RunsX.bind hroom ?_
 refine RunsX.bind (e1 := []) (e2 := []) hT2 ?_
 unfold newRow
 refine RunsX.bind (e1 := []) (e2 := []) (RunsX.bind (e1 := []) (e2 := []) RunsX.newObj RunsX.pure) RunsX.pure
theorem good_mnz (hJ : Closed P main J) {params results : Array TypeId} (E : IsExt P g fn (Extern.BytealgMakeNoZero.makeNoZero params results)) {t e : TypeId} (ht : results[0]? = some t) (hu : P.underlying t = some (.slice e)) {n : Int} (h0 : 0 ≤ n) (h1 : n ≤ 1000000)
  {h : List AObj} {K : Value → List AObj → Prop} (hK : ∀ cs : List Value,cs.length = n.toNat → K (.slice (some ⟨h.length,0,none⟩) n.toNat fz) (h ++ [.typed true e cs true])) : Good P J g [vint n] h K :=
 .inr ⟨E.not,fun b a ops i rest o k cs ρ FC w ft cargs S H hr hl hc => hJ.step rfl fun w₁ h₁ => by
  match cargs,hl with
  | [c],_ =>
   have hv0 : VRel h.length ρ (vint n) c := hr 0
   obtain rfl : c = .int .i64 n := by
    rcases hv0 with e | ⟨_,e⟩
    ·cases e
    ·simpa [ren] using e
   obtain ⟨C,B,d,es,hge,hes,hrun⟩ := runs_mnz (P := P) (params := params) ht hu h0 h1 w₁
   have H₁ := H.rely h₁
   have hsz := digits_size C B #[]
   have hpl := fun m ρ' => digits_plain ρ' m C B #[] (by simp)
   generalize Extern.BytealgMakeNoZero.digits C B #[] = D at hrun hsz hpl
   have hsz : D.size = C := by simpa using hsz
   have G := H₁.push (.typed true e (D.toList.take n.toNat) true) (.cells D e) C (by
    refine ⟨(⟨fun i v hv => ?_,fun hz => absurd hz (by decide),fun _ => ⟨?_,by simp; exact Nat.min_le_right _ _⟩,fun _ => Nat.le_refl _⟩ : CellsRel (h.length + 1) (ρ.put h.length w₁.heap.size C) h.length (D.toList.take n.toNat) true 1 D (0,0)),fun _ => rfl,fun e => by cases e⟩
    ·have hm : v ∈ D := by
      have := List.mem_of_mem_take (List.mem_of_getElem? hv)
      simpa using this
     obtain ⟨a1,a2,a3⟩ := hpl (h.length + 1) (ρ.put h.length w₁.heap.size C) v hm
     refine .inr ⟨a1,a2,?_⟩
     rw [a3]
     rw [List.getElem?_take] at hv
     split at hv
     ·simpa using hv
     ·cases hv
    ·rw [(Env.put_self ρ h.length w₁.heap.size C).2,hsz,Nat.mul_one]) d (fun y e => by cases e)
   obtain ⟨G1,G2,G3,G4⟩ := G
   refine ⟨_,_,es.toArray,site_step S E hrun (by rcases hes with rfl | rfl <;> simp),rfl,⟨G4.heap,G4.size,G4.tape,G4.os,G4.output,fun x hx => ?_⟩,?_⟩
   ·rcases hes with rfl | rfl
    ·simp at hx
    ·simp at hx
     subst hx
     trivial
   ·refine hc _ _ _ _ _ _ (hK (D.toList.take n.toNat) (by simp; omega)) G1 G2 G3 (.inr ⟨by simp [VOk,AddrOk],?_⟩)
    simp [ren,renAddr,renCap,Env.put]⟩
end
end Go.Proofs.YtaceckiodofdkaaDoor
namespace Go.Proofs.YtaceckiodofdkaaDoor
open Go.Conc Go.Proofs.Tryd
set_option maxRecDepth 100000
def strV (w : List UInt8) : Value := .string ⟨⟨w⟩⟩
section
variable {main : Bool} {J : JT} {h H : List AObj} {K : Value → List AObj → Prop} {KV : Value → Prop} {HL : List AObj → Prop} {n0 : Nat}
theorem ldT {b o s : Nat} {c : List Value} {own row : Bool} {t : Nat} {v : Value} (hb : H[b]? = some (.typed own t c row)) (hv : c[o]? = some v) (hn : kn1 v = true) (hk : KV v) : aLoad false s (ptr b o) H KV := by
 show (match H[b]? with
  | some (.cells c _ _) => bif false then o + s ≤ c.length ∧ kn ((c.drop o).take s) = true ∧ KV (.agg ⟨(c.drop o).take s⟩) else match c[o]? with
   | some v => kn1 v = true ∧ KV v
   | none => False
  | some (.typed _ _ c _) => bif false then o + s ≤ c.length ∧ kn ((c.drop o).take s) = true ∧ KV (.agg ⟨(c.drop o).take s⟩) else match c[o]? with
   | some v => kn1 v = true ∧ KV v
   | none => False
  | _ => False)
 rw [hb]
 simp only [cond_false,hv]
 exact ⟨hn,hk⟩
theorem ptrEq {t e : TypeId} (hu : prog.underlying t = some (.pointer e)) (hg : prog.eqGuardType prog.depth t = false) {x y : Option Addr} {r neg : Bool} (hr : teqPtr prog e x y = some r) (hk : KV (.bool (bif neg then !r else r))) : aEq prog neg t (.pointer x) (.pointer y) KV := by
 have ht : teq prog 10000 t (.pointer x) (.pointer y) = some r := by
  rw [show (10000 : Nat) = 9999 + 1 from rfl]
  unfold teq
  simp only [hu]
  exact hr
 unfold aEq
 rw [ht]
 exact ⟨hg,hk⟩
theorem ptrEql {t e : TypeId} (hu : prog.underlying t = some (.pointer e)) (hg : prog.eqGuardType prog.depth t = false) {x y : Option Addr} {r : Bool} (hr : teqPtr prog e x y = some r) (hk : KV (.bool r)) : aBin prog .eql t (.pointer x) (.pointer y) KV := ptrEq (neg := false) hu hg hr hk
theorem ptrNeq {t e : TypeId} (hu : prog.underlying t = some (.pointer e)) (hg : prog.eqGuardType prog.depth t = false) {x y : Option Addr} {r : Bool} (hr : teqPtr prog e x y = some r) (hk : KV (.bool (!r))) : aBin prog .neq t (.pointer x) (.pointer y) KV := ptrEq (neg := true) hu hg hr hk
theorem bldInfo : ∃ i,prog.info? 103 = some i ∧ i.size ≠ 0 := by
 have h : ((prog.info? 103).map fun i => i.size) = some 2 := by kernel_rfl
 obtain ⟨i,h1,h2⟩ := Option.map_eq_some_iff.1 h
 exact ⟨i,h1,by omega⟩
theorem noEsc : IsExt prog 59 f59 Extern.AbiNoEscape.same := ⟨by kernel_rfl,by kernel_rfl,by kernel_rfl,by kernel_rfl,by kernel_rfl⟩
theorem mkNz : IsExt prog 60 f60 (Extern.BytealgMakeNoZero.makeNoZero f60.params f60.resultTypes) := ⟨by kernel_rfl,by kernel_rfl,by kernel_rfl,by kernel_rfl,by kernel_rfl⟩
theorem good56a (hJ : Closed prog main J) {b : Nat} (hb : H[b]? = some (.typed true 103 [.pointer none,.slice none 0 0] false)) (hK : K (.tuple ⟨[]⟩) (H.set b (.cells [ptr b 0,.slice none 0 0] true 0))) : Good prog J 56 [ptr b 0] H K := by
 refine g56 hJ fun _ => ?_
 rw [e56]
 obtain ⟨i,hi,hz⟩ := bldInfo
 refine nilI (offI (ldT hb rfl rfl ?_))
 refine ptrEql (e := 103) (r := true) (by kernel_rfl) (by kernel_rfl) rfl (cnd_true.2 ?_)
 have hp : ∀ {KV : Value → Prop},KV (ptr b 0) → aP2U prog 103 (ptr b 0) H KV := fun {KV} hk => by
  show (match H[b]?,prog.info? 103 with
   | some (.typed true _ c false),some i => (0 < c.length ∧ i.size ≠ 0) ∧ KV (ptr b 0)
   | _,_ => False)
  rw [hb,hi]
  exact ⟨⟨by decide,hz⟩,hk⟩
 have hq : ∀ {KV : Value → Prop},KV (ptr b 0) → aU2P prog 103 (ptr b 0) H KV := fun {KV} hk => by
  show (match H[b]?,prog.info? 103 with
   | some (.typed true t c false),some _ => liesAt prog prog.depth t (c.length / prog.cellsOf t) 0 103 1 = true ∧ KV (ptr b 0)
   | _,_ => False)
  rw [hb,hi]
  exact ⟨by kernel_rfl,hk⟩
 refine hp (good_same hJ noEsc (by simp [unk]) (fun c w => RunsX.pure) (hq (nilI (offI ?_))))
 show (match H[b]? with
  | some (.cells c true sz) => (ptr b 0).cells.size = 1 ∧ (ptr b 0).cells.toList.all one = true ∧ 0 + 1 ≤ c.length ∧ retL H.length K [] [] (H.set b (.cells (wrAt c 0 (ptr b 0).cells.toList) true sz))
  | some (.typed true _ c false) => (ptr b 0).cells.size = 1 ∧ (ptr b 0).cells.toList.all one = true ∧ 0 + 1 ≤ c.length ∧ retL H.length K [] [] (H.set b (.cells (wrAt c 0 (ptr b 0).cells.toList) true 0))
  | _ => False)
 rw [hb]
 exact ⟨rfl,rfl,by decide,retL_same (by simp) hK⟩
theorem good56b (hJ : Closed prog main J) {b : Nat} {x : Value} (hb : H[b]? = some (.cells [ptr b 0,x] true 0)) (hK : K (.tuple ⟨[]⟩) H) : Good prog J 56 [ptr b 0] H K := by
 refine g56 hJ fun _ => ?_
 rw [e56]
 obtain ⟨i,hi,hz⟩ := bldInfo
 refine nilI (offI (ldI hb rfl rfl ?_))
 refine ptrEql (e := 103) (r := false) (by kernel_rfl) (by kernel_rfl) rfl (cnd_false.2 ?_)
 refine nilI (offI (ldI hb rfl rfl ?_))
 refine ptrNeq (e := 103) (r := true) (by kernel_rfl) (by kernel_rfl) ?_ (cnd_false.2 (retL_same (by simp) hK))
 simp only [teqPtr,hi]
 have : (!(i.size == 0) && ((⟨b,0,none⟩ : Addr) == ⟨b,0,none⟩)) = true := by simpa using hz
 rw [this,cond_true]
def Bld (b p : Nat) (bs : List UInt8) (H : List AObj) : Prop :=
 H[b]? = some (.cells [ptr b 0,.slice (some ⟨p,0,none⟩) bs.length fz] true 0) ∧ ∃ cs,H[p]? = some (.typed true 5 cs true) ∧ cs.take bs.length = strCells bs
theorem Bld.ne {b p : Nat} {bs : List UInt8} (B : Bld b p bs H) : p ≠ b := by
 rintro rfl
 obtain ⟨h1,cs,h2,_⟩ := B
 rw [h1] at h2
 cases h2
theorem strCells_len (s : List UInt8) : (strCells s).length = s.length := by simp [strCells]
theorem strCells_kn (s : List UInt8) : kn (strCells s) = true := by
 unfold kn
 rw [List.all_eq_true]
 intro v hv
 obtain ⟨b,_,rfl⟩ := List.mem_map.1 hv
 rfl
theorem strCells_app (s u : List UInt8) : strCells s ++ strCells u = strCells (s ++ u) := by simp [strCells]
theorem strCells_bytes : ∀ s : List UInt8,bytesOf (strCells s) = some s
 | [] => rfl
 | b :: s => by
  have := strCells_bytes s
  simp only [strCells,List.map_cons,bytesOf] at this ⊢
  rw [this]
  simp [byteOf]
theorem Bld.fits {bs : List UInt8} {cs : List Value} (h : cs.take bs.length = strCells bs) : bs.length ≤ cs.length := by
 have := congrArg List.length h
 rw [List.length_take,strCells_len] at this
 omega
theorem capN {v : Value} (hv : v = .slice none 0 0) (hk : KV (vint (0 : Nat))) : aCapS v KV := by
 subst hv
 exact ⟨by decide,hk⟩
theorem good57 (hJ : Closed prog main J) {b n : Nat} (hn : n ≤ 1000000) (hb : H[b]? = some (.cells [ptr b 0,.slice none 0 0] true 0))
  (hK : ∀ H' p,p = H.length → SameX [b] H H' → Bld b p [] H' → H'.length = p + 1 → K (.tuple ⟨[]⟩) H') : Good prog J 57 [ptr b 0,vint n] H K := by
 refine g57 hJ fun _ => ?_
 rw [e57]
 have hlt := lt_of_get hb
 refine ⟨[b],nilI (offI (ldI hb rfl rfl ⟨by simp [ptrBlk,RdOk],capN rfl (mulI (by decide) (addI (by omega) ?_))⟩))⟩
 refine nilI (offI (ldI hb rfl rfl ⟨by simp [ptrBlk,RdOk],?_⟩))
 show aLenS (.slice none 0 0) _
 refine (show RdOk (some [b]) none ∧ _ from ⟨trivial,?_⟩)
 rw [show 2 * ((0 : Nat) : Int) + (n : Int) = (n : Int) by omega]
 refine good_mnz hJ mkNz (t := 101) (e := 5) (by kernel_rfl) (by kernel_rfl) (by omega) (by omega) fun cs hcs => ?_
 have hp : (H ++ [AObj.typed true 5 cs true])[H.length]? = some (.typed true 5 cs true) := by simp
 have hb1 : (H ++ [AObj.typed true 5 cs true])[b]? = some (.cells [ptr b 0,.slice none 0 0] true 0) := by rw [List.getElem?_append_left hlt]; exact hb
 have sb : SameB (some [b]) H (H ++ [AObj.typed true 5 cs true]) := fun x hx => by
  simp at hx
  subst hx
  rw [List.getElem?_append_left hlt]
 refine ⟨sb,?_⟩
 have hsl : ∀ {KV : Value → Prop},KV (.slice (some ⟨H.length,0,none⟩) 0 fz) → aSl2 1 (.slice (some ⟨H.length,0,none⟩) (n : Int).toNat fz) none (some (vint (0 : Nat))) (H ++ [AObj.typed true 5 cs true]) KV := fun {KV} hk => by
  refine ⟨Nat.zero_le _,fun hc => absurd hc (by decide),fun _ => ?_⟩
  rw [hp]
  exact ⟨⟨rfl,rfl,by simp,.inl rfl⟩,hk⟩
 refine hsl ⟨sb,nilI (offI (ldI hb1 rfl rfl ⟨by decide,?_⟩))⟩
 have hcp : ∀ {K : Value → List AObj → Prop},K (vint (0 : Nat)) (H ++ [AObj.typed true 5 cs true]) → aCopy 1 (.slice (some ⟨H.length,0,none⟩) 0 fz) (.slice none 0 0) (H ++ [AObj.typed true 5 cs true]) K := fun {K} hk => by
  refine ⟨rfl,?_⟩
  show (match (H ++ [AObj.typed true 5 cs true])[H.length]? with
   | some (.cells cs true sz) => 0 + (min 0 0) * 1 ≤ cs.length ∧ K (vint (min 0 0 : Nat)) ((H ++ [AObj.typed true 5 _ true]).set H.length (.cells (wrAt cs 0 []) true sz))
   | some (.typed ..) => min 0 0 = 0 ∧ K (vint (0 : Nat)) _
   | _ => False)
  rw [hp]
  exact ⟨rfl,hk⟩
 refine hcp (nilI (offI (qSt hb1 (by simp) rfl rfl fun H2 S2 c2 l2 => retL_same (by simp) ?_)))
 refine hK H2 H.length rfl (SameX.trans (SameX.refl.app) S2) ⟨by simpa using c2,cs,?_,rfl⟩ (by rw [l2]; simp)
 rw [S2.get hp (by simp; omega)]
theorem good52 (hJ : Closed prog main J) {b n : Nat} (h0 : 0 < n) (hn : n ≤ 1000000) (hb : H[b]? = some (.typed true 103 [.pointer none,.slice none 0 0] false))
  (hK : ∀ H' p,p = H.length → SameX [b] H H' → Bld b p [] H' → H'.length = p + 1 → K (.tuple ⟨[]⟩) H') : Good prog J 52 [ptr b 0,vint n] H K := by
 refine g52 hJ fun _ => ?_
 rw [e52]
 have hlt := lt_of_get hb
 refine good56a hJ hb ?_
 have hb1 : (H.set b (.cells [ptr b 0,.slice none 0 0] true 0))[b]? = some (.cells [ptr b 0,.slice none 0 0] true 0) := List.getElem?_set_self hlt
 have S1 : SameX [b] H (H.set b (.cells [ptr b 0,.slice none 0 0] true 0)) := SameX.refl.set (.inl (by simp))
 have l1 : (H.set b (.cells [ptr b 0,.slice none 0 0] true 0)).length = H.length := by simp
 generalize H.set b (.cells [ptr b 0,.slice none 0 0] true 0) = H1 at hb1 S1 l1
 refine lssI (cndI (fun h => absurd h (by omega)) fun _ => ?_)
 refine nilI (offI (ldI hb1 rfl rfl (capN rfl (nilI (offI (ldI hb1 rfl rfl ?_))))))
 show aBin prog .sub 3 (vint (0 : Nat)) (vint (0 : Nat)) _
 refine subI (by decide) (lssI (cndI (fun _ => ?_) fun h => absurd (by omega : ((0 : Nat) : Int) - ((0 : Nat) : Int) < n) h))
 refine good57 hJ hn hb1 fun H2 p e2 S2 B2 l2 => retL_same (by simp) ?_
 exact hK H2 p (by omega) (S1.trans S2) B2 l2
theorem good53 (hJ : Closed prog main J) {b p : Nat} {bs s : List UInt8} (B : Bld b p bs H) (hl : bs.length + s.length ≤ 1000000)
  (hK : ∀ H' p',p' = H.length → SameX [b,p] H H' → Bld b p' (bs ++ s) H' → H'.length = p' + 1 → K (.tuple ⟨[vint s.length,.nilIface]⟩) H') : Good prog J 53 [ptr b 0,strV s] H K := by
 refine g53 hJ fun _ => ?_
 rw [e53]
 have hne := B.ne
 obtain ⟨hb,cs,hp,ht⟩ := B
 have hlt := lt_of_get hb
 have hpl := lt_of_get hp
 have hfit := Bld.fits ht
 refine good56b hJ hb ?_
 refine nilI (offI (ldI hb rfl rfl ⟨by decide,?_⟩))
 have hap : ∀ {K : Value → List AObj → Prop},K (.slice (some ⟨H.length,0,none⟩) (bs.length + s.length) fz) (H.set p .dead ++ [.typed true 5 (cs.take bs.length ++ strCells s) true]) → aAppS 5 (.slice (some ⟨p,0,none⟩) bs.length fz) (strV s) H K := fun {K} hk => by
  show (match H[p]? with
   | some (.typed true t cs true) => (fz = fz ∧ t = 5 ∧ bs.length ≤ cs.length ∧ bs.length + s.length ≤ room ∧ kn (cs.take bs.length) = true) ∧ K (.slice (some ⟨H.length,0,none⟩) (bs.length + s.length) fz) (H.set p .dead ++ [.typed true t (cs.take bs.length ++ strCells s) true])
   | _ => False)
  rw [hp]
  exact ⟨⟨rfl,rfl,hfit,by unfold room; omega,by rw [ht]; exact strCells_kn bs⟩,hk⟩
 refine hap ?_
 rw [ht,strCells_app]
 have l1 : (H.set p .dead).length = H.length := by simp
 have hp1 : (H.set p .dead ++ [AObj.typed true 5 (strCells (bs ++ s)) true])[H.length]? = some (.typed true 5 (strCells (bs ++ s)) true) := by rw [List.getElem?_append_right (by omega),l1,Nat.sub_self]; rfl
 have S1 : SameX [b,p] H (H.set p .dead ++ [AObj.typed true 5 (strCells (bs ++ s)) true]) := SameX.app (SameX.refl.set (.inl (by simp)))
 have hb1 : (H.set p .dead ++ [AObj.typed true 5 (strCells (bs ++ s)) true])[b]? = some (.cells [ptr b 0,.slice (some ⟨p,0,none⟩) bs.length fz] true 0) := by
  rw [List.getElem?_append_left (by omega),List.getElem?_set_ne hne]
  exact hb
 have l2 : (H.set p .dead ++ [AObj.typed true 5 (strCells (bs ++ s)) true]).length = H.length + 1 := by simp
 generalize H.set p .dead ++ [AObj.typed true 5 (strCells (bs ++ s)) true] = H1 at hp1 S1 hb1 l2
 refine nilI (offI (qSt hb1 (by simp) rfl rfl fun H2 S2 c2 l3 => ?_))
 show aLenStr (strV s) _
 show retL H.length K [] [vint (ByteArray.mk ⟨s⟩).size,.nilIface] H2
 rw [show (ByteArray.mk ⟨s⟩).size = s.length from rfl]
 refine retL_same (by simp [unk]) (hK H2 H.length rfl (S1.trans (S2.weak (by simp))) ⟨?_,strCells (bs ++ s),?_,?_⟩ (by omega))
 ·rw [c2]
  simp
 ·rw [S2.get hp1 (by simp; omega)]
 ·rw [List.take_of_length_le (by rw [strCells_len]; omega)]
theorem lies8 {len n : Nat} (h : n ≤ len) : liesAt prog prog.depth 5 (len / prog.cellsOf 5) 0 5 n = true := by
 obtain ⟨d,hd⟩ : ∃ d,prog.depth = d + 1 := by
  have : 0 < prog.depth := Nat.lt_of_lt_of_le Nat.zero_lt_one (Nat.le_of_ble_eq_true (by kernel_rfl))
  exact ⟨prog.depth - 1,by omega⟩
 have hc : prog.cellsOf 5 = 1 := by kernel_rfl
 have hs : sameLayout prog prog.depth 5 5 = true := by kernel_rfl
 have hr : ∀ fits : TypeId → Bool,fits 5 = true → rowAt prog fits prog.depth 5 (len / prog.cellsOf 5) 0 n = true := by
  intro fits hf
  rw [hd]
  simp only [rowAt,hc,Nat.div_one,Nat.zero_mod,hf]
  simp [h]
 have hl : liesAt prog (d + 1) 5 (len / prog.cellsOf 5) 0 5 n = true := by
  unfold liesAt
  have h2 := hr (fun x => sameLayout prog prog.depth x 5) hs
  rw [h2]
  rfl
 rw [hd]
 exact hl
theorem good54 (hJ : Closed prog main J) {b p : Nat} {bs : List UInt8} (B : Bld b p bs H) (h0 : 0 < bs.length) (hl : bs.length ≤ 1000000)
  (hK : ∀ H',SameX [p] H H' → H'.length = H.length → K (strV bs) H') : Good prog J 54 [ptr b 0] H K := by
 refine g54 hJ fun _ => ?_
 rw [e54]
 have hne := B.ne
 obtain ⟨hb,cs,hp,ht⟩ := B
 have hfit := Bld.fits ht
 refine ⟨[b],nilI (offI (ldI hb rfl rfl ⟨by simp [ptrBlk,RdOk],?_⟩))⟩
 refine nilI (offI (ldI hb rfl rfl ⟨by simp [ptrBlk,RdOk],?_⟩))
 show RdOk (some [b]) none ∧ _
 refine ⟨trivial,?_⟩
 have hsd : ∀ {KV : Value → Prop},KV (ptr p 0) → aSlD (.slice (some ⟨p,0,none⟩) bs.length fz) H KV := fun {KV} hk => by
  show (match H[p]? with
   | some (.typed true _ cs true) => (fz = fz ∧ 0 < cs.length) ∧ KV (ptr p 0)
   | _ => False)
  rw [hp]
  exact ⟨⟨rfl,by omega⟩,hk⟩
 refine hsd ⟨fun _ _ => rfl,?_⟩
 show (match H[p]? with
  | some (.typed true t cs true) => (0 < ((bs.length : Nat) : Int) ∧ ((bs.length : Nat) : Int).toNat ≤ cs.length ∧ ((bs.length : Nat) : Int) ≤ 1073741824 ∧ ∀ N,((bs.length : Nat) : Int).toNat ≤ N → liesAt prog prog.depth t (N / prog.cellsOf t) 0 5 ((bs.length : Nat) : Int).toNat = true) ∧ match bytesOf (cs.take ((bs.length : Nat) : Int).toNat) with
   | some bs => SameB (some [b]) H (H.set p (.cells cs false 1)) ∧ retL H.length K [] [.string ⟨⟨bs⟩⟩] (H.set p (.cells cs false 1))
   | none => False
  | _ => False)
 rw [hp]
 simp only [Int.toNat_natCast,ht,strCells_bytes]
 refine ⟨⟨by omega,hfit,by omega,fun N hN => lies8 hN⟩,fun x hx => ?_,retL_same (by simp [unk]) (hK _ (SameX.refl.set (.inl (by simp))) (by simp))⟩
 simp at hx
 subst hx
 rw [List.getElem?_set_ne hne]
def joinR (sep a : List UInt8) (l : List (List UInt8)) : List UInt8 := a ++ l.flatMap (sep ++ ·)
def lenJ (l : List (List UInt8)) : Nat := (l.map List.length).sum
theorem lenJ_flat (sep : List UInt8) : ∀ l : List (List UInt8),(l.flatMap (sep ++ ·)).length = sep.length * l.length + lenJ l
 | [] => rfl
 | a :: l => by
  have := lenJ_flat sep l
  simp only [List.flatMap_cons,List.length_append,this,lenJ,List.map_cons,List.sum_cons,List.length_cons,Nat.mul_succ]
  omega
theorem lenJ_take (l : List (List UInt8)) : ∀ k,lenJ (l.take k) ≤ lenJ l := by
 intro k
 have h : lenJ l = lenJ (l.take k) + lenJ (l.drop k) := by
  unfold lenJ
  rw [← List.sum_append,← List.map_append,List.take_append_drop]
 omega
theorem lenJ_succ {l : List (List UInt8)} {k : Nat} {x : List UInt8} (h : l[k]? = some x) : lenJ (l.take (k + 1)) = lenJ (l.take k) + x.length := by
 rw [List.take_add_one,h]
 simp [lenJ]
theorem quoMax {t : TypeId} {b : Int} (hb : 0 < b ∧ b ≤ 1000) (hk : ∀ q : Int,1000000000 ≤ q → KV (vint q)) : aBin prog .quo t (vint 9223372036854775807) (vint b) KV := by
 have h1 : Int.tdiv 9223372036854775807 b = 9223372036854775807 / b := Int.tdiv_eq_ediv_of_nonneg (by decide)
 have h2 : 1000000000 ≤ 9223372036854775807 / b := (Int.le_ediv_iff_mul_le hb.1).2 (by omega)
 have h3 : (9223372036854775807 : Int) / b ≤ 9223372036854775807 := Int.ediv_le_self _ (by decide)
 simp only [aBin,aInt,true_and]
 rw [h1,wrap64 (by omega) (by omega)]
 exact ⟨by omega,hk _ h2⟩
theorem lenStr {s : List UInt8} (hk : KV (vint s.length)) : aLenStr (strV s) KV := hk
theorem good49 (hJ : Closed prog main J) {q n : Nat} {wr : Bool} {sz : Nat} {sep a : List UInt8} {l : List (List UInt8)} (hq : H[q]? = some (.cells ((a :: l).map strV) wr sz)) (hn : n = l.length + 1) (h1 : 0 < l.length) (h2 : l.length ≤ 500) (hs : 0 < sep.length ∧ sep.length ≤ 100) (hl : a.length + lenJ l ≤ 300000)
  (hK : K (strV (joinR sep a l)) H) : Good prog J 49 [.slice (some ⟨q,0,none⟩) n n,strV sep] H K := by
 subst hn
 refine g49 hJ fun ok => ?_
 rw [e49]
 have sl : Sli H (.slice (some ⟨q,0,none⟩) (l.length + 1) (l.length + 1)) 1 (l.length + 1) ((a :: l).map strV) := sli_new hq (by simp) (by
  unfold kn
  rw [List.all_eq_true]
  intro v hv
  obtain ⟨b,_,rfl⟩ := List.mem_map.1 hv
  rfl)
 have hsm : sep.length * l.length ≤ 100 * 500 := Nat.mul_le_mul hs.2 h2
 have hm : ∀ k : Nat,lenJ ((a :: l).take k) ≤ 300000 := fun k => by
  have := lenJ_take (a :: l) k
  have e : lenJ (a :: l) = a.length + lenJ l := by simp [lenJ]
  omega
 have hat : ∀ k : Nat,k < l.length + 1 → ∃ x,(a :: l)[k]? = some x ∧ x.length ≤ 300000 := fun k hk => by
  refine ⟨(a :: l)[k],List.getElem?_eq_getElem (by simpa using hk),?_⟩
  have := lenJ_succ (l := a :: l) (k := k) (List.getElem?_eq_getElem (by simpa using hk))
  have := hm (k + 1)
  omega
 refine lenI sl (eqlI (cndI (fun h => absurd h (by omega)) fun _ => eqlI (cndI (fun h => absurd h (by omega)) fun _ => ?_)))
 refine lenStr (gtrI (cndI (fun _ => ?_) fun h => absurd (by omega : (sep.length : Int) > 0) h))
 refine lenStr (lenI sl (subI (by omega) (quoMax (by omega) fun qv hqv => geqI (cndI (fun h => absurd h (by omega)) fun _ => ?_))))
 refine lenStr (lenI sl (subI (by omega) ?_))
 rw [show ((l.length + 1 : Nat) : Int) - 1 = ((l.length : Nat) : Int) by omega]
 refine mulI ⟨by rw [← Int.natCast_mul]; omega,by rw [← Int.natCast_mul]; omega⟩ ?_
 rw [← Int.natCast_mul]
 refine addI (by omega) ?_
 rw [show (0 : Int) + ((sep.length * l.length : Nat) : Int) = ((sep.length * l.length : Nat) : Int) by omega]
 refine hold.2 ?_
 rw [s49_1]
 refine lenI sl ?_
 refine l49_2 hJ (fun k : Nat => l.length + 1 - k) (fun k f H' => H' = H ∧ k ≤ l.length + 1 ∧ f.ds = [] ∧ f.r 0 = .slice (some ⟨q,0,none⟩) (l.length + 1) (l.length + 1) ∧ f.r 1 = strV sep ∧ f.r 39 = .slice (some ⟨q,0,none⟩) (l.length + 1) (l.length + 1) ∧ f.r 40 = vint (l.length + 1 : Nat) ∧ f.r 41 = vint (k : Nat) ∧ f.r 5 = vint (sep.length * l.length + lenJ ((a :: l).take k) : Nat)) ?_ (s := 0)
  (.inl ⟨rfl,by omega,rfl,rfl,rfl,rfl,rfl,rfl,by simp [lenJ]; rfl⟩)
 rintro k f H' ⟨rfl,hk,ds,r0,r1,r39,r40,r41,r5⟩ ok' hn'
 rw [s49_2]
 simp only [r0,r1,r39,r40,r41,r5]
 have hmk := hm k
 refine lssI (cndI (fun hlt => ?_) fun hge => ?_)
 ·obtain ⟨x,hx,hxl⟩ := hat k (by omega)
  refine idx_load (x := strV x) sl (by omega) (by rw [Int.toNat_natCast,List.getElem?_map,hx]; rfl) fun pv => ?_
  refine lenStr (subI (by omega) (gtrI (cndI (fun h => absurd h (by omega)) fun _ => lenStr (addI (by omega) (addI (by omega) ?_)))))
  have hsu := lenJ_succ hx
  refine ⟨k + 1,by dsimp only; omega,.inl ⟨rfl,by omega,ds,r0,r1,r39,r40,by show vint _ = vint _; congr 1,by show vint _ = vint _; rw [hsu]; congr 1; omega⟩⟩
 ·have hke : k = l.length + 1 := by omega
  subst hke
  have htot : sep.length * l.length + lenJ ((a :: l).take (l.length + 1)) = (joinR sep a l).length := by
   rw [List.take_of_length_le (by simp)]
   unfold joinR
   rw [List.length_append,lenJ_flat]
   simp [lenJ]
   omega
  rw [htot]
  have hjl : (joinR sep a l).length ≤ 400000 := by
   rw [← htot]
   have := hm (l.length + 1)
   omega
  have hj0 : 0 < (joinR sep a l).length := by
   rw [← htot]
   have : 0 < sep.length * l.length := Nat.mul_pos hs.1 h1
   omega
  refine (show ∀ {KK : Value → List AObj → Prop},KK (ptr H'.length 0) (H' ++ [.typed true 103 [.pointer none,.slice none 0 0] false]) → aAllocT 103 [.pointer none,.slice none 0 0] H' KK from fun {KK} hk => hk) ?_
  have hb1 : (H' ++ [AObj.typed true 103 [.pointer none,.slice none 0 0] false])[H'.length]? = some (.typed true 103 [.pointer none,.slice none 0 0] false) := by simp
  have S1 : SameX [] H' (H' ++ [AObj.typed true 103 [.pointer none,.slice none 0 0] false]) := SameX.refl.app
  have l1 : (H' ++ [AObj.typed true 103 [.pointer none,.slice none 0 0] false]).length = H'.length + 1 := by simp
  generalize H' ++ [AObj.typed true 103 [.pointer none,.slice none 0 0] false] = H1 at hb1 S1 l1
  have new : ∀ {X : List Nat} {H2 H3 : List AObj},SameX [] H' H2 → SameX X H2 H3 → (∀ x ∈ X,H'.length ≤ x) → SameX [] H' H3 := fun a b hX => a.thru b fun y hy => .inr (hX y hy)
  refine good52 hJ hj0 (by omega) hb1 fun H2 p2 e2 S2 B2 l2 => ?_
  have T2 := new S1 S2 (by simp)
  refine idx_load (x := strV a) (T2.sli sl (by simp)) (by omega) rfl fun pv => ?_
  refine good53 hJ B2 (by
   have : a.length ≤ (joinR sep a l).length := by simp [joinR]
   simp
   omega) fun H3 p3 e3 S3 B3 l3 => ?_
  have T3 := new T2 S3 (by simp; omega)
  have hsl : ∀ {KV : Value → Prop},KV (.slice (some ⟨q,1,none⟩) l.length l.length) → aSl2 1 (.slice (some ⟨q,0,none⟩) (l.length + 1) (l.length + 1)) (some (vint 1)) none H3 KV := fun {KV} hk => by
   show (1 ≤ l.length + 1) ∧ ((l.length + 1 < fz → l.length + 1 ≤ l.length + 1 ∧ KV (.slice (some ⟨q,bif Nat.beq (l.length + 1) 1 then 0 else 0 + 1 * 1,none⟩) (l.length + 1 - 1) (l.length + 1 - 1))) ∧ _)
   refine ⟨by omega,fun _ => ⟨Nat.le_refl _,?_⟩,fun h => absurd h (by unfold fz; omega)⟩
   have : Nat.beq (l.length + 1) 1 = false := by
    cases hb : Nat.beq (l.length + 1) 1 with
    | false => rfl
    | true => have := Nat.eq_of_beq_eq_true hb; omega
   rw [this]
   exact hk
  refine hsl (show aLenS (.slice (some ⟨q,1,none⟩) l.length l.length) _ from ?_)
  have sl1 : Sli H' (.slice (some ⟨q,1,none⟩) l.length l.length) 1 l.length (l.map strV) := by
   obtain ⟨_,_,_,⟨_,hkn⟩,_⟩ := sl
   refine ⟨_,_,rfl,⟨by simp,?_⟩,.inr ⟨q,1,rfl,.inr ⟨_,_,_,hq,by simp; exact List.take_of_length_le (by simp)⟩⟩⟩
   unfold kn at hkn ⊢
   simp only [List.map_cons,List.all_cons,Bool.and_eq_true] at hkn
   exact hkn.2
  refine l49_3 hJ (fun k : Nat => l.length - k) (fun k f H4 => k ≤ l.length ∧ SameX [] H' H4 ∧ (∃ p,H'.length ≤ p ∧ Bld H'.length p (joinR sep a (l.take k)) H4) ∧ f.ds = [] ∧ f.r 1 = strV sep ∧ f.r 8 = ptr H'.length 0 ∧ f.r 63 = .slice (some ⟨q,1,none⟩) l.length l.length ∧ f.r 64 = vint (l.length : Nat) ∧ f.r 65 = vint (k : Nat)) ?_ (s := 0)
   (.inl ⟨by omega,T3,⟨p3,by omega,by simpa [joinR] using B3⟩,ds,r1,rfl,rfl,rfl,rfl⟩)
  rintro k f4 H4 ⟨hk4,T4,⟨p4,hp4,B4⟩,ds4,q1,q8,q63,q64,q65⟩ ok4 hn4
  rw [s49_3]
  simp only [q1,q8,q63,q64,q65]
  have hpre : (joinR sep a (l.take k)).length ≤ 400000 := by
   unfold joinR
   rw [List.length_append,lenJ_flat]
   have := lenJ_take l k
   have : sep.length * (l.take k).length ≤ 100 * 500 := Nat.mul_le_mul hs.2 (by simp; omega)
   omega
  refine lssI (cndI (fun hlt => ?_) fun hge => ?_)
  ·obtain ⟨x,hx,hxl⟩ := hat (k + 1) (by omega)
   have hx : l[k]? = some x := by simpa using hx
   refine idx_load (x := strV x) (T4.sli sl1 (by simp)) (by omega) (by rw [Int.toNat_natCast,List.getElem?_map,hx]; rfl) fun pv => ?_
   refine good53 hJ B4 (by omega) fun H5 p5 e5 S5 B5 l5 => ?_
   have T5 := new T4 S5 (by simp; omega)
   refine good53 hJ B5 (by simp; omega) fun H6 p6 e6 S6 B6 l6 => ?_
   have T6 := new T5 S6 (by simp; have := T4.1; omega)
   refine addI (by omega) ⟨k + 1,by dsimp only; omega,.inl ⟨by omega,T6,⟨p6,by have := T5.1; omega,?_⟩,ds4,q1,q8,q63,q64,by show vint _ = vint _; congr 1⟩⟩
   have : joinR sep a (l.take (k + 1)) = joinR sep a (l.take k) ++ sep ++ x := by
    rw [List.take_add_one,hx]
    simp [joinR]
   rw [this]
   exact B6
  ·have hke : k = l.length := by omega
   subst hke
   rw [List.take_length] at B4
   refine good54 hJ B4 hj0 (by omega) fun H5 S5 l5 => ?_
   rw [ds4]
   exact retX (X := []) ok hn' (new T4 S5 (by simpa using hp4)) (by simp) (by simp [unk,strV]) (by simp [pack,VOk,strV]) hK
end
def bl (n : Nat) : Nat := ((List.range 8).filter fun k => Nat.ble (2 ^ k) n).length
def lenU (u : Nat) : Nat := if 256 ≤ u then 8 + bl (u / 256) else bl u
def tab8 : List UInt8 := (List.range 256).map fun n => UInt8.ofNat (bl n)
def digC (n : Nat) : UInt8 := UInt8.ofNat (48 + n)
def numD (u : Nat) : List UInt8 := if u < 10 then [digC u] else if u < 100 then [digC (u / 10),digC (u % 10)] else [digC (u / 100),digC (u / 10 % 10),digC (u % 10)]
def itoaB (n : Int) : List UInt8 := if n < 0 then 45 :: numD n.natAbs else numD n.natAbs
def pairs : List UInt8 := (List.range 100).flatMap fun n => [digC (n / 10),digC (n % 10)]
def digs : List UInt8 := [48,49,50,51,52,53,54,55,56,57,97,98,99,100,101,102,103,104,105,106,107,108,109,110,111,112,113,114,115,116,117,118,119,120,121,122]
def pow10 : List Value := (List.range 20).map fun i => .int .u64 ((10 ^ i : Nat) : Int)
def PowAt (H : List AObj) : Prop := H[1]? = some (.typed false 1 pow10 false)
theorem bl_le : ∀ n ∈ List.range 256,bl n ≤ 8 := of_decide_eq_true (by kernel_rfl)
def eU (u : Nat) : Nat := lenU u * 78913 / 262144
theorem nd_ok : ∀ u ∈ List.range 1000,u = 0 ∨ (lenU u ≤ 16 ∧ eU u ≤ 3 ∧ eU u + (if 10 ^ eU u ≤ u then 1 else 0) = (numD u).length) := of_decide_eq_true (by kernel_rfl)
theorem pairs_get : ∀ m ∈ List.range 100,pairs[m * 2]? = some (digC (m / 10)) ∧ pairs[m * 2 + 1]? = some (digC (m % 10)) := of_decide_eq_true (by kernel_rfl)
theorem digs_num : ∀ n ∈ List.range 10,(digs.take (n + 1)).drop n = numD n := of_decide_eq_true (by kernel_rfl)
theorem pairs_num : ∀ n ∈ List.range 100,n < 10 ∨ (pairs.take (n * 2 + 2)).drop (n * 2) = numD n := of_decide_eq_true (by kernel_rfl)
theorem pairs_len : pairs.length = 200 := by kernel_rfl
theorem digC_nat {n : Nat} (h : n < 10) : ((digC n).toNat : Int) = 48 + (n : Int) := by
 unfold digC
 rw [UInt8.toNat_ofNat_of_lt' (by show 48 + n < 256; omega)]
 omega
section
variable {main : Bool} {J : JT} {h H : List AObj} {K : Value → List AObj → Prop} {KV : Value → Prop} {HL : List AObj → Prop} {n0 : Nat}
theorem geqK {t : TypeId} {k : IntKind} {a b : Int} (hk : KV (.bool (decide (a ≥ b)))) : aBin prog .geq t (.int k a) (.int k b) KV := ⟨rfl,hk⟩
theorem addK {t : TypeId} {k : IntKind} {a b : Int} (hw : k.wrap (a + b) = a + b) (hk : KV (.int k (a + b))) : aBin prog .add t (.int k a) (.int k b) KV := ⟨rfl,by show KV (.int k (k.wrap (a + b))); rw [hw]; exact hk⟩
theorem mulK {t : TypeId} {k : IntKind} {a b : Int} (hw : k.wrap (a * b) = a * b) (hk : KV (.int k (a * b))) : aBin prog .mul t (.int k a) (.int k b) KV := ⟨rfl,by show KV (.int k (k.wrap (a * b))); rw [hw]; exact hk⟩
theorem wrap_u8 {n : Int} (h1 : 0 ≤ n) (h2 : n < 256) : IntKind.u8.wrap n = n := by
 simp only [IntKind.wrap,IntKind.bits,IntKind.signed]
 simp
 omega
theorem wrap_u32 {n : Int} (h1 : 0 ≤ n) (h2 : n < 4294967296) : IntKind.u32.wrap n = n := by
 simp only [IntKind.wrap,IntKind.bits,IntKind.signed]
 simp
 omega
theorem wrap_u64 {n : Int} (h1 : 0 ≤ n) (h2 : n < 18446744073709551616) : IntKind.u64.wrap n = n := by
 simp only [IntKind.wrap,IntKind.bits,IntKind.signed]
 simp
 omega
theorem quoK {t : TypeId} {a b : Nat} (ha : a < 4294967296) (hb : 0 < b) (hk : KV (.int .u32 ((a / b : Nat) : Int))) : aBin prog .quo t (.int .u32 (a : Int)) (.int .u32 (b : Int)) KV := by
 have h1 : Int.tdiv (a : Int) (b : Int) = ((a / b : Nat) : Int) := by rw [Int.tdiv_eq_ediv_of_nonneg (by omega)]; rfl
 have h3 : a / b ≤ a := Nat.div_le_self _ _
 refine ⟨rfl,by omega,?_⟩
 rw [h1,wrap_u32 (Int.natCast_nonneg _) (by have : ((a / b : Nat) : Int) ≤ (a : Int) := Int.ofNat_le.2 h3; omega)]
 exact hk
theorem remK {t : TypeId} {a b : Nat} (hb : 0 < b) (hk : KV (.int .u32 ((a % b : Nat) : Int))) : aBin prog .rem t (.int .u32 (a : Int)) (.int .u32 (b : Int)) KV := by
 have h1 : Int.tmod (a : Int) (b : Int) = ((a % b : Nat) : Int) := by rw [Int.tmod_eq_emod_of_nonneg (by omega)]; rfl
 refine ⟨rfl,by omega,?_⟩
 rw [h1]
 exact hk
theorem cvK {k k' : IntKind} {n : Int} (hw : k.wrap n = n) (hk : KV (.int k n)) : aConvI k (.int k' n) KV := by
 show KV (.int k (k.wrap n))
 rw [hw]
 exact hk
theorem idxS {s : List UInt8} {d : ByteArray} {k : IntKind} {j : Nat} {b : UInt8} (hd : d = ⟨⟨s⟩⟩) (hj : s[j]? = some b) (hk : KV (.int .u8 b.toNat)) : aIdxStr (.string d) (.int k (j : Int)) KV := by
 subst hd
 show 0 ≤ (j : Int) ∧ match s[(j : Int).toNat]? with
  | some b => KV (.int .u8 b.toNat)
  | none => False
 rw [Int.toNat_natCast,hj]
 exact ⟨by omega,hk⟩
theorem shrN {t : TypeId} {k : IntKind} {a b : Nat} (hb : b ≤ k.bits) (hk : KV (.int k ((a / 2 ^ b : Nat) : Int))) : aBin prog .shr t (.int k (a : Int)) (.int .u64 (b : Int)) KV := by
 refine ⟨by omega,?_⟩
 show KV (.int k ((a : Int).fdiv (2 ^ min (b : Int).toNat k.bits)))
 rw [Int.toNat_natCast,Nat.min_eq_left hb]
 have : (a : Int).fdiv (2 ^ b) = ((a / 2 ^ b : Nat) : Int) := by
  have e : (2 : Int) ^ b = ((2 ^ b : Nat) : Int) := by simp
  rw [e,Int.fdiv_eq_ediv_of_nonneg _ (Int.natCast_nonneg _)]
  rfl
 have e2 : ((a : Int).fdiv (2 ^ b)) = (a : Int).fdiv (2 ^ b) := rfl
 first
  | (rw [this]; exact hk)
  | (have hk2 := this ▸ hk; exact hk2)
theorem tab8_get {n : Nat} (h : n < 256) : tab8[n]? = some (UInt8.ofNat (bl n)) ∧ ((UInt8.ofNat (bl n)).toNat : Int) = (bl n : Int) := by
 refine ⟨by simp [tab8,h],?_⟩
 have := bl_le n (List.mem_range.2 h)
 rw [UInt8.toNat_ofNat_of_lt' (by show bl n < 256; omega)]
theorem pow10_get {e : Nat} (he : e < 20) : pow10[e]? = some (.int .u64 ((10 ^ e : Nat) : Int)) := by simp [pow10,he]
theorem good66 (hJ : Closed prog main J) {u : Nat} (hu : u < 1000) (hK : K (vint (lenU u)) H) : Good prog J 66 [.int .u64 (u : Int)] H K := by
 refine g66 hJ fun _ => ?_
 rw [e66]
 refine geqK (cndI (fun h => absurd h (by omega)) fun _ => hold.2 ?_)
 rw [s66_1]
 show aBin prog .geq _ (.int .u64 (u : Int)) (.int .u64 65536) _
 refine geqK (cndI (fun h => absurd h (by omega)) fun _ => hold.2 ?_)
 rw [s66_2]
 show aBin prog .geq _ (.int .u64 (u : Int)) (.int .u64 256) _
 refine geqK (cndI (fun h => ?_) fun h => ?_)
 ·have hd : u / 256 < 256 := by omega
  obtain ⟨t1,t2⟩ := tab8_get hd
  have hb := bl_le (u / 256) (List.mem_range.2 hd)
  show aBin prog .shr _ (.int .u64 (u : Int)) (.int .u64 ((8 : Nat) : Int)) _
  refine shrN (by decide) ?_
  show aBin prog .add 3 (vint 0) (vint 8) _
  refine addI (by decide) (cvK (wrap_u8 (by omega) (by omega)) ?_)
  refine idxS (s := tab8) (j := u / 2 ^ 8) (by kernel_rfl) t1 ?_
  rw [t2]
  refine cvK (wrap64 (by omega) (by omega)) (addI (by omega) (retL_same (by simp [unk]) ?_))
  have : lenU u = 8 + bl (u / 256) := if_pos (by omega)
  rw [this] at hK
  have e : (0 : Int) + 8 + (bl (u / 256) : Int) = ((8 + bl (u / 256) : Nat) : Int) := by omega
  rw [e]
  exact hK
 ·have hd : u < 256 := by omega
  obtain ⟨t1,t2⟩ := tab8_get hd
  have hb := bl_le u (List.mem_range.2 hd)
  show aConvI .u8 (.int .u64 (u : Int)) _
  refine cvK (wrap_u8 (by omega) (by omega)) (idxS (s := tab8) (by kernel_rfl) t1 ?_)
  rw [t2]
  refine cvK (wrap64 (by omega) (by omega)) ?_
  show aBin prog .add 3 (vint 0) (vint (bl u)) _
  refine addI (by omega) (retL_same (by simp [unk]) ?_)
  have : lenU u = bl u := if_neg (by omega)
  rw [this] at hK
  have e : (0 : Int) + (bl u : Int) = ((bl u : Nat) : Int) := by omega
  rw [e]
  exact hK
theorem good65 (hJ : Closed prog main J) {l : Nat} (hl : l ≤ 16) (hK : K (vint ((l * 78913 / 262144 : Nat) : Int)) H) : Good prog J 65 [vint l] H K := by
 refine g65 hJ fun _ => ?_
 rw [e65]
 refine mulI (by omega) ?_
 rw [show (l : Int) * 78913 = ((l * 78913 : Nat) : Int) by omega]
 show aBin prog .shr _ (.int .i64 ((l * 78913 : Nat) : Int)) (.int .u64 ((18 : Nat) : Int)) _
 exact shrN (by decide) (retL_same (by simp [unk]) hK)
theorem good67 (hJ : Closed prog main J) {p : Prop} [Decidable p] (hK : K (vint ((if p then 1 else 0 : Nat) : Int)) H) : Good prog J 67 [.bool (decide p)] H K := by
 refine g67 hJ fun _ => ?_
 rw [e67]
 refine cndI (fun h => retL_same (by simp [unk]) ?_) fun h => retL_same (by simp [unk]) ?_
 ·rw [if_pos h] at hK
  exact hK
 ·rw [if_neg h] at hK
  exact hK
theorem good62 (hJ : Closed prog main J) (hG : PowAt H) {u : Nat} (h0 : 0 < u) (hu : u < 1000) (hK : K (vint (numD u).length) H) : Good prog J 62 [.int .u64 (u : Int)] H K := by
 obtain ⟨k1,k2,k3⟩ := (nd_ok u (List.mem_range.2 hu)).resolve_left (by omega)
 refine g62 hJ fun _ => ?_
 rw [e62]
 refine good66 hJ hu (good65 hJ k1 ?_)
 show aIdxA 20 1 (gv H 1) (vint (eU u : Nat)) _
 have hg : gv H 1 = ptr 1 0 := by
  unfold gv
  rw [hG]
  rfl
 rw [hg]
 refine ⟨⟨by omega,by omega⟩,?_⟩
 refine ldT hG (v := .int .u64 ((10 ^ eU u : Nat) : Int)) ?_ rfl ?_
 ·rw [Int.toNat_natCast,Nat.zero_add,Nat.mul_one]
  exact pow10_get (by omega)
 have e : (((if (u : Int) ≥ ((10 ^ eU u : Nat) : Int) then 1 else 0 : Nat)) : Int) = ((if 10 ^ eU u ≤ u then 1 else 0 : Nat) : Int) := by
  by_cases h : 10 ^ eU u ≤ u
  ·rw [if_pos h,if_pos (Int.ofNat_le.2 h)]
  ·rw [if_neg h,if_neg (fun x => h (Int.ofNat_le.1 x))]
 have hd : (numD u).length ≤ 3 := by
  unfold numD
  split
  ·simp
  ·split <;> simp
 refine geqK (good67 hJ ?_)
 show aBin prog .add 3 (vint (eU u : Nat)) _ _
 rw [e]
 refine addI (by omega) (retL_same (by simp [unk]) ?_)
 rw [← Int.natCast_add,k3]
 exact hK
def z24 (d : List UInt8) : List Value := .int .u8 0 :: strCells d ++ List.replicate (23 - d.length) (.int .u8 0)
theorem numD_1 {u : Nat} (h : u < 10) : numD u = [digC u] := if_pos h
theorem numD_2 {u : Nat} (h1 : ¬ u < 10) (h2 : u < 100) : numD u = [digC (u / 10),digC (u % 10)] := by unfold numD; rw [if_neg h1,if_pos h2]
theorem numD_3 {u : Nat} (h2 : ¬ u < 100) : numD u = [digC (u / 100),digC (u / 10 % 10),digC (u % 10)] := by unfold numD; rw [if_neg (by omega),if_neg h2]
section
variable {F : RG} {p c nd : Nat}
theorem fb_last (ds : F.ds = []) (r0 : F.r 0 = .slice (some ⟨p,1,none⟩) nd c) {q : Nat} (hq : q < 10) (hn : 0 < nd) (r4 : F.r 4 = vint (1 : Nat)) (r12 : F.r 12 = .int .u32 (q : Int)) {cs : List Value} (hp : H[p]? = some (.cells cs true 0)) (hl : 1 < cs.length)
  (hK : ∀ H',SameX [p] H H' → H'[p]? = some (.cells (cs.set 1 (.int .u8 (digC q).toNat)) true 0) → H'.length = H.length → K (.tuple ⟨[]⟩) H') :
  W prog J 167 n0 63 (subC yp5 (codeOf f63)) F H (contX pl63 prog J 167 n0 63 ct63 yp5 (codeOf f63) [] (RetQ prog [] n0 K)) := by
 rw [s63_5]
 simp only [r0,r4,r12,ds]
 refine gtrI (cndI (fun _ => ?_) fun h => absurd (by decide : ((1 : Nat) : Int) > 0) h)
 refine addK (wrap_u32 (by omega) (by omega)) (cvK (wrap_u8 (by omega) (by omega)) (idxI ⟨by omega,by omega⟩ ?_))
 rw [← digC_nat hq]
 show aStore 1 (ptr p 1) _ H _
 exact qSt hp hl rfl rfl fun H2 S2 c2 l2 => retL_same (by simp) (hK H2 S2 c2 l2)
theorem fb_none (ds : F.ds = []) (r4 : F.r 4 = vint (0 : Nat)) (hK : K (.tuple ⟨[]⟩) H) :
  W prog J 167 n0 63 (subC yp5 (codeOf f63)) F H (contX pl63 prog J 167 n0 63 ct63 yp5 (codeOf f63) [] (RetQ prog [] n0 K)) := by
 rw [s63_5]
 simp only [r4,ds]
 exact gtrI (cndI (fun h => absurd h (by decide)) fun _ => retL_same (by simp) hK)
theorem fb_two (ds : F.ds = []) (r0 : F.r 0 = .slice (some ⟨p,1,none⟩) nd c) {u : Nat} (hu : u < 1000) (hn : nd = (numD u).length) (r4 : F.r 4 = vint (nd : Nat)) (r12 : F.r 12 = .int .u32 (u : Int)) (hp : H[p]? = some (.cells (z24 []) true 0))
  (hK : ∀ H',SameX [p] H H' → H'[p]? = some (.cells (z24 (numD u)) true 0) → H'.length = H.length → K (.tuple ⟨[]⟩) H') :
  W prog J 167 n0 63 (subC [1,1,1,1] (codeOf f63)) F H (contX pl63 prog J 167 n0 63 ct63 [1,1,1,1] (codeOf f63) [] (RetQ prog [] n0 K)) := by
 rw [s63_4]
 simp only [r0,r4,r12]
 by_cases h1 : u < 10
 ·rw [numD_1 h1] at hn hK
  subst hn
  refine geqI (cndI (fun h => absurd h (by simp)) fun _ => hold.2 ?_)
  exact fb_last (c := c) (nd := 1) ds r0 h1 (by decide) r4 r12 hp (by decide) hK
 ·have hm : u % 100 < 100 := Nat.mod_lt _ (by decide)
  obtain ⟨t1,t2⟩ := pairs_get (u % 100) (List.mem_range.2 hm)
  have hnd : 2 ≤ nd ∧ nd ≤ 3 := by
   rw [hn]
   by_cases h2 : u < 100
   ·rw [numD_2 h1 h2]
    simp
   ·rw [numD_3 h2]
    simp
  refine geqI (cndI (fun _ => ?_) fun h => absurd (by omega : (nd : Int) ≥ 2) h)
  refine remK (b := 100) (by decide) (mulK (wrap_u32 (by omega) (by omega)) (quoK (b := 100) (by omega) (by decide) ?_))
  refine subI (by omega) (subI (by omega) (addK (wrap_u32 (by omega) (by omega)) ?_))
  rw [show ((u % 100 : Nat) : Int) * 2 + 1 = ((u % 100 * 2 + 1 : Nat) : Int) by omega]
  refine idxS (s := pairs) (by kernel_rfl) t2 ?_
  rw [show ((u % 100 : Nat) : Int) * 2 = ((u % 100 * 2 : Nat) : Int) by omega]
  refine idxS (s := pairs) (by kernel_rfl) t1 ?_
  refine idxI ⟨by omega,by omega⟩ ?_
  rw [show 1 + ((nd : Int) - 1).toNat * 1 = nd by omega]
  refine qSt hp (by show nd < 24; omega) rfl rfl fun H2 S2 c2 l2 => ?_
  refine idxI ⟨by omega,by omega⟩ ?_
  rw [show 1 + ((nd : Int) - 2).toNat * 1 = nd - 1 by omega]
  refine qSt c2 (by rw [List.length_set]; show nd - 1 < 24; omega) rfl rfl fun H3 S3 c3 l3 => subI (by omega) (hold.2 ?_)
  by_cases h2 : u < 100
  ·rw [numD_2 h1 h2] at hn hK
   have hn : nd = 2 := hn
   subst hn
   refine fb_none ds rfl (hK H3 (S2.trans S3) ?_ (by omega))
   rw [c3,Nat.mod_eq_of_lt h2]
   rfl
  ·rw [numD_3 h2] at hn hK
   have hn : nd = 3 := hn
   subst hn
   refine fb_last (c := c) (nd := 3) ds r0 (q := u / 100) (by omega) (by decide) rfl rfl c3 (by simp [z24,strCells]) fun H4 S4 c4 l4 => ?_
   refine hK H4 ((S2.trans S3).trans S4) ?_ (by omega)
   rw [c4,show u % 100 % 10 = u % 10 by omega,show u % 100 / 10 = u / 10 % 10 by omega]
   rfl
end
theorem good63 (hJ : Closed prog main J) {p c u : Nat} (hu : u < 1000) (hp : H[p]? = some (.cells (z24 []) true 0))
  (hK : ∀ H',SameX [p] H H' → H'[p]? = some (.cells (z24 (numD u)) true 0) → H'.length = H.length → K (.tuple ⟨[]⟩) H') : Good prog J 63 [.slice (some ⟨p,1,none⟩) (numD u).length c,.int .u64 (u : Int)] H K := by
 have hd : (numD u).length ≤ 3 := by
  unfold numD
  split
  ·simp
  ·split <;> simp
 refine g63 hJ fun _ => ?_
 rw [e63]
 show Sem _ _ _ _ _ _ _ _
 refine l63_1 hJ (fun _ : Nat => 0) (fun _ f H' => H' = H ∧ f.ds = [] ∧ f.r 0 = .slice (some ⟨p,1,none⟩) (numD u).length c ∧ f.r 1 = .int .u64 (u : Int) ∧ f.r 4 = vint (numD u).length) ?_ (s := 0)
  (.inl ⟨rfl,rfl,rfl,rfl,rfl⟩)
 rintro s f H' ⟨rfl,ds,r0,r1,r4⟩ ok' hn'
 rw [s63_1]
 simp only [r0,r1,r4]
 refine geqI (cndI (fun h => absurd h (by omega)) fun _ => cvK (wrap_u32 (by omega) (by omega)) (geqI (cndI (fun h => absurd h (by omega)) fun _ => hold.2 ?_)))
 exact fb_two (c := c) ds r0 hu rfl r4 rfl hp hK
theorem slA1 {p nd : Nat} (h : nd ≤ 23) (hk : KV (.slice (some ⟨p,1,none⟩) nd 23)) : aSlA 24 1 (ptr p 0) (some (vint 1)) (some (vint (1 + (nd : Int)))) KV := by
 show match (bif decide ((0 : Int) ≤ 1) then some (1 : Int).toNat else none),(bif decide ((0 : Int) ≤ 1 + (nd : Int)) then some (1 + (nd : Int)).toNat else none) with
  | some l,some u => (l ≤ u ∧ u ≤ 24 ∧ 24 ≤ room) ∧ KV (.slice (some ⟨p,bif Nat.beq 24 l then 0 else 0 + l * 1,none⟩) (u - l) (24 - l))
  | _,_ => False
 rw [decide_eq_true (by omega : (0 : Int) ≤ 1 + (nd : Int)),show (1 + (nd : Int)).toNat = nd + 1 by omega]
 exact ⟨⟨by show 1 ≤ nd + 1; omega,by omega,by decide⟩,hk⟩
theorem slA0 {p nd : Nat} (h : nd ≤ 23) (hk : KV (.slice (some ⟨p,0,none⟩) (nd + 1) 24)) : aSlA 24 1 (ptr p 0) none (some (vint (1 + (nd : Int)))) KV := by
 show match some 0,(bif decide ((0 : Int) ≤ 1 + (nd : Int)) then some (1 + (nd : Int)).toNat else none) with
  | some l,some u => (l ≤ u ∧ u ≤ 24 ∧ 24 ≤ room) ∧ KV (.slice (some ⟨p,bif Nat.beq 24 l then 0 else 0 + l * 1,none⟩) (u - l) (24 - l))
  | _,_ => False
 rw [decide_eq_true (by omega : (0 : Int) ≤ 1 + (nd : Int)),show (1 + (nd : Int)).toNat = nd + 1 by omega]
 exact ⟨⟨by omega,by omega,by decide⟩,hk⟩
theorem b2sS {p o n c : Nat} {cs : List Value} {wr : Bool} {sz : Nat} {bs : List UInt8} (hp : H[p]? = some (.cells cs wr sz)) (hn : o + n ≤ cs.length) (hb : (cs.drop o).take n = strCells bs) (hk : KV (strV bs)) : aB2S (.slice (some ⟨p,o,none⟩) n c) H KV := by
 show match H[p]? with
  | some (.cells c _ _) => o + n ≤ c.length ∧ match bytesOf ((c.drop o).take n) with
   | some bs => KV (.string ⟨⟨bs⟩⟩)
   | none => False
  | _ => False
 rw [hp]
 simp only
 rw [hb,strCells_bytes]
 exact ⟨hn,hk⟩
theorem z24_len {d : List UInt8} (h : d.length ≤ 23) : (z24 d).length = 24 := by
 simp [z24,strCells]
 omega
theorem z24_part {d : List UInt8} : ((z24 d).drop 1).take d.length = strCells d := by
 unfold z24
 rw [List.cons_append,List.drop_one,List.tail_cons,List.take_left' (strCells_len d)]
theorem z24_neg {d : List UInt8} : (((z24 d).set 0 (.int .u8 45)).drop 0).take (d.length + 1) = strCells (45 :: d) := by
 unfold z24
 rw [List.cons_append,List.set_cons_zero,List.drop_zero,List.take_succ_cons,List.take_left' (strCells_len d)]
 rfl
theorem numD_len (u : Nat) : 0 < (numD u).length ∧ (numD u).length ≤ 3 := by
 unfold numD
 split
 ·simp
 ·split <;> simp
theorem good61 (hJ : Closed prog main J) {n : Nat} (hn : n < 100) (hK : K (strV (numD n)) H) : Good prog J 61 [vint n] H K := by
 have slC : ∀ {s u : List UInt8} {lo hi : Int} {KV : Value → Prop},(0 ≤ lo ∧ lo ≤ hi ∧ hi ≤ s.length) → (s.take hi.toNat).drop lo.toNat = u → KV (strV u) → aSlStr (strV s) (some (vint lo)) (some (vint hi)) KV := fun {s u lo hi KV} h hu hk => by
  subst hu
  show match (bif decide ((0 : Int) ≤ lo) then some lo.toNat else none),(bif decide ((0 : Int) ≤ hi) then some hi.toNat else none) with
   | some l,some u => (l ≤ u ∧ u ≤ s.length) ∧ KV (.string ⟨⟨(s.take u).drop l⟩⟩)
   | _,_ => False
  rw [decide_eq_true h.1,decide_eq_true (by omega : (0 : Int) ≤ hi),cond_true,cond_true]
  exact ⟨⟨by omega,by omega⟩,hk⟩
 have form : W prog J 15 H.length 61 (codeOf f61) (RG.mk (regs [vint n]) []) H (RetQ prog [.tmp 2] H.length K) =
  aBin prog .lss 3 (vint n) (vint 10) fun v1 => cnd v1 (aBin prog .add 3 (vint n) (vint 1) fun v2 => aSlStr (strV digs) (some (vint n)) (some v2) fun v3 => retL H.length K [] [v3] H)
   (aBin prog .mul 3 (vint n) (vint 2) fun v4 => aBin prog .mul 3 (vint n) (vint 2) fun v5 => aBin prog .add 3 v5 (vint 2) fun v6 => aSlStr (strV pairs) (some v4) (some v6) fun v7 => retL H.length K [] [v7] H) := by
  rw [e61]
  kernel_rfl
 refine g61 hJ fun _ => ?_
 rw [form]
 refine lssI (cndI (fun h => ?_) fun h => ?_)
 ·have h10 : n < 10 := by omega
  refine addI (by omega) (slC (u := numD n) (by rw [show digs.length = 36 from rfl]; omega) ?_ (retL_same (by simp [unk,strV]) hK))
  have := digs_num n (List.mem_range.2 h10)
  rw [show ((n : Int) + 1).toNat = n + 1 by omega,show ((n : Int)).toNat = n by omega]
  exact this
 ·have h10 : ¬ n < 10 := by omega
  refine mulI (by omega) (mulI (by omega) (addI (by omega) (slC (u := numD n) (by rw [pairs_len]; omega) ?_ (retL_same (by simp [unk,strV]) hK))))
  have := (pairs_num n (List.mem_range.2 hn)).resolve_left h10
  rw [show ((n : Int) * 2 + 2).toNat = n * 2 + 2 by omega,show ((n : Int) * 2).toNat = n * 2 by omega]
  exact this
section
variable {F : RG} {p : Nat}
theorem fm_end (hJ : Closed prog main J) (hG : PowAt h) {ok : heapOk h} (S : SameX [] h H) (hn0 : n0 ≤ h.length) (hpn : h.length ≤ p) (ds : F.ds = []) {n : Int} (hn : -1000 < n ∧ n < 1000 ∧ n ≠ 0) (r0 : F.r 0 = vint n) (r5 : F.r 5 = ptr p 0) (r6 : F.r 6 = .int .u64 (n.natAbs : Int)) (hp : H[p]? = some (.cells (z24 []) true 0)) (hK : K (strV (itoaB n)) h) :
  W prog J 54 n0 58 (subC yp17 (codeOf f58)) F H (contX pl58 prog J 54 n0 58 ct58 yp17 (codeOf f58) [] (RetQ prog [.tmp 4] n0 K)) := by
 have hu : n.natAbs < 1000 := by omega
 obtain ⟨d1,d2⟩ := numD_len n.natAbs
 rw [s58_2]
 simp only [r0,r5,r6]
 refine good62 hJ (S.get hG (by simp)) (by omega) hu (addI (by omega) (slA1 (by omega) (good63 hJ hu hp fun H2 S2 c2 l2 => ?_)))
 have T2 : SameX [] h H2 := S.thru S2 fun y hy => .inr (by simp at hy; omega)
 refine lssI (cndI (fun hneg => ?_) fun hpos => ?_)
 ·refine (show ∀ {KV : Value → Prop},KV (ptr p 0) → aIdxA 24 1 (ptr p 0) (vint 0) KV from fun {KV} hk => ⟨⟨by decide,by decide⟩,hk⟩) ?_
  refine qSt c2 (by rw [z24_len (by omega)]; decide) rfl rfl fun H3 S3 c3 l3 => addI (by omega) (slA0 (by omega) ?_)
  refine b2sS c3 (by rw [List.length_set,z24_len (by omega)]; omega) z24_neg ?_
  rw [ds]
  refine retX (X := []) ok hn0 (T2.thru S3 fun y hy => .inr (by simp at hy; omega)) (by simp) (by simp [unk,strV]) (by simp [pack,VOk,strV]) ?_
  have : itoaB n = 45 :: numD n.natAbs := if_pos hneg
  rw [this] at hK
  exact hK
 ·refine addI (by omega) (slA1 (by omega) (b2sS c2 (by rw [z24_len (by omega)]; omega) z24_part ?_))
  rw [ds]
  refine retX (X := []) ok hn0 T2 (by simp) (by simp [unk,strV]) (by simp [pack,VOk,strV]) ?_
  have : itoaB n = numD n.natAbs := if_neg hpos
  rw [this] at hK
  exact hK
end
theorem fm_join (hJ : Closed prog main J) (hG : PowAt H) (ok : heapOk H) {F : RG} (ds : F.ds = []) {n : Int} (hn : -1000 < n ∧ n < 1000) (r0 : F.r 0 = vint n) {b : Bool} (r17 : F.r 17 = .bool b) (hb : b = true ↔ (0 ≤ n ∧ n < 100)) (hK : K (strV (itoaB n)) H) :
  W prog J 54 H.length 58 (subC [1,0,1,0,0,1] (codeOf f58)) F H (contX pl58 prog J 54 H.length 58 ct58 [1,0,1,0,0,1] (codeOf f58) [] (RetQ prog [.tmp 4] H.length K)) := by
 rw [s58_1]
 simp only [r0,r17]
 cases b with
 | true =>
  obtain ⟨h0,h1⟩ := hb.1 rfl
  refine cnd_true.2 ?_
  have e : n = ((n.natAbs : Nat) : Int) := by omega
  have hi : itoaB n = numD n.natAbs := if_neg (by omega)
  rw [hi] at hK
  rw [e]
  refine good61 hJ (by omega) ?_
  rw [ds]
  exact retL_same (by simp [unk,strV]) hK
 | false =>
  have hbig : n < 0 ∨ 100 ≤ n := by
   rcases Int.lt_or_le n 0 with h | h
   ·exact .inl h
   ·rcases Int.lt_or_le n 100 with h2 | h2
    ·exact absurd (hb.2 ⟨h,h2⟩) (by simp)
    ·exact .inr h2
  refine cnd_false.2 (qAl fun H2 p e2 S2 c2 l2 => ?_)
  by_cases hneg : n < 0
  ·have hw : IntKind.u64.wrap n = 18446744073709551616 + n := by
    simp only [IntKind.wrap,IntKind.bits,IntKind.signed]
    simp
    omega
   have hw2 : IntKind.u64.wrap (-(18446744073709551616 + n)) = (n.natAbs : Int) := by
    simp only [IntKind.wrap,IntKind.bits,IntKind.signed]
    simp
    omega
   refine (show ∀ {KV : Value → Prop},KV (.int .u64 (18446744073709551616 + n)) → aConvI .u64 (vint n) KV from fun {KV} hk => by
    show KV (.int .u64 (IntKind.u64.wrap n))
    rw [hw]
    exact hk) ?_
   refine lssI (cndI (fun _ => ?_) fun h => absurd hneg h)
   refine (show ∀ {KV : Value → Prop},KV (.int .u64 (n.natAbs : Int)) → aUn .neg (.int .u64 (18446744073709551616 + n)) KV from fun {KV} hk => by
    show KV (.int .u64 (IntKind.u64.wrap (-(18446744073709551616 + n))))
    rw [hw2]
    exact hk) ?_
   exact hold.2 (fm_end hJ hG (ok := ok) S2 (Nat.le_refl _) (by omega) ds (by omega) (by exact r0) rfl rfl c2 hK)
  ·refine cvK (wrap_u64 (by omega) (by omega)) (lssI (cndI (fun h => absurd h hneg) fun _ => hold.2 ?_))
   refine fm_end hJ hG (ok := ok) S2 (Nat.le_refl _) (by omega) ds (by omega) (by exact r0) rfl ?_ c2 hK
   show Value.int .u64 n = .int .u64 (n.natAbs : Int)
   congr 1
   omega
theorem good58 (hJ : Closed prog main J) (hG : PowAt H) {n : Int} (hn : -1000 < n ∧ n < 1000) (hK : K (strV (itoaB n)) H) : Good prog J 58 [vint n,vint 10] H K := by
 refine g58 hJ fun ok => ?_
 rw [e58]
 refine eqlI (cndI (fun _ => leqI (cndI (fun h0 => lssI (hold.2 ?_)) fun h0 => hold.2 ?_)) fun h => absurd rfl h)
 ·exact fm_join hJ hG ok rfl hn rfl (b := decide (n < 100)) rfl (by simp; omega) hK
 ·exact fm_join hJ hG ok rfl hn rfl (b := false) rfl (by simp; omega) hK
theorem good50 (hJ : Closed prog main J) (hG : PowAt H) {n : Int} (hn : -1000 < n ∧ n < 1000) (hK : K (strV (itoaB n)) H) : Good prog J 50 [vint n] H K := by
 refine g50 hJ fun _ => ?_
 rw [e50]
 refine g55 hJ fun _ => ?_
 rw [e55]
 refine good58 hJ hG hn ?_
 refine retL_same (by simp [unk,strV]) ?_
 exact retL_same (by simp [unk,strV,pack]) hK
end
def lineB (a : List UInt8) (l : List (List UInt8)) : List UInt8 := joinR [32] a l ++ [10]
def namedB (w : List UInt8) (n : Int) : List UInt8 := (w ++ [61]) ++ itoaB n
def spanB (w : List UInt8) (r : Rng) : List UInt8 := (namedB w r.lo ++ [46,46]) ++ itoaB r.hi
def wGates : List UInt8 := [103,97,116,101,115]
def wFirst : List UInt8 := [102,105,114,115,116]
def wLost : List UInt8 := [108,111,115,116]
def wChange : List UInt8 := [99,104,97,110,103,101]
def wCount : List UInt8 := [99,111,117,110,116]
def wGate : List UInt8 := [103,97,116,101]
def wMan : List UInt8 := [109,97,110]
def wNumber : List UInt8 := [110,117,109,98,101,114]
def wErr : List UInt8 := [101,114,114]
def wTallied : List UInt8 := [116,97,108,108,105,101,100]
def headB (t : Tal) : List UInt8 := lineB (namedB wGates t.gates) [spanB wFirst t.first,namedB wLost t.most]
def changeB (r : Rng) : List UInt8 := lineB (spanB wChange r) []
def countB (c : Cnt) : List UInt8 := lineB wCount [namedB wGate c.gate,namedB wMan c.man,namedB wNumber c.num,namedB wErr c.err]
def writeB (t : Tal) : List UInt8 := ((headB t ++ t.changes.flatMap changeB) ++ t.counts.flatMap countB) ++ lineB wTallied []
theorem w_lens : wGates.length = 5 ∧ wFirst.length = 5 ∧ wLost.length = 4 ∧ wChange.length = 6 ∧ wCount.length = 5 ∧ wGate.length = 4 ∧ wMan.length = 3 ∧ wNumber.length = 6 ∧ wErr.length = 3 ∧ wTallied.length = 7 := ⟨rfl,rfl,rfl,rfl,rfl,rfl,rfl,rfl,rfl,rfl⟩
theorem itoaB_len (n : Int) : (itoaB n).length ≤ 4 := by
 have h := numD_len n.natAbs
 unfold itoaB
 split
 ·simp only [List.length_cons]; omega
 ·omega
theorem namedB_len (w : List UInt8) (n : Int) : (namedB w n).length ≤ w.length + 5 := by
 have := itoaB_len n
 simp only [namedB,List.length_append,List.length_cons,List.length_nil]
 omega
theorem spanB_len (w : List UInt8) (r : Rng) : (spanB w r).length ≤ w.length + 11 := by
 have := itoaB_len r.hi
 have := namedB_len w r.lo
 simp only [spanB,List.length_append,List.length_cons,List.length_nil]
 omega
theorem joinR_len (sep a : List UInt8) (l : List (List UInt8)) : (joinR sep a l).length = a.length + (sep.length * l.length + lenJ l) := by
 unfold joinR
 rw [List.length_append,lenJ_flat]
theorem changeB_len (r : Rng) : (changeB r).length ≤ 30 := by
 have := spanB_len wChange r
 simp only [changeB,lineB,List.length_append,joinR_len,lenJ,List.map_nil,List.sum_nil,List.length_cons,List.length_nil]
 have := w_lens
 omega
theorem countB_len (c : Cnt) : (countB c).length ≤ 80 := by
 have h1 := namedB_len wGate c.gate
 have h2 := namedB_len wMan c.man
 have h3 := namedB_len wNumber c.num
 have h4 := namedB_len wErr c.err
 simp only [countB,lineB,List.length_append,joinR_len,lenJ,List.map_cons,List.map_nil,List.sum_cons,List.sum_nil,List.length_cons,List.length_nil]
 have := w_lens
 omega
theorem headB_len (t : Tal) : (headB t).length ≤ 80 := by
 have h1 := namedB_len wGates t.gates
 have h2 := spanB_len wFirst t.first
 have h3 := namedB_len wLost t.most
 simp only [headB,lineB,List.length_append,joinR_len,lenJ,List.map_cons,List.map_nil,List.sum_cons,List.sum_nil,List.length_cons,List.length_nil]
 have := w_lens
 omega
theorem flat_len {α : Type} {f : α → List UInt8} {B : Nat} (hf : ∀ x,(f x).length ≤ B) : ∀ l : List α,(l.flatMap f).length ≤ B * l.length
 | [] => by simp
 | a :: l => by
  have := flat_len hf l
  have := hf a
  simp only [List.flatMap_cons,List.length_append,List.length_cons,Nat.mul_succ]
  omega
section
variable {main : Bool} {J : JT} {h H : List AObj} {K : Value → List AObj → Prop} {KV : Value → Prop} {HL : List AObj → Prop} {n0 : Nat}
theorem fillO {m : List Value} {o s : Nat} {v : Value} {l : List Value} {ps : List (Nat × Nat × Value)} {KL : List Value → Prop} (hv : v.cells.toList = l) (hs : l.length = s) (ho : l.all one = true) (hl : o + s ≤ m.length) (hk : aFill (wrAt m o l) ps KL) : aFill m ((o,s,v) :: ps) KL := by
 subst hv
 exact ⟨hs,ho,hl,hk⟩
theorem idx_loadA {α : Type} {v : Value} {s : Nat} {enc : α → List Value} {xs : List α} (hs : SliE H v s enc xs) (hen : ∀ x,(enc x).length = s) (hpos : 0 < s) {i : Nat} (hi : i < xs.length) {K : Value → Value → Prop} (hk : ∀ p,K p (.agg ⟨enc xs[i]⟩)) : aIdx s v (vint i) fun p => aLoad true s p H (K p) := by
 obtain ⟨b,o,cs,wr,sz,hidx,hb,hle,hpart,hkn⟩ := sliE_elem hen hpos hs hi
 exact hidx _ (load_part hb hle hpart hkn (hk _))
theorem catC {t : TypeId} {u v : List UInt8} (hl : u.length + v.length ≤ 1000000) (hk : KV (strV (u ++ v))) : aBin prog .add t (strV u) (strV v) KV := by
 have hrm : (2000000 : Nat) < room := by decide
 show (ByteArray.mk ⟨u⟩).size + (ByteArray.mk ⟨v⟩).size ≤ room ∧ KV (.string (ByteArray.mk ⟨u⟩ ++ ByteArray.mk ⟨v⟩))
 have e1 : (ByteArray.mk ⟨v⟩).size = v.length := rfl
 have e2 : (ByteArray.mk ⟨u⟩).size = u.length := rfl
 have e3 : ByteArray.mk ⟨u⟩ ++ ByteArray.mk ⟨v⟩ = ByteArray.mk ⟨u ++ v⟩ := by
  apply ByteArray.ext
  rw [ByteArray.data_append]
  apply Array.ext'
  rw [Array.toList_append]
 rw [e1,e2,e3]
 exact ⟨by omega,hk⟩
theorem good49one (hJ : Closed prog main J) {q : Nat} {wr : Bool} {sz : Nat} {sep a : List UInt8} (hq : H[q]? = some (.cells [strV a] wr sz)) (hK : K (strV a) H) : Good prog J 49 [.slice (some ⟨q,0,none⟩) 1 1,strV sep] H K := by
 refine g49 hJ fun ok => ?_
 rw [e49]
 have sl : Sli H (.slice (some ⟨q,0,none⟩) 1 1) 1 1 [strV a] := sli_new hq (by simp) rfl
 refine lenI sl (eqlI (cndI (fun h => absurd h (by decide)) fun _ => eqlI (cndI (fun _ => ?_) fun h => absurd rfl h)))
 exact idx_load (x := strV a) sl (by decide) rfl fun pv => retL_same (by simp [unk,strV]) hK
theorem good33 (hJ : Closed prog main J) {q n : Nat} {wr : Bool} {sz : Nat} {a : List UInt8} {l : List (List UInt8)} (hq : H[q]? = some (.cells ((a :: l).map strV) wr sz)) (hn : n = l.length + 1) (h2 : l.length ≤ 5) (hl : a.length + lenJ l ≤ 3000)
  (hK : K (strV (lineB a l)) H) : Good prog J 33 [.slice (some ⟨q,0,none⟩) n n] H K := by
 refine g33 hJ fun ok => ?_
 rw [e33]
 have fin : ∀ {v : Value},v = strV (joinR [32] a l) → aBin prog .add 9 v (strV [10]) fun v3 => retL H.length K [] [v3] H := by
  rintro v rfl
  refine catC ?_ (retL_same (by simp [unk,strV]) hK)
  rw [joinR_len]
  simp only [List.length_cons,List.length_nil]
  omega
 subst hn
 cases l with
 | nil => exact good49one hJ (sep := [32]) hq (fin (by simp [joinR]))
 | cons b l => exact good49 hJ (sep := [32]) hq rfl (by simp) (by omega) (by simp) (by omega) (fin rfl)
theorem good34 (hJ : Closed prog main J) (hG : PowAt H) {w : List UInt8} {n : Int} (hn : -1000 < n ∧ n < 1000) (hw : w.length ≤ 100) (hK : K (strV (namedB w n)) H) : Good prog J 34 [strV w,vint n] H K := by
 refine g34 hJ fun ok => ?_
 rw [e34]
 have := itoaB_len n
 refine catC (u := w) (v := [61]) (by simp; omega) (good50 hJ hG hn (catC (by simp; omega) (retL_same (by simp [unk,strV]) hK)))
theorem good35 (hJ : Closed prog main J) (hG : PowAt H) {w : List UInt8} {r : Rng} (hn : (-1000 < r.lo ∧ r.lo < 1000) ∧ -1000 < r.hi ∧ r.hi < 1000) (hw : w.length ≤ 100) (hK : K (strV (spanB w r)) H) : Good prog J 35 [strV w,r.val] H K := by
 refine g35 hJ fun ok => ?_
 rw [e35]
 have := itoaB_len r.hi
 have := namedB_len w r.lo
 refine qBox (l := r.cells) rfl fun H2 p e2 S2 c2 l2 => ?_
 refine ⟨[p],offI (ldI c2 rfl rfl ⟨by simp [ptrBlk,RdOk],offI (ldI c2 rfl rfl ⟨by simp [ptrBlk,RdOk],?_⟩)⟩)⟩
 refine good34 hJ (S2.get hG (by simp)) hn.1 hw ⟨fun _ _ => rfl,catC (u := namedB w r.lo) (v := [46,46]) (by simp; omega) (good50 hJ (S2.get hG (by simp)) hn.2 ⟨fun _ _ => rfl,?_⟩)⟩
 refine catC (by simp; omega) (retX (X := []) ok (Nat.le_refl _) S2 (by simp) (by simp [unk,strV]) (by simp [pack,VOk,strV]) hK)
theorem SameX.newB {X : List Nat} {H H2 H3 : List AObj} (a : SameX [] H H2) (b : SameX X H2 H3) (hX : ∀ x ∈ X,H.length ≤ x) : SameX [] H H3 := a.thru b fun y hy => .inr (hX y hy)
theorem sb0 {p : Nat} {H H2 : List AObj} (S : SameX [] H H2) (hp : p < H.length) : SameB (some [p]) H H2 := fun b hb => by
 simp at hb
 subst hb
 exact S.2 _ hp (by simp)
theorem good18 (hJ : Closed prog main J) (hG : PowAt H) {v cv nv : Value} {t : Tal} (ht : TalAt H v t cv nv) (k1 : talErr t ≠ 0 → K (.tuple ⟨[strV [],vint (talErr t)]⟩) H) (k2 : talErr t = 0 → K (.tuple ⟨[strV (writeB t),vint 0]⟩) H) : Good prog J 18 [v] H K := by
 refine g18 hJ fun ok => ?_
 rw [e18,ht.val]
 have kt := talAt_kc ht
 refine qBox (tal_one ht) fun H1 p1 e1 S1 c1 l1 => ?_
 have t1 : TalAt H1 (.agg ⟨talCells t cv nv⟩) t cv nv := ⟨rfl,S1.sli ht.ch (by simp),S1.sli ht.co (by simp)⟩
 refine load_part (c := talCells t cv nv) c1 (by rw [cs_val]; omega) rfl kt ?_
 refine good6 hJ t1 (neqI (cndI (fun hne => ?_) fun heq => ?_))
 ·exact retX (X := []) ok (Nat.le_refl _) S1 (by simp) (by simp [unk,strV]) (by simp [pack,VOk,AOk,LOk,strV]) (k1 hne)
 have h0 : talErr t = 0 := by omega
 have fine := talErr_fine h0
 have hk2 := k2 h0
 have hgt := fine.gates
 have hfi := fine.first
 have hmo := fine.most
 have hfew := fine.few
 have hch : t.changes.length ≤ 4 := by have := fine.chl; omega
 have hp1 : p1 < H1.length := by omega
 have hG1 : PowAt H1 := S1.get hG (by simp)
 have kcv : kn1 cv = true := (sli_one ht.ch).2.2
 have knv : kn1 nv = true := (sli_one ht.co).2.2
 refine ⟨[p1],offI (ldI c1 rfl rfl ⟨by simp [ptrBlk,RdOk],offI (load_part (c := t.first.cells) c1 (by rw [cs_val]; omega) rfl rfl ⟨by simp [ptrBlk,RdOk],offI (ldI c1 rfl rfl ⟨by simp [ptrBlk,RdOk],?_⟩)⟩)⟩)⟩
 refine good34 hJ hG1 (w := wGates) (by omega) (by decide) ⟨fun _ _ => rfl,?_⟩
 refine good35 hJ hG1 (w := wFirst) (r := t.first) (by omega) (by decide) ⟨fun _ _ => rfl,?_⟩
 refine good34 hJ hG1 (w := wLost) (by omega) (by decide) ⟨fun _ _ => rfl,?_⟩
 refine ⟨⟨by decide,by decide,rfl⟩,?_⟩
 have n1 := namedB_len wGates t.gates
 have n2 := spanB_len wFirst t.first
 have n3 := namedB_len wLost t.most
 refine fillO (l := [strV (namedB wGates t.gates)]) rfl rfl rfl (by decide) (fillO (l := [strV (spanB wFirst t.first)]) rfl rfl rfl (by simp [wrAt,zrep]) (fillO (l := [strV (namedB wLost t.most)]) rfl rfl rfl (by simp [wrAt,zrep]) (fillI ?_)))
 refine qNew fun H2 p2 e2 S2 c2 l2 => ⟨sb0 S2 hp1,?_⟩
 refine good33 hJ (a := namedB wGates t.gates) (l := [spanB wFirst t.first,namedB wLost t.most]) c2 rfl (by simp) (by
  simp only [lenJ,List.map_cons,List.map_nil,List.sum_cons,List.sum_nil]
  have := w_lens
  omega) ⟨sb0 S2 hp1,?_⟩
 have T2 : SameX [] H H2 := S1.newB S2 (by simp)
 have c2' := S2.get c1 (by simp)
 refine offI (ldI c2' rfl kcv ?_)
 have ch2 := T2.sli ht.ch (by simp)
 refine lenI ch2 ?_
 refine l18_1 hJ (fun k : Nat => t.changes.length - k) (fun k f H3 => k ≤ t.changes.length ∧ SameX [] H H3 ∧ H.length ≤ p1 ∧ p1 < H3.length ∧ H3[p1]? = some (.cells (talCells t cv nv) true 0) ∧ f.ds = [] ∧ f.r 1 = ptr p1 0 ∧ f.r 5 = strV (headB t ++ (t.changes.take k).flatMap changeB) ∧ f.r 27 = cv ∧ f.r 28 = vint (t.changes.length : Nat) ∧ f.r 29 = vint (k : Nat)) ?_ (s := 0)
  (.inl ⟨by omega,T2,by omega,by omega,c2',rfl,rfl,by simp [headB]; rfl,rfl,rfl,rfl⟩)
 rintro k f H3 ⟨hk,T3,hp,hp3,c3,ds,r1,r5,r27,r28,r29⟩ ok3 hn3
 rw [s18_1]
 simp only [r1,r5,r27,r28,r29]
 have hG3 : PowAt H3 := T3.get hG (by simp)
 have hbk : (headB t ++ (t.changes.take k).flatMap changeB).length ≤ 300 := by
  have a1 := headB_len t
  have a2 := flat_len changeB_len (t.changes.take k)
  rw [List.length_append]
  have : (t.changes.take k).length ≤ 4 := by rw [List.length_take]; omega
  omega
 refine lssI (cndI (fun hlt => ?_) fun hge => ?_)
 ·have hi : k < t.changes.length := by omega
  have fr := fine.ch _ (List.getElem_mem hi)
  refine idx_loadA (enc := Rng.cells) (s := 2) (T3.sli ht.ch (by simp)) (fun r => rng_len r) (by decide) hi (fun pv => ?_)
  refine qAl fun H4 p4 e4 S4 c4 l4 => ?_
  refine qStA c4 rfl rfl rfl fun H5 S5 c5 l5 => ?_
  refine load_part (c := (t.changes[k]).cells) c5 (by rw [rng_len]; omega) rfl rfl ?_
  have T5 : SameX [] H H5 := (T3.newB S4 (by simp)).newB S5 (by simp; have := T3.1; omega)
  have hp1n : p1 ≠ p4 := by omega
  refine good35 hJ (T5.get hG (by simp)) (w := wChange) (r := t.changes[k]) (by omega) (by decide) ?_
  have n4 := spanB_len wChange t.changes[k]
  have wl := w_lens
  refine ⟨⟨by decide,by decide,rfl⟩,fillO (l := [strV (spanB wChange t.changes[k])]) rfl rfl rfl (by decide) (fillI (qNew fun H6 p6 e6 S6 c6 l6 => ?_))⟩
  refine good33 hJ (a := spanB wChange t.changes[k]) (l := []) c6 rfl (by simp) (by simp [lenJ]; omega) ?_
  have n5 := changeB_len t.changes[k]
  refine catC (by show _ + (changeB t.changes[k]).length ≤ _; omega) (addI (by omega) ?_)
  refine ⟨k + 1,by dsimp only; omega,.inl ⟨by omega,T5.newB S6 (by simp),hp,by omega,?_,ds,r1,?_,r27,r28,by show vint _ = vint _; congr 1⟩⟩
  ·exact S6.get (S5.get (S4.get c3 (by simp)) (by simpa using hp1n)) (by simp)
  ·show strV _ = strV _
   rw [List.take_add_one,List.getElem?_eq_getElem hi,Option.toList_some,List.flatMap_append,← List.append_assoc]
   simp [changeB]
 ·have hke : k = t.changes.length := by omega
  subst hke
  rw [List.take_length] at hbk r5
  refine offI (ldI c3 rfl knv ?_)
  refine lenI (T3.sli ht.co (by simp)) ?_
  refine l18_2 hJ (fun k : Nat => t.counts.length - k) (fun k f H3 => k ≤ t.counts.length ∧ SameX [] H H3 ∧ f.ds = [] ∧ f.r 5 = strV ((headB t ++ t.changes.flatMap changeB) ++ (t.counts.take k).flatMap countB) ∧ f.r 41 = nv ∧ f.r 42 = vint (t.counts.length : Nat) ∧ f.r 43 = vint (k : Nat)) ?_ (s := 0)
   (.inl ⟨by omega,T3,ds,by simp; exact r5,rfl,rfl,rfl⟩)
  rintro k f' H4 ⟨hk4,T4,ds4,q5,q41,q42,q43⟩ ok4 hn4
  rw [s18_2]
  simp only [q5,q41,q42,q43]
  have hbc : ((headB t ++ t.changes.flatMap changeB) ++ (t.counts.take k).flatMap countB).length ≤ 2000 := by
   have a2 := flat_len countB_len (t.counts.take k)
   rw [List.length_append]
   have : (t.counts.take k).length ≤ 7 := by rw [List.length_take]; omega
   omega
  refine lssI (cndI (fun hlt => ?_) fun hge => ?_)
  ·have hi : k < t.counts.length := by omega
   obtain ⟨f1,f2,f3,f4⟩ := fine.co _ (List.getElem_mem hi)
   refine idx_loadA (enc := Cnt.cells) (s := 4) (T4.sli ht.co (by simp)) (fun r => cnt_len r) (by decide) hi (fun pv => ?_)
   refine qAl fun H5 p5 e5 S5 c5 l5 => ?_
   refine qStA c5 rfl rfl rfl fun H6 S6 c6 l6 => ?_
   have T6 : SameX [] H H6 := (T4.newB S5 (by simp)).newB S6 (by simp; have := T4.1; omega)
   have hG6 : PowAt H6 := T6.get hG (by simp)
   have hp6 : p5 < H6.length := by omega
   generalize hc : t.counts[k] = c at c6 f1 f2 f3 f4 ⊢
   refine ⟨[p5],offI (ldI c6 rfl rfl ⟨by simp [ptrBlk,RdOk],offI (ldI c6 rfl rfl ⟨by simp [ptrBlk,RdOk],offI (ldI c6 rfl rfl ⟨by simp [ptrBlk,RdOk],offI (ldI c6 rfl rfl ⟨by simp [ptrBlk,RdOk],?_⟩)⟩)⟩)⟩)⟩
   refine good34 hJ hG6 (w := wGate) (by omega) (by decide) ⟨fun _ _ => rfl,?_⟩
   refine good34 hJ hG6 (w := wMan) (by omega) (by decide) ⟨fun _ _ => rfl,?_⟩
   refine good34 hJ hG6 (w := wNumber) (by omega) (by decide) ⟨fun _ _ => rfl,?_⟩
   refine good34 hJ hG6 (w := wErr) (by omega) (by decide) ⟨fun _ _ => rfl,?_⟩
   have m1 := namedB_len wGate c.gate
   have m2 := namedB_len wMan c.man
   have m3 := namedB_len wNumber c.num
   have m4 := namedB_len wErr c.err
   have wl := w_lens
   refine ⟨⟨by decide,by decide,rfl⟩,fillO (l := [strV wCount]) rfl rfl rfl (by decide) (fillO (l := [strV (namedB wGate c.gate)]) rfl rfl rfl (by simp [wrAt,zrep]) (fillO (l := [strV (namedB wMan c.man)]) rfl rfl rfl (by simp [wrAt,zrep]) (fillO (l := [strV (namedB wNumber c.num)]) rfl rfl rfl (by simp [wrAt,zrep]) (fillO (l := [strV (namedB wErr c.err)]) rfl rfl rfl (by simp [wrAt,zrep]) (fillI (qNew fun H7 p7 e7 S7 c7 l7 => ⟨sb0 S7 hp6,?_⟩))))))⟩
   refine good33 hJ (a := wCount) (l := [namedB wGate c.gate,namedB wMan c.man,namedB wNumber c.num,namedB wErr c.err]) c7 rfl (by simp) (by
    simp only [lenJ,List.map_cons,List.map_nil,List.sum_cons,List.sum_nil]
    omega) ⟨sb0 S7 hp6,?_⟩
   have m5 := countB_len c
   refine catC (by show _ + (countB c).length ≤ _; omega) (addI (by omega) ?_)
   refine ⟨k + 1,by dsimp only; omega,.inl ⟨by omega,T6.newB S7 (by simp),ds4,?_,q41,q42,by show vint _ = vint _; congr 1⟩⟩
   show strV _ = strV _
   rw [List.take_add_one,List.getElem?_eq_getElem hi,hc,Option.toList_some,List.flatMap_append,← List.append_assoc]
   simp [countB]
  ·have hke : k = t.counts.length := by omega
   subst hke
   rw [List.take_length] at hbc ⊢
   refine ⟨⟨by decide,by decide,rfl⟩,fillO (l := [strV wTallied]) rfl rfl rfl (by decide) (fillI (qNew fun H5 p5 e5 S5 c5 l5 => ?_))⟩
   refine good33 hJ (a := wTallied) (l := []) c5 rfl (by simp) (by simp [lenJ,wTallied]) ?_
   refine catC (by
    have : (lineB wTallied []).length = 8 := rfl
    omega) ?_
   rw [ds4]
   exact retX (X := []) ok (Nat.le_refl _) (T4.newB S5 (by simp)) (by simp) (by simp [unk,strV]) (by simp [pack,VOk,AOk,LOk,strV]) hk2
end
def exN (n e : Int) : Tal := ⟨3,⟨100,104⟩,[⟨0,2⟩,⟨-3,-1⟩],4,[⟨0,1,102,0⟩,⟨1,2,n,e⟩,⟨2,1,95,2⟩]⟩
def exT : Tal := exN 100 1
def exG : Tal := { exT with gates := 4 }
def exM : Tal := { exT with counts := [⟨0,0,102,0⟩,⟨1,2,100,1⟩,⟨2,1,95,2⟩] }
def exO : Tal := { exT with first := ⟨104,100⟩ }
def exL : Tal := { exT with counts := [⟨0,1,102,0⟩] }
def truthL (t : Tal) (L : Nat → Rng) : Bool := (List.range t.gates.toNat).all fun g => decide ((fwd t L g).lo ≤ (fwd t L g).hi)
theorem truthL_iff {t : Tal} {L : Nat → Rng} : TruthIs t L ↔ truthL t L = true := by
 unfold TruthIs truthL
 rw [List.all_eq_true]
 constructor
 ·intro h g hg
  have := List.mem_range.1 hg
  exact decide_eq_true (h g (by omega))
 ·intro h g hg
  exact of_decide_eq_true (h g (List.mem_range.2 (by omega)))
def truthB (t : Tal) (u : Int) : Bool := truthL t (limN u t.counts t.counts.length)
theorem truthS_B {t : Tal} {u : Int} : truthS t u = truthB t u := by
 unfold truthS truthB
 rw [Bool.eq_iff_iff,decide_eq_true_eq,truthL_iff]
theorem k_err : talErr exT = 0 ∧ talErr exG = 7 ∧ talErr exM = 1 ∧ talErr exO = 5 ∧ talErr exL = 0 ∧ talErr (exN 97 0) = 0 ∧ talErr (exN 90 0) = 0 := by decide +kernel
theorem k_yes : TruthIs exT (limA exT 0) := truthL_iff.2 (by decide +kernel)
theorem k_no : ¬ TruthIs (exN 97 0) (limA (exN 97 0) 0) := fun h => by
 have := truthL_iff.1 h
 revert this
 decide +kernel
theorem k_ver : verdict (bkR exT (limA exT 0) 0) 102 = 1 ∧ verdict (bkR exT (limA exT 0) 1) 100 = 3 ∧ verdict (bkR exT (limA exT 0) 2) 97 = 2 := by decide +kernel
theorem told_ex {g : Nat} {n : Int} (hg : g < 3) (hn : 0 ≤ n) : toldP exT (g : Nat) n = (verdict (bkR exT (limA exT 0) g) n,0) := by
 unfold toldP
 rw [if_neg (not_not_intro k_err.1),if_neg (not_not_intro ⟨by omega,by show (g : Int) ≤ 3 - 1; omega⟩),if_neg (by omega),if_neg (not_not_intro k_yes),Int.toNat_natCast]
theorem k_truly : trulyE (exN 97 0) = 11 := by
 unfold trulyE
 rw [if_neg (not_not_intro k_err.2.2.2.2.2.1),if_pos k_no]
theorem k_hull : ((lostR exT (bkR exT (limA exT 0)) 0 1).lo,(lostR exT (bkR exT (limA exT 0)) 0 1).hi) = (1,4) ∧ ((lostR exT (bkR exT (limA exT 0)) 1 2).lo,(lostR exT (bkR exT (limA exT 0)) 1 2).hi) = (1,4) := by decide +kernel
theorem k_lost : lostP exT 0 1 = (⟨1,4⟩,0) ∧ lostP exT 1 2 = (⟨1,4⟩,0) := by
 have e : ∀ {r : Rng} {a b : Int},(r.lo,r.hi) = (a,b) → r = ⟨a,b⟩ := fun {r a b} h => by
  obtain ⟨lo,hi⟩ := r
  simp only [Prod.mk.injEq] at h
  rw [h.1,h.2]
 constructor
 ·unfold lostP
  rw [if_neg (not_not_intro k_err.1),if_neg (by decide +kernel),if_neg (by decide),if_neg (not_not_intro k_yes)]
  show (lostR exT (bkR exT (limA exT 0)) 0 1,0) = _
  rw [e k_hull.1]
 ·unfold lostP
  rw [if_neg (not_not_intro k_err.1),if_neg (by decide +kernel),if_neg (by decide),if_neg (not_not_intro k_yes)]
  show (lostR exT (bkR exT (limA exT 0)) 1 2,0) = _
  rw [e k_hull.2]
def sinceB (m : Int) (g : Nat) : Bool := Nat.blt g 3 && (List.range g).all (fun j => decide ((lostR exT (bkR exT (limA exT 0)) 0 j).lo < m)) && decide (m ≤ (lostR exT (bkR exT (limA exT 0)) 0 g).lo)
theorem since_at {m : Int} {g : Nat} (h : sinceB m g = true) : SinceAt exT m g := by
 unfold sinceB at h
 simp only [Bool.and_eq_true,decide_eq_true_eq,List.all_eq_true] at h
 obtain ⟨⟨h1,h2⟩,h3⟩ := h
 exact ⟨Nat.le_of_ble_eq_true h1,fun j hj => h2 j (List.mem_range.2 hj),h3⟩
theorem since_ex {m : Int} {g : Nat} (hm : 0 ≤ m) (h : sinceB m g = true) : sinceP exT m = ((g : Int),0) := by
 have ha := since_at h
 have he : ∃ g,SinceAt exT m g := ⟨g,ha⟩
 unfold sinceP
 rw [if_neg (not_not_intro k_err.1),if_neg (show ¬ m < 0 by omega),if_neg (not_not_intro k_yes),dif_pos he,sinceAt_one (Classical.choose_spec he) ha]
theorem k_all : ∀ j ∈ List.range 3,(lostR exT (bkR exT (limA exT 0)) 0 j).lo < 4 := of_decide_eq_true (by kernel_rfl)
theorem k_since4 : sinceP exT 4 = (0,11) := by
 have hn : ¬ ∃ g,SinceAt exT 4 g := by
  rintro ⟨g,h1,_,h3⟩
  have := k_all g (List.mem_range.2 h1)
  omega
 unfold sinceP
 rw [if_neg (not_not_intro k_err.1),if_neg (by decide),if_neg (not_not_intro k_yes),dif_neg hn]
theorem k_dbt : dbt (bkR exT (limA exT 0)) 3 = (2,2) := by decide +kernel
theorem k_doubt : doubtP exT = (2,2,0) := by
 unfold doubtP
 rw [if_neg (not_not_intro k_err.1),if_neg (not_not_intro k_yes)]
 show (((dbt (bkR exT (limA exT 0)) 3).1 : Int),(dbt (bkR exT (limA exT 0)) 3).2,(0 : Int)) = _
 rw [k_dbt]
 rfl
theorem k_tb : truthB exT 0 = true ∧ truthB (exN 90 0) 0 = false ∧ truthB exT 127 = true ∧ truthB (exN 90 0) 127 = true ∧ truthB (exN 97 0) 127 = true := by decide +kernel
theorem k_clashT : clashE exT = 11 := by
 unfold clashE
 rw [if_neg (not_not_intro k_err.1),truthS_B,k_tb.1]
 rfl
theorem k_clashE : clashE (exN 90 0) = 0 := by
 unfold clashE
 rw [if_neg (not_not_intro k_err.2.2.2.2.2.2),truthS_B,k_tb.2.1]
 rfl
theorem k_clashO : (firstN (fun m => (picksR 3 m 0).find? fun r => !truthB (exN 90 0) (andU 127 (setF 0 r))) 4) = some [1] := by decide +kernel
theorem k_clash : clashL (exN 90 0) = [1] := by
 unfold clashL
 rw [if_pos k_clashE,clashP_find]
 simp only [truthS_B]
 show (firstN (fun m => (picksR 3 m 0).find? fun r => !truthB (exN 90 0) (andU 127 (setF 0 r))) 4).getD [] = _
 rw [k_clashO]
 rfl
theorem k_wrongE : wrongE exT = 0 ∧ wrongE (exN 90 0) = 0 ∧ wrongE (exN 97 0) = 0 := by
 refine ⟨?_,?_,?_⟩
 ·unfold wrongE
  rw [if_neg (not_not_intro k_err.1),truthS_B,k_tb.2.2.1]
  rfl
 ·unfold wrongE
  rw [if_neg (not_not_intro k_err.2.2.2.2.2.2),truthS_B,k_tb.2.2.2.1]
  rfl
 ·unfold wrongE
  rw [if_neg (not_not_intro k_err.2.2.2.2.2.1),truthS_B,k_tb.2.2.2.2]
  rfl
theorem k_wrongO : (firstN (fun m => (picksR 3 m 0).find? fun r => truthB exT (setF 0 r)) 4) = some [] ∧ (firstN (fun m => (picksR 3 m 0).find? fun r => truthB (exN 90 0) (setF 0 r)) 4) = some [1] := by decide +kernel
theorem k_wrong : wrongL exT = [] ∧ wrongL (exN 90 0) = [1] := by
 constructor
 ·unfold wrongL
  rw [if_pos k_wrongE.1,wrongP_find]
  simp only [truthS_B]
  show (firstN (fun m => (picksR 3 m 0).find? fun r => truthB exT (setF 0 r)) 4).getD [] = _
  rw [k_wrongO.1]
  rfl
 ·unfold wrongL
  rw [if_pos k_wrongE.2.1,wrongP_find]
  simp only [truthS_B]
  show (firstN (fun m => (picksR 3 m 0).find? fun r => truthB (exN 90 0) (setF 0 r)) 4).getD [] = _
  rw [k_wrongO.2]
  rfl
def menB (t : Tal) : List Int := ((firstN (fun many => (picksR (menR t).length many 0).find? fun l => truthB t (strU (setsR t) l)) ((menR t).length + 1)).getD []).map fun k => (menR t).getD k.toNat 0
theorem k_menB : menB (exN 97 0) = [1] ∧ menB (exN 90 0) = [2] := by decide +kernel
theorem menL_B {t : Tal} (h : wrongE t = 0) : menL t = menB t := by
 unfold menL menB menO
 rw [if_pos h]
 simp only [truthS_B]
theorem k_men : menL (exN 97 0) = [1] ∧ menL (exN 90 0) = [2] := ⟨(menL_B k_wrongE.2.2).trans k_menB.1,(menL_B k_wrongE.2.1).trans k_menB.2⟩
theorem k_shares : shSpec 3 [0,1,2] = ([0,1,2],0) ∧ (shSpec 4 [0,1,2]).2 = 1 := by decide +kernel
end Go.Proofs.YtaceckiodofdkaaDoor
