/- Parts of the proof, 4. No conditions. -/
import Derived.Test.YtkbfhelfnagccaaK2
import Derived.Test.YtkbfhelfnagccaaK3
namespace Go.Proofs.Ytkbfhelfnagccaa
open Go.Conc Go.Proofs.Try
set_option maxRecDepth 100000
set_option maxHeartbeats 4000000
set_option linter.unusedVariables false
section
variable {main : Bool} {J : JT} {n0 : Nat} {h : List AObj} {K : Value → List AObj → Prop}
theorem at31 : prog.funcs[31]? = some f31 := by kernel_rfl
theorem body31 : f31.body = some (codeOf f31) := by kernel_rfl
def pl31 : Plans := []
def ct31 : Cuts := .go
theorem pok31 : plansOk prog pl31 (codeOf f31) = true := by kernel_rfl
theorem e31 : W prog J 13 h.length 31 (codeOf f31) (RG.mk (regs []) []) h (RetQ prog [.cell 0 42] h.length K) =
(aAlloc [(vint 0),(Value.slice none 0 0),(Value.slice none 0 0),(Value.slice none 0 0),(Value.slice none 0 0)] h fun v1 h2 =>
aFill [(vint 0),(vint 0),(vint 0)] [(0,1,(vint 1))] fun c3 =>
aFill [(vint 0),(vint 0),(vint 0)] [(0,1,(vint 3)),(2,1,(vint 1))] fun c4 =>
(((2 * 3 : Nat) ≤ 16777216 ∧ (2 : Nat) ≤ 16777216 ∧ List.length [(vint 0),(vint 0),(vint 0)] = 3) ∧ aFill (zrep [(vint 0),(vint 0),(vint 0)] 2) [(0,3,(Value.agg ⟨c3⟩)),(3,3,(Value.agg ⟨c4⟩))] fun c5 =>
aNewS 2 c5 h2 fun v6 h7 =>
aFill [(vint 0),(Value.slice none 0 0)] [(0,1,(vint 1)),(1,1,v6)] fun c8 =>
(((2 * 1 : Nat) ≤ 16777216 ∧ (2 : Nat) ≤ 16777216 ∧ List.length [(vint 0)] = 1) ∧ aFill (zrep [(vint 0)] 2) [(0,1,(vint 0)),(1,1,(vint 1))] fun c9 =>
aNewS 2 c9 h7 fun v10 h11 =>
(((2 * 1 : Nat) ≤ 16777216 ∧ (2 : Nat) ≤ 16777216 ∧ List.length [(vint 0)] = 1) ∧ aFill (zrep [(vint 0)] 2) [(0,1,(vint 1)),(1,1,(vint 1))] fun c12 =>
aNewS 2 c12 h11 fun v13 h14 =>
(((2 * 1 : Nat) ≤ 16777216 ∧ (2 : Nat) ≤ 16777216 ∧ List.length [(vint 0)] = 1) ∧ aFill (zrep [(vint 0)] 2) [(0,1,(vint 0)),(1,1,(vint 0))] fun c15 =>
aNewS 2 c15 h14 fun v16 h17 =>
(((2 * 1 : Nat) ≤ 16777216 ∧ (2 : Nat) ≤ 16777216 ∧ List.length [(Value.slice none 0 0)] = 1) ∧ aFill (zrep [(Value.slice none 0 0)] 2) [(0,1,v13),(1,1,v16)] fun c18 =>
aNewS 2 c18 h17 fun v19 h20 =>
aFill [(vint 0),(Value.bool false),(Value.bool false),(vint 0),(vint 0)] [(0,1,(vint 3)),(4,1,(vint (-1)))] fun c21 =>
aFill [(vint 0),(vint 0),(vint 0),(vint 0),(vint 0),(vint 0),(vint 0),(vint 0),(Value.bool false),(Value.bool false),(vint 0),(vint 0)] [(0,1,(vint 5)),(4,1,(vint 1)),(7,5,(Value.agg ⟨c21⟩))] fun c22 =>
(((1 * 12 : Nat) ≤ 16777216 ∧ (1 : Nat) ≤ 16777216 ∧ List.length [(vint 0),(vint 0),(vint 0),(vint 0),(vint 0),(vint 0),(vint 0),(vint 0),(Value.bool false),(Value.bool false),(vint 0),(vint 0)] = 12) ∧ aFill (zrep [(vint 0),(vint 0),(vint 0),(vint 0),(vint 0),(vint 0),(vint 0),(vint 0),(Value.bool false),(Value.bool false),(vint 0),(vint 0)] 1) [(0,12,(Value.agg ⟨c22⟩))] fun c23 =>
aNewS 1 c23 h20 fun v24 h25 =>
aFill [(vint 0),(Value.slice none 0 0),(Value.slice none 0 0),(Value.slice none 0 0),(Value.slice none 0 0)] [(0,2,(Value.agg ⟨c8⟩)),(2,1,v10),(3,1,v19),(4,1,v24)] fun c26 =>
aStore 5 v1 (Value.agg ⟨c26⟩) h25 fun h27 =>
RetQ prog [.cell 0 42] h.length K .ret (RG.p (RG.p (RG.p (RG.p (RG.p (RG.p (RG.p (RG.p (RG.p (RG.p (RG.p (RG.p (RG.p (RG.mk (regs []) []) 0 v1) 1 (Value.agg ⟨c3⟩)) 2 (Value.agg ⟨c4⟩)) 3 v6) 4 (Value.agg ⟨c8⟩)) 5 v10) 6 v13) 7 v16) 8 v19) 9 (Value.agg ⟨c21⟩)) 10 (Value.agg ⟨c22⟩)) 11 v24) 12 (Value.agg ⟨c26⟩)) h27))))))) := top_eq pok31 ct31 (by kernel_rfl)
theorem g31 (hJ : Closed prog main J) (hs : heapOk h → W prog J 13 h.length 31 (codeOf f31) (RG.mk (regs []) []) h (RetQ prog [.cell 0 42] h.length K)) : Good prog J 31 [] h K :=
 good_of_W hJ mixed at31 body31 (by kernel_rfl) (Nat.le_of_ble_eq_true rfl) hs
theorem at13 : prog.funcs[13]? = some f13 := by kernel_rfl
theorem body13 : f13.body = some (codeOf f13) := by kernel_rfl
def pl13 : Plans := []
def ct13 : Cuts := .go
theorem pok13 : plansOk prog pl13 (codeOf f13) = true := by kernel_rfl
theorem e13 : W prog J 45 h.length 13 (codeOf f13) (RG.mk (regs []) []) h (RetQ prog [.tmp 0] h.length K) =
(Good prog J 31 [] h fun v1 h2 =>
aField true 2 0 v1 fun v3 =>
Good prog J 8 [v3,(vint 0),(vint 1)] h2 fun v4 h5 =>
aExt v4 0 fun v6 =>
aExt v4 1 fun v7 =>
Good prog J 31 [] h5 fun v8 h9 =>
aField true 2 0 v8 fun v10 =>
Good prog J 8 [v10,(vint 1),(vint 0)] h9 fun v11 h12 =>
aExt v11 0 fun v13 =>
aExt v11 1 fun v14 =>
Good prog J 31 [] h12 fun v15 h16 =>
Good prog J 11 [v15] h16 fun v17 h18 =>
aExt v17 0 fun v19 =>
aExt v17 1 fun v20 =>
aBin prog .eql 33 v7 (vint 0) fun v21 =>
cnd v21
(aBin prog .eql 33 v14 (vint 11) fun v22 =>
cnd v22
(aBin prog .eql 33 v20 (vint 0) fun v23 =>
cnd v23
(aBin prog .eql 3 v6 (vint 2) fun v24 =>
cnd v24
(aFill [(vint 0),(vint 0)] [(0,1,(vint 1)),(1,1,(vint 1))] fun c25 =>
aFill [(vint 0),(vint 0)] [(0,1,(vint 1)),(1,1,(vint 1))] fun c26 =>
(((2 * 2 : Nat) ≤ 16777216 ∧ (2 : Nat) ≤ 16777216 ∧ List.length [(vint 0),(vint 0)] = 2) ∧ aFill (zrep [(vint 0),(vint 0)] 2) [(0,2,(Value.agg ⟨c25⟩)),(2,2,(Value.agg ⟨c26⟩))] fun c27 =>
aNewS 2 c27 h18 fun v28 h29 =>
Good prog J 32 [v19,v28] h29 fun v30 h31 =>
retL h.length K [] [v30] h31))
(retL h.length K [] [(Value.bool false)] h18))
(retL h.length K [] [(Value.bool false)] h18))
(retL h.length K [] [(Value.bool false)] h18))
(retL h.length K [] [(Value.bool false)] h18)) := top_eq pok13 ct13 (by kernel_rfl)
theorem g13 (hJ : Closed prog main J) (hs : heapOk h → W prog J 45 h.length 13 (codeOf f13) (RG.mk (regs []) []) h (RetQ prog [.tmp 0] h.length K)) : Good prog J 13 [] h K :=
 good_of_W hJ mixed at13 body13 (by kernel_rfl) (Nat.le_of_ble_eq_true rfl) hs
theorem at3 : prog.funcs[3]? = some f3 := by kernel_rfl
theorem body3 : f3.body = some (codeOf f3) := by kernel_rfl
def pl3 : Plans := [(19,true,.take 0 (.take 1 (.take 2 (.take 3 (.take 4 (.take 5 (.take 6 (.take 7 (.take 8 (.take 9 (.take 10 (.take 11 (.take 12 (.take 13 (.take 14 (.take 15 (.take 16 (.take 17 (.take 18 (.take 19 (.take 20 (.take 21 (.take 22 (.take 23 (.take 24 (.take 25 (.take 26 (.take 27 (.take 28 (.take 29 (.take 30 (.fin)))))))))))))))))))))))))))))))),
 (22,false,.take 0 (.take 1 (.take 2 (.take 4 (.take 6 (.alt 3 true (.alt 5 true (.alt 7 true (.alt 8 true (.take 9 (.last 10 true (.last 11 false (.fin)))) (.last 10 true (.last 8 true (.take 9 (.last 11 false (.fin)))))) (.last 10 true (.last 7 true (.last 8 true (.take 9 (.last 11 false (.fin))))))) (.alt 7 true (.alt 5 true (.alt 8 true (.take 9 (.last 10 true (.last 11 false (.fin)))) (.last 10 true (.last 8 true (.take 9 (.last 11 false (.fin)))))) (.last 10 true (.last 5 true (.last 8 true (.take 9 (.last 11 false (.fin))))))) (.last 10 true (.alt 5 true (.last 7 true (.last 8 true (.take 9 (.last 11 false (.fin))))) (.last 7 true (.last 5 true (.last 8 true (.take 9 (.last 11 false (.fin)))))))))) (.alt 5 true (.alt 3 true (.alt 7 true (.alt 8 true (.take 9 (.last 10 true (.last 11 false (.fin)))) (.last 10 true (.last 8 true (.take 9 (.last 11 false (.fin)))))) (.last 10 true (.last 7 true (.last 8 true (.take 9 (.last 11 false (.fin))))))) (.alt 7 true (.alt 3 true (.alt 8 true (.take 9 (.last 10 true (.last 11 false (.fin)))) (.last 10 true (.last 8 true (.take 9 (.last 11 false (.fin)))))) (.alt 8 true (.alt 3 true (.take 9 (.last 10 true (.last 11 false (.fin)))) (.last 10 true (.last 3 true (.take 9 (.last 11 false (.fin)))))) (.last 10 true (.alt 3 true (.last 8 true (.take 9 (.last 11 false (.fin)))) (.last 8 true (.last 3 true (.take 9 (.last 11 false (.fin))))))))) (.last 10 true (.alt 3 true (.last 7 true (.last 8 true (.take 9 (.last 11 false (.fin))))) (.last 7 true (.alt 3 true (.last 8 true (.take 9 (.last 11 false (.fin)))) (.last 8 true (.last 3 true (.take 9 (.last 11 false (.fin))))))))))) (.alt 7 true (.alt 3 true (.alt 5 true (.alt 8 true (.take 9 (.last 10 true (.last 11 false (.fin)))) (.last 10 true (.last 8 true (.take 9 (.last 11 false (.fin)))))) (.last 10 true (.last 5 true (.last 8 true (.take 9 (.last 11 false (.fin))))))) (.alt 5 true (.alt 3 true (.alt 8 true (.take 9 (.last 10 true (.last 11 false (.fin)))) (.last 10 true (.last 8 true (.take 9 (.last 11 false (.fin)))))) (.alt 8 true (.alt 3 true (.take 9 (.last 10 true (.last 11 false (.fin)))) (.last 10 true (.last 3 true (.take 9 (.last 11 false (.fin)))))) (.last 10 true (.alt 3 true (.last 8 true (.take 9 (.last 11 false (.fin)))) (.last 8 true (.last 3 true (.take 9 (.last 11 false (.fin))))))))) (.last 10 true (.alt 3 true (.last 5 true (.last 8 true (.take 9 (.last 11 false (.fin))))) (.last 5 true (.alt 3 true (.last 8 true (.take 9 (.last 11 false (.fin)))) (.last 8 true (.last 3 true (.take 9 (.last 11 false (.fin))))))))))) (.last 10 true (.alt 3 true (.alt 5 true (.last 7 true (.last 8 true (.take 9 (.last 11 false (.fin))))) (.last 7 true (.last 5 true (.last 8 true (.take 9 (.last 11 false (.fin))))))) (.alt 5 true (.alt 3 true (.last 7 true (.last 8 true (.take 9 (.last 11 false (.fin))))) (.last 7 true (.alt 3 true (.last 8 true (.take 9 (.last 11 false (.fin)))) (.last 8 true (.last 3 true (.take 9 (.last 11 false (.fin)))))))) (.last 7 true (.alt 3 true (.last 5 true (.last 8 true (.take 9 (.last 11 false (.fin))))) (.last 5 true (.alt 3 true (.last 8 true (.take 9 (.last 11 false (.fin)))) (.last 8 true (.last 3 true (.take 9 (.last 11 false (.fin))))))))))))))))))))]
def ct3 : Cuts := .bin (.go) (.bin (.go) (.bin (.go) (.bin (.go) (.bin (.bin (.go) (.un (.un (.bin (.go) (.bin (.un (.bin (.go) (.bin (.go) (.bin (.go) (.bin (.bin (.go) (.cut (.go))) (.bin (.go) (.un (.un (.bin (.go) (.bin (.un (.bin (.go) (.bin (.go) (.bin (.bin (.go) (.cut (.go))) (.bin (.go) (.cut (.bin (.go) (.bin (.go) (.cut (.bin (.go) (.bin (.go) (.bin (.go) (.bin (.go) (.bin (.go) (.bin (.bin (.go) (.cut (.go))) (.bin (.go) (.bin (.go) (.bin (.go) (.bin (.go) (.cut (.go))))))))))))))))))))) (.go))))))))))) (.go)))))) (.go)))))
theorem pok3 : plansOk prog pl3 (codeOf f3) = true := by kernel_rfl
theorem e3 {a0 : Value} : W prog J 221 h.length 3 (codeOf f3) (RG.mk (regs [a0]) []) h (RetQ prog [.tmp 2] h.length K) =
(Good prog J 4 [a0] h fun v1 h2 =>
Good prog J 5 [v1,(vint 4)] h2 fun v3 h4 =>
aAlloc [(vint 0),(Value.slice none 0 0)] h4 fun v5 h6 =>
aStore 2 v5 v3 h6 fun h7 =>
aOff v5 1 fun v8 =>
aLoad false 1 v8 h7 fun v9 =>
aLenS v9 fun v10 =>
Sem J 221 h.length 3 (subC [1,1,1,1,0,1,0] (codeOf f3)) (RG.p (RG.p (RG.p (RG.p (RG.p (RG.p (RG.p (RG.p (RG.p (RG.p (RG.p (RG.p (RG.mk (regs [a0]) []) 2 (Value.bool false)) 21 a0) 22 v1) 3 v1) 23 v1) 24 v3) 4 v5) 25 v8) 26 v9) 27 v10) 5 v10) 6 (vint 0)) h7 (contX pl3 prog J 221 h.length 3 ct3 [1,1,1,1,0,1,0] (codeOf f3) [] (RetQ prog [.tmp 2] h.length K))) := top_eq pok3 ct3 (by kernel_rfl)
theorem g3 (hJ : Closed prog main J) {a0 : Value} (hs : heapOk h → W prog J 221 h.length 3 (codeOf f3) (RG.mk (regs [a0]) []) h (RetQ prog [.tmp 2] h.length K)) : Good prog J 3 [a0] h K :=
 good_of_W hJ mixed at3 body3 (by kernel_rfl) (Nat.le_of_ble_eq_true rfl) hs
theorem s3_1 {f : RG} {nx0 : RG → List AObj → Prop} : W prog J 221 n0 3 (subC [1,1,1,1,0,1,0,0] (codeOf f3)) f h (thenK nx0 (contX pl3 prog J 221 n0 3 ct3 [1,1,1,1,0,1,0] (codeOf f3) [] (RetQ prog [.tmp 2] n0 K))) =
(aBin prog .lss 3 (f.r 6) (f.r 5) fun v1 =>
cnd v1
(aOff (f.r 4) 1 fun v2 =>
aLoad false 1 v2 h fun v3 =>
aIdx 3 v3 (f.r 6) fun v4 =>
aLoad true 3 v4 h fun v5 =>
aAlloc [(vint 0),(vint 0),(vint 0)] h fun v6 h7 =>
aStore 3 v6 v5 h7 fun h8 =>
aOff v6 0 fun v9 =>
aLoad false 1 v9 h8 fun v10 =>
aOff v6 1 fun v11 =>
aLoad false 1 v11 h8 fun v12 =>
aOff v6 2 fun v13 =>
aLoad false 1 v13 h8 fun v14 =>
aFill [(vint 0),(Value.bool false),(Value.bool false),(vint 0),(vint 0)] [(0,1,v10),(3,1,v12),(4,1,v14)] fun c15 =>
aAlloc [(vint 0),(Value.bool false),(Value.bool false),(vint 0),(vint 0)] h8 fun v16 h17 =>
aStore 5 v16 (Value.agg ⟨c15⟩) h17 fun h18 =>
aLoad true 2 (f.r 4) h18 fun v19 =>
aLoad true 5 v16 h18 fun v20 =>
Good prog J 6 [v19,v20] h18 fun v21 h22 =>
aExt v21 0 fun v23 =>
aExt v21 1 fun v24 =>
aBin prog .neq 33 v24 (vint 0) fun v25 =>
cnd v25
(Hold (W prog J 221 n0 3 (subC [1,1,1,1,0,1,0,0,1,0,0,1,1,1,0,1] (codeOf f3)) (RG.p (RG.p (RG.p (RG.p (RG.p (RG.p (RG.p (RG.p (RG.p (RG.p (RG.p (RG.p (RG.p (RG.p (RG.p (RG.p (RG.p (RG.p (RG.p (RG.p (RG.p (RG.p (RG.p (RG.p (RG.p (RG.p (RG.p (RG.p (RG.p (RG.p (RG.p (RG.p (RG.p (RG.p f 28 (f.r 6)) 29 (f.r 5)) 30 v1) 33 v2) 34 v3) 35 (f.r 6)) 36 v4) 37 v5) 7 v6) 38 v9) 39 v10) 40 v11) 41 v12) 42 v13) 43 v14) 44 (Value.agg ⟨c15⟩)) 8 v16) 46 v19) 47 v20) 48 v21) 45 v21) 49 v23) 50 v24) 9 v23) 10 v24) 51 v24) 52 v25) 53 v25) 53 (Value.bool true)) 54 undef) 55 undef) 56 undef) 57 undef) 58 (Value.bool true)) h22 (contX pl3 prog J 221 n0 3 ct3 [1,1,1,1,0,1,0,0,1,0,0,1,1,1,0,1] (codeOf f3) [nx0] (RetQ prog [.tmp 2] n0 K))))
(Good prog J 7 [v23,(f.r 6)] h22 fun v26 h27 =>
aBin prog .lss 3 v26 (vint 0) fun v28 =>
Hold (W prog J 221 n0 3 (subC [1,1,1,1,0,1,0,0,1,0,0,1,1,1,0,1] (codeOf f3)) (RG.p (RG.p (RG.p (RG.p (RG.p (RG.p (RG.p (RG.p (RG.p (RG.p (RG.p (RG.p (RG.p (RG.p (RG.p (RG.p (RG.p (RG.p (RG.p (RG.p (RG.p (RG.p (RG.p (RG.p (RG.p (RG.p (RG.p (RG.p (RG.p (RG.p (RG.p (RG.p (RG.p (RG.p f 28 (f.r 6)) 29 (f.r 5)) 30 v1) 33 v2) 34 v3) 35 (f.r 6)) 36 v4) 37 v5) 7 v6) 38 v9) 39 v10) 40 v11) 41 v12) 42 v13) 43 v14) 44 (Value.agg ⟨c15⟩)) 8 v16) 46 v19) 47 v20) 48 v21) 45 v21) 49 v23) 50 v24) 9 v23) 10 v24) 51 v24) 52 v25) 53 v25) 53 (Value.bool false)) 54 v23) 55 (f.r 6)) 56 v26) 57 v28) 58 v28) h27 (contX pl3 prog J 221 n0 3 ct3 [1,1,1,1,0,1,0,0,1,0,0,1,1,1,0,1] (codeOf f3) [nx0] (RetQ prog [.tmp 2] n0 K)))))
(Good prog J 13 [] h fun v29 h30 =>
retL n0 K f.ds [v29] h30)) := sub_eq pok3 ct3 (by kernel_rfl)
theorem l3_1 (hJ : Closed prog main J) {S : Type} (μ : S → Nat) (I : S → RG → List AObj → Prop) (hI : ∀ s f h,I s f h → heapOk h → n0 ≤ h.length → W prog J 221 n0 3 (subC [1,1,1,1,0,1,0,0] (codeOf f3)) f h (thenK (Nx n0 μ I s) (contX pl3 prog J 221 n0 3 ct3 [1,1,1,1,0,1,0] (codeOf f3) [] (RetQ prog [.tmp 2] n0 K))))
 {s : S} {f : RG} (hi : Gets n0 I s f h) : Sem J 221 n0 3 (subC [1,1,1,1,0,1,0] (codeOf f3)) f h (contX pl3 prog J 221 n0 3 ct3 [1,1,1,1,0,1,0] (codeOf f3) [] (RetQ prog [.tmp 2] n0 K)) :=
 loop_rule hJ mixed (b := subC [1,1,1,1,0,1,0,0] (codeOf f3)) (by kernel_rfl) μ I hI hi
theorem s3_2 {f : RG} {nx0 : RG → List AObj → Prop} : W prog J 221 n0 3 (subC [1,1,1,1,0,1,0,0,1,0,0,1,1,1,0,1] (codeOf f3)) f h (contX pl3 prog J 221 n0 3 ct3 [1,1,1,1,0,1,0,0,1,0,0,1,1,1,0,1] (codeOf f3) [nx0] (RetQ prog [.tmp 2] n0 K)) =
(cnd (f.r 58)
(retL n0 K f.ds [(Value.bool false)] h)
(Sem J 221 n0 3 (subC [1,1,1,1,0,1,0,0,1,0,0,1,1,1,1,1,0] (codeOf f3)) (RG.p f 11 (vint 0)) h (contX pl3 prog J 221 n0 3 ct3 [1,1,1,1,0,1,0,0,1,0,0,1,1,1,1,1,0] (codeOf f3) [nx0] (RetQ prog [.tmp 2] n0 K)))) := sub_eq pok3 ct3 (by kernel_rfl)
theorem s3_3 {f : RG} {nx0 nx1 : RG → List AObj → Prop} : W prog J 221 n0 3 (subC [1,1,1,1,0,1,0,0,1,0,0,1,1,1,1,1,0,0] (codeOf f3)) f h (thenK nx1 (contX pl3 prog J 221 n0 3 ct3 [1,1,1,1,0,1,0,0,1,0,0,1,1,1,1,1,0] (codeOf f3) [nx0] (RetQ prog [.tmp 2] n0 K))) =
(aBin prog .lss 3 (f.r 11) (f.r 5) fun v1 =>
cnd v1
(aBin prog .eql 3 (f.r 11) (f.r 6) fun v2 =>
cnd v2
(aBin prog .add 3 (f.r 11) (vint 1) fun v3 =>
nx1 (RG.p (RG.p (RG.p (RG.p (RG.p (RG.p (RG.p (RG.p (RG.p f 59 (f.r 11)) 60 (f.r 5)) 61 v1) 64 (f.r 11)) 65 (f.r 6)) 66 v2) 62 (f.r 11)) 63 v3) 11 v3) h)
(aLoad true 2 (f.r 4) h fun v4 =>
Good prog J 8 [v4,(f.r 11),(f.r 6)] h fun v5 h6 =>
aExt v5 0 fun v7 =>
aExt v5 1 fun v8 =>
aBin prog .neq 33 v8 (vint 0) fun v9 =>
cnd v9
(aBin prog .neq 33 v8 (vint 11) fun v10 =>
Hold (W prog J 221 n0 3 (subC [1,1,1,1,0,1,0,0,1,0,0,1,1,1,1,1,0,0,1,0,0,1,1,0,1] (codeOf f3)) (RG.p (RG.p (RG.p (RG.p (RG.p (RG.p (RG.p (RG.p (RG.p (RG.p (RG.p (RG.p (RG.p (RG.p (RG.p (RG.p (RG.p (RG.p (RG.p (RG.p (RG.p (RG.p f 59 (f.r 11)) 60 (f.r 5)) 61 v1) 64 (f.r 11)) 65 (f.r 6)) 66 v2) 68 v4) 69 (f.r 11)) 70 (f.r 6)) 71 v5) 67 v5) 72 v7) 73 v8) 12 v7) 13 v8) 74 v8) 75 v9) 76 v9) 76 (Value.bool true)) 77 v8) 78 v10) 79 v10) h6 (contX pl3 prog J 221 n0 3 ct3 [1,1,1,1,0,1,0,0,1,0,0,1,1,1,1,1,0,0,1,0,0,1,1,0,1] (codeOf f3) [nx0,nx1] (RetQ prog [.tmp 2] n0 K))))
(Hold (W prog J 221 n0 3 (subC [1,1,1,1,0,1,0,0,1,0,0,1,1,1,1,1,0,0,1,0,0,1,1,0,1] (codeOf f3)) (RG.p (RG.p (RG.p (RG.p (RG.p (RG.p (RG.p (RG.p (RG.p (RG.p (RG.p (RG.p (RG.p (RG.p (RG.p (RG.p (RG.p (RG.p (RG.p (RG.p (RG.p (RG.p f 59 (f.r 11)) 60 (f.r 5)) 61 v1) 64 (f.r 11)) 65 (f.r 6)) 66 v2) 68 v4) 69 (f.r 11)) 70 (f.r 6)) 71 v5) 67 v5) 72 v7) 73 v8) 12 v7) 13 v8) 74 v8) 75 v9) 76 v9) 76 (Value.bool false)) 77 undef) 78 undef) 79 (Value.bool false)) h6 (contX pl3 prog J 221 n0 3 ct3 [1,1,1,1,0,1,0,0,1,0,0,1,1,1,1,1,0,0,1,0,0,1,1,0,1] (codeOf f3) [nx0,nx1] (RetQ prog [.tmp 2] n0 K))))))
(aBin prog .add 3 (f.r 6) (vint 1) fun v11 =>
nx0 (RG.p (RG.p (RG.p (RG.p (RG.p (RG.p f 59 (f.r 11)) 60 (f.r 5)) 61 v1) 31 (f.r 6)) 32 v11) 6 v11) h)) := sub_eq pok3 ct3 (by kernel_rfl)
theorem l3_3 (hJ : Closed prog main J) {nx0 : RG → List AObj → Prop} {S : Type} (μ : S → Nat) (I : S → RG → List AObj → Prop) (hI : ∀ s f h,I s f h → heapOk h → n0 ≤ h.length → W prog J 221 n0 3 (subC [1,1,1,1,0,1,0,0,1,0,0,1,1,1,1,1,0,0] (codeOf f3)) f h (thenK (Nx n0 μ I s) (contX pl3 prog J 221 n0 3 ct3 [1,1,1,1,0,1,0,0,1,0,0,1,1,1,1,1,0] (codeOf f3) [nx0] (RetQ prog [.tmp 2] n0 K))))
 {s : S} {f : RG} (hi : Gets n0 I s f h) : Sem J 221 n0 3 (subC [1,1,1,1,0,1,0,0,1,0,0,1,1,1,1,1,0] (codeOf f3)) f h (contX pl3 prog J 221 n0 3 ct3 [1,1,1,1,0,1,0,0,1,0,0,1,1,1,1,1,0] (codeOf f3) [nx0] (RetQ prog [.tmp 2] n0 K)) :=
 loop_rule hJ mixed (b := subC [1,1,1,1,0,1,0,0,1,0,0,1,1,1,1,1,0,0] (codeOf f3)) (by kernel_rfl) μ I hI hi
theorem s3_4 {f : RG} {nx0 nx1 : RG → List AObj → Prop} : W prog J 221 n0 3 (subC [1,1,1,1,0,1,0,0,1,0,0,1,1,1,1,1,0,0,1,0,0,1,1,0,1] (codeOf f3)) f h (contX pl3 prog J 221 n0 3 ct3 [1,1,1,1,0,1,0,0,1,0,0,1,1,1,1,1,0,0,1,0,0,1,1,0,1] (codeOf f3) [nx0,nx1] (RetQ prog [.tmp 2] n0 K)) =
(cnd (f.r 79)
(retL n0 K f.ds [(Value.bool false)] h)
(aBin prog .eql 33 (f.r 13) (vint 0) fun v1 =>
cnd v1
(aOff (f.r 4) 0 fun v2 =>
aLoad false 1 v2 h fun v3 =>
aBin prog .leq 3 (f.r 12) v3 fun v4 =>
cnd v4
(aOff (f.r 4) 1 fun v5 =>
aLoad false 1 v5 h fun v6 =>
aIdx 3 v6 (f.r 11) fun v7 =>
aOff v7 1 fun v8 =>
aLoad false 1 v8 h fun v9 =>
aOff (f.r 7) 1 fun v10 =>
aLoad false 1 v10 h fun v11 =>
aBin prog .eql 3 v9 v11 fun v12 =>
cnd v12
(aOff (f.r 4) 1 fun v13 =>
aLoad false 1 v13 h fun v14 =>
aIdx 3 v14 (f.r 11) fun v15 =>
aOff v15 2 fun v16 =>
aLoad false 1 v16 h fun v17 =>
aOff (f.r 7) 2 fun v18 =>
aLoad false 1 v18 h fun v19 =>
aBin prog .eql 3 v17 v19 fun v20 =>
Hold (W prog J 221 n0 3 (subC [1,1,1,1,0,1,0,0,1,0,0,1,1,1,1,1,0,0,1,0,0,1,1,1,1] (codeOf f3)) (RG.p (RG.p (RG.p (RG.p (RG.p (RG.p (RG.p (RG.p (RG.p (RG.p (RG.p (RG.p (RG.p (RG.p (RG.p (RG.p (RG.p (RG.p (RG.p (RG.p (RG.p (RG.p (RG.p (RG.p (RG.p (RG.p (RG.p (RG.p (RG.p (RG.p (RG.p (RG.p (RG.p (RG.p f 80 (f.r 13)) 81 v1) 82 v1) 82 (Value.bool true)) 83 (f.r 12)) 84 v2) 85 v3) 86 v4) 87 v4) 88 v4) 88 (Value.bool true)) 89 v5) 90 v6) 91 (f.r 11)) 92 v7) 93 v8) 94 v9) 95 v10) 96 v11) 97 v12) 98 v12) 99 v12) 99 (Value.bool true)) 100 v13) 101 v14) 102 (f.r 11)) 103 v15) 104 v16) 105 v17) 106 v18) 107 v19) 108 v20) 109 v20) 14 v20) h (contX pl3 prog J 221 n0 3 ct3 [1,1,1,1,0,1,0,0,1,0,0,1,1,1,1,1,0,0,1,0,0,1,1,1,1] (codeOf f3) [nx0,nx1] (RetQ prog [.tmp 2] n0 K))))
(Hold (W prog J 221 n0 3 (subC [1,1,1,1,0,1,0,0,1,0,0,1,1,1,1,1,0,0,1,0,0,1,1,1,1] (codeOf f3)) (RG.p (RG.p (RG.p (RG.p (RG.p (RG.p (RG.p (RG.p (RG.p (RG.p (RG.p (RG.p (RG.p (RG.p (RG.p (RG.p (RG.p (RG.p (RG.p (RG.p (RG.p (RG.p (RG.p (RG.p (RG.p (RG.p (RG.p (RG.p (RG.p (RG.p (RG.p (RG.p (RG.p (RG.p f 80 (f.r 13)) 81 v1) 82 v1) 82 (Value.bool true)) 83 (f.r 12)) 84 v2) 85 v3) 86 v4) 87 v4) 88 v4) 88 (Value.bool true)) 89 v5) 90 v6) 91 (f.r 11)) 92 v7) 93 v8) 94 v9) 95 v10) 96 v11) 97 v12) 98 v12) 99 v12) 99 (Value.bool false)) 100 undef) 101 undef) 102 undef) 103 undef) 104 undef) 105 undef) 106 undef) 107 undef) 108 undef) 109 (Value.bool false)) 14 (Value.bool false)) h (contX pl3 prog J 221 n0 3 ct3 [1,1,1,1,0,1,0,0,1,0,0,1,1,1,1,1,0,0,1,0,0,1,1,1,1] (codeOf f3) [nx0,nx1] (RetQ prog [.tmp 2] n0 K)))))
(Hold (W prog J 221 n0 3 (subC [1,1,1,1,0,1,0,0,1,0,0,1,1,1,1,1,0,0,1,0,0,1,1,1,1] (codeOf f3)) (RG.p (RG.p (RG.p (RG.p (RG.p (RG.p (RG.p (RG.p (RG.p (RG.p (RG.p (RG.p (RG.p (RG.p (RG.p (RG.p (RG.p (RG.p (RG.p (RG.p (RG.p (RG.p (RG.p (RG.p (RG.p (RG.p (RG.p (RG.p (RG.p (RG.p (RG.p (RG.p (RG.p (RG.p f 80 (f.r 13)) 81 v1) 82 v1) 82 (Value.bool true)) 83 (f.r 12)) 84 v2) 85 v3) 86 v4) 87 v4) 88 v4) 88 (Value.bool false)) 89 undef) 90 undef) 91 undef) 92 undef) 93 undef) 94 undef) 95 undef) 96 undef) 97 undef) 98 (Value.bool false)) 99 (Value.bool false)) 99 (Value.bool false)) 100 undef) 101 undef) 102 undef) 103 undef) 104 undef) 105 undef) 106 undef) 107 undef) 108 undef) 109 (Value.bool false)) 14 (Value.bool false)) h (contX pl3 prog J 221 n0 3 ct3 [1,1,1,1,0,1,0,0,1,0,0,1,1,1,1,1,0,0,1,0,0,1,1,1,1] (codeOf f3) [nx0,nx1] (RetQ prog [.tmp 2] n0 K)))))
(Hold (W prog J 221 n0 3 (subC [1,1,1,1,0,1,0,0,1,0,0,1,1,1,1,1,0,0,1,0,0,1,1,1,1] (codeOf f3)) (RG.p (RG.p (RG.p (RG.p (RG.p (RG.p (RG.p (RG.p (RG.p (RG.p (RG.p (RG.p (RG.p (RG.p (RG.p (RG.p (RG.p (RG.p (RG.p (RG.p (RG.p (RG.p (RG.p (RG.p (RG.p (RG.p (RG.p (RG.p (RG.p (RG.p (RG.p (RG.p (RG.p (RG.p f 80 (f.r 13)) 81 v1) 82 v1) 82 (Value.bool false)) 83 undef) 84 undef) 85 undef) 86 undef) 87 (Value.bool false)) 88 (Value.bool false)) 88 (Value.bool false)) 89 undef) 90 undef) 91 undef) 92 undef) 93 undef) 94 undef) 95 undef) 96 undef) 97 undef) 98 (Value.bool false)) 99 (Value.bool false)) 99 (Value.bool false)) 100 undef) 101 undef) 102 undef) 103 undef) 104 undef) 105 undef) 106 undef) 107 undef) 108 undef) 109 (Value.bool false)) 14 (Value.bool false)) h (contX pl3 prog J 221 n0 3 ct3 [1,1,1,1,0,1,0,0,1,0,0,1,1,1,1,1,0,0,1,0,0,1,1,1,1] (codeOf f3) [nx0,nx1] (RetQ prog [.tmp 2] n0 K)))))) := sub_eq pok3 ct3 (by kernel_rfl)
theorem s3_5 {f : RG} {nx0 nx1 : RG → List AObj → Prop} : W prog J 221 n0 3 (subC [1,1,1,1,0,1,0,0,1,0,0,1,1,1,1,1,0,0,1,0,0,1,1,1,1] (codeOf f3)) f h (contX pl3 prog J 221 n0 3 ct3 [1,1,1,1,0,1,0,0,1,0,0,1,1,1,1,1,0,0,1,0,0,1,1,1,1] (codeOf f3) [nx0,nx1] (RetQ prog [.tmp 2] n0 K)) =
(Good prog J 7 [(f.r 9),(f.r 11)] h fun v1 h2 =>
aBin prog .geq 3 v1 (vint 0) fun v3 =>
aBin prog .neq 4 (f.r 14) v3 fun v4 =>
cnd v4
(retL n0 K f.ds [(Value.bool false)] h2)
((∃ B,aLoad true 2 (f.r 4) h2 fun v5 =>
RdOk (some B) (ptrBlk (f.r 4)) ∧ (((((2 * 1 : Nat) ≤ 16777216 ∧ (2 : Nat) ≤ 16777216 ∧ List.length [(vint 0)] = 1) ∧ aFill (zrep [(vint 0)] 2) [(0,1,(f.r 11)),(1,1,(f.r 6))] fun c6 =>
aNewS 2 c6 h2 fun v7 h8 =>
SameB (some B) h2 h8 ∧ ((((List.length [(vint 0)] = 1 ∧ (8 : Nat) ≤ 1024) ∧ aMkS [(vint 0)] (f.r 5) (f.r 5) h8 fun v9 h10 =>
SameB (some B) h2 h10 ∧ ((((List.length [(vint 0)] = 1 ∧ (8 : Nat) ≤ 1024) ∧ aMkS [(vint 0)] (f.r 5) (f.r 5) h10 fun v11 h12 =>
SameB (some B) h2 h12 ∧ (((((2 * 1 : Nat) ≤ 16777216 ∧ (2 : Nat) ≤ 16777216 ∧ List.length [(Value.slice none 0 0)] = 1) ∧ aFill (zrep [(Value.slice none 0 0)] 2) [(0,1,v9),(1,1,v11)] fun c13 =>
aNewS 2 c13 h12 fun v14 h15 =>
SameB (some B) h2 h15 ∧ (aFill [(vint 0),(Value.slice none 0 0),(Value.slice none 0 0),(Value.slice none 0 0),(Value.slice none 0 0)] [(0,2,v5),(2,1,v7),(3,1,v14)] fun c16 =>
aAlloc [(vint 0),(Value.slice none 0 0),(Value.slice none 0 0),(Value.slice none 0 0),(Value.slice none 0 0)] h15 fun v17 h18 =>
SameB (some B) h2 h18 ∧ (aStore 5 v17 (Value.agg ⟨c16⟩) h18 fun h19 =>
Hold (W prog J 221 n0 3 (subC [1,1,1,1,0,1,0,0,1,0,0,1,1,1,1,1,0,0,1,0,0,1,1,1,1,1,1] (codeOf f3)) (RG.p (RG.p (RG.p (RG.p (RG.p (RG.p (RG.p (RG.p (RG.p (RG.p (RG.p (RG.p (RG.p (RG.p (RG.p (RG.p (RG.p f 110 (f.r 14)) 111 (f.r 9)) 112 (f.r 11)) 113 v1) 114 v3) 115 v4) 116 v5) 117 (f.r 11)) 118 (f.r 6)) 120 (f.r 5)) 122 (f.r 5)) 119 v7) 121 v9) 123 v11) 124 v14) 125 (Value.agg ⟨c16⟩)) 15 v17) h19 (contX pl3 prog J 221 n0 3 ct3 [1,1,1,1,0,1,0,0,1,0,0,1,1,1,1,1,0,0,1,0,0,1,1,1,1,1,1] (codeOf f3) [nx0,nx1] (RetQ prog [.tmp 2] n0 K))))))) ∧ (aAlloc [(vint 0),(Value.slice none 0 0),(Value.slice none 0 0),(Value.slice none 0 0),(Value.slice none 0 0)] h12 fun v20 h21 =>
SameB (some B) h2 h21 ∧ ((((2 * 1 : Nat) ≤ 16777216 ∧ (2 : Nat) ≤ 16777216 ∧ List.length [(Value.slice none 0 0)] = 1) ∧ aFill (zrep [(Value.slice none 0 0)] 2) [(0,1,v9),(1,1,v11)] fun c22 =>
aNewS 2 c22 h21 fun v23 h24 =>
SameB (some B) h2 h24 ∧ (aFill [(vint 0),(Value.slice none 0 0),(Value.slice none 0 0),(Value.slice none 0 0),(Value.slice none 0 0)] [(0,2,v5),(2,1,v7),(3,1,v23)] fun c25 =>
aStore 5 v20 (Value.agg ⟨c25⟩) h24 fun h26 =>
Hold (W prog J 221 n0 3 (subC [1,1,1,1,0,1,0,0,1,0,0,1,1,1,1,1,0,0,1,0,0,1,1,1,1,1,1] (codeOf f3)) (RG.p (RG.p (RG.p (RG.p (RG.p (RG.p (RG.p (RG.p (RG.p (RG.p (RG.p (RG.p (RG.p (RG.p (RG.p (RG.p (RG.p f 110 (f.r 14)) 111 (f.r 9)) 112 (f.r 11)) 113 v1) 114 v3) 115 v4) 116 v5) 117 (f.r 11)) 118 (f.r 6)) 120 (f.r 5)) 122 (f.r 5)) 119 v7) 121 v9) 123 v11) 15 v20) 124 v23) 125 (Value.agg ⟨c25⟩)) h26 (contX pl3 prog J 221 n0 3 ct3 [1,1,1,1,0,1,0,0,1,0,0,1,1,1,1,1,0,0,1,0,0,1,1,1,1,1,1] (codeOf f3) [nx0,nx1] (RetQ prog [.tmp 2] n0 K)))))))))) ∧ (aAlloc [(vint 0),(Value.slice none 0 0),(Value.slice none 0 0),(Value.slice none 0 0),(Value.slice none 0 0)] h10 fun v27 h28 =>
SameB (some B) h2 h28 ∧ (((List.length [(vint 0)] = 1 ∧ (8 : Nat) ≤ 1024) ∧ aMkS [(vint 0)] (f.r 5) (f.r 5) h28 fun v29 h30 =>
SameB (some B) h2 h30 ∧ ((((2 * 1 : Nat) ≤ 16777216 ∧ (2 : Nat) ≤ 16777216 ∧ List.length [(Value.slice none 0 0)] = 1) ∧ aFill (zrep [(Value.slice none 0 0)] 2) [(0,1,v9),(1,1,v29)] fun c31 =>
aNewS 2 c31 h30 fun v32 h33 =>
SameB (some B) h2 h33 ∧ (aFill [(vint 0),(Value.slice none 0 0),(Value.slice none 0 0),(Value.slice none 0 0),(Value.slice none 0 0)] [(0,2,v5),(2,1,v7),(3,1,v32)] fun c34 =>
aStore 5 v27 (Value.agg ⟨c34⟩) h33 fun h35 =>
Hold (W prog J 221 n0 3 (subC [1,1,1,1,0,1,0,0,1,0,0,1,1,1,1,1,0,0,1,0,0,1,1,1,1,1,1] (codeOf f3)) (RG.p (RG.p (RG.p (RG.p (RG.p (RG.p (RG.p (RG.p (RG.p (RG.p (RG.p (RG.p (RG.p (RG.p (RG.p (RG.p (RG.p f 110 (f.r 14)) 111 (f.r 9)) 112 (f.r 11)) 113 v1) 114 v3) 115 v4) 116 v5) 117 (f.r 11)) 118 (f.r 6)) 120 (f.r 5)) 122 (f.r 5)) 119 v7) 121 v9) 15 v27) 123 v29) 124 v32) 125 (Value.agg ⟨c34⟩)) h35 (contX pl3 prog J 221 n0 3 ct3 [1,1,1,1,0,1,0,0,1,0,0,1,1,1,1,1,0,0,1,0,0,1,1,1,1,1,1] (codeOf f3) [nx0,nx1] (RetQ prog [.tmp 2] n0 K)))))))))))) ∧ (((List.length [(vint 0)] = 1 ∧ (8 : Nat) ≤ 1024) ∧ aMkS [(vint 0)] (f.r 5) (f.r 5) h8 fun v36 h37 =>
SameB (some B) h2 h37 ∧ ((((List.length [(vint 0)] = 1 ∧ (8 : Nat) ≤ 1024) ∧ aMkS [(vint 0)] (f.r 5) (f.r 5) h37 fun v38 h39 =>
SameB (some B) h2 h39 ∧ (((((2 * 1 : Nat) ≤ 16777216 ∧ (2 : Nat) ≤ 16777216 ∧ List.length [(Value.slice none 0 0)] = 1) ∧ aFill (zrep [(Value.slice none 0 0)] 2) [(0,1,v38),(1,1,v36)] fun c40 =>
aNewS 2 c40 h39 fun v41 h42 =>
SameB (some B) h2 h42 ∧ (aFill [(vint 0),(Value.slice none 0 0),(Value.slice none 0 0),(Value.slice none 0 0),(Value.slice none 0 0)] [(0,2,v5),(2,1,v7),(3,1,v41)] fun c43 =>
aAlloc [(vint 0),(Value.slice none 0 0),(Value.slice none 0 0),(Value.slice none 0 0),(Value.slice none 0 0)] h42 fun v44 h45 =>
SameB (some B) h2 h45 ∧ (aStore 5 v44 (Value.agg ⟨c43⟩) h45 fun h46 =>
Hold (W prog J 221 n0 3 (subC [1,1,1,1,0,1,0,0,1,0,0,1,1,1,1,1,0,0,1,0,0,1,1,1,1,1,1] (codeOf f3)) (RG.p (RG.p (RG.p (RG.p (RG.p (RG.p (RG.p (RG.p (RG.p (RG.p (RG.p (RG.p (RG.p (RG.p (RG.p (RG.p (RG.p f 110 (f.r 14)) 111 (f.r 9)) 112 (f.r 11)) 113 v1) 114 v3) 115 v4) 116 v5) 117 (f.r 11)) 118 (f.r 6)) 120 (f.r 5)) 122 (f.r 5)) 119 v7) 123 v36) 121 v38) 124 v41) 125 (Value.agg ⟨c43⟩)) 15 v44) h46 (contX pl3 prog J 221 n0 3 ct3 [1,1,1,1,0,1,0,0,1,0,0,1,1,1,1,1,0,0,1,0,0,1,1,1,1,1,1] (codeOf f3) [nx0,nx1] (RetQ prog [.tmp 2] n0 K))))))) ∧ (aAlloc [(vint 0),(Value.slice none 0 0),(Value.slice none 0 0),(Value.slice none 0 0),(Value.slice none 0 0)] h39 fun v47 h48 =>
SameB (some B) h2 h48 ∧ ((((2 * 1 : Nat) ≤ 16777216 ∧ (2 : Nat) ≤ 16777216 ∧ List.length [(Value.slice none 0 0)] = 1) ∧ aFill (zrep [(Value.slice none 0 0)] 2) [(0,1,v38),(1,1,v36)] fun c49 =>
aNewS 2 c49 h48 fun v50 h51 =>
SameB (some B) h2 h51 ∧ (aFill [(vint 0),(Value.slice none 0 0),(Value.slice none 0 0),(Value.slice none 0 0),(Value.slice none 0 0)] [(0,2,v5),(2,1,v7),(3,1,v50)] fun c52 =>
aStore 5 v47 (Value.agg ⟨c52⟩) h51 fun h53 =>
Hold (W prog J 221 n0 3 (subC [1,1,1,1,0,1,0,0,1,0,0,1,1,1,1,1,0,0,1,0,0,1,1,1,1,1,1] (codeOf f3)) (RG.p (RG.p (RG.p (RG.p (RG.p (RG.p (RG.p (RG.p (RG.p (RG.p (RG.p (RG.p (RG.p (RG.p (RG.p (RG.p (RG.p f 110 (f.r 14)) 111 (f.r 9)) 112 (f.r 11)) 113 v1) 114 v3) 115 v4) 116 v5) 117 (f.r 11)) 118 (f.r 6)) 120 (f.r 5)) 122 (f.r 5)) 119 v7) 123 v36) 121 v38) 15 v47) 124 v50) 125 (Value.agg ⟨c52⟩)) h53 (contX pl3 prog J 221 n0 3 ct3 [1,1,1,1,0,1,0,0,1,0,0,1,1,1,1,1,0,0,1,0,0,1,1,1,1,1,1] (codeOf f3) [nx0,nx1] (RetQ prog [.tmp 2] n0 K)))))))))) ∧ (aAlloc [(vint 0),(Value.slice none 0 0),(Value.slice none 0 0),(Value.slice none 0 0),(Value.slice none 0 0)] h37 fun v54 h55 =>
SameB (some B) h2 h55 ∧ (((List.length [(vint 0)] = 1 ∧ (8 : Nat) ≤ 1024) ∧ aMkS [(vint 0)] (f.r 5) (f.r 5) h55 fun v56 h57 =>
SameB (some B) h2 h57 ∧ ((((2 * 1 : Nat) ≤ 16777216 ∧ (2 : Nat) ≤ 16777216 ∧ List.length [(Value.slice none 0 0)] = 1) ∧ aFill (zrep [(Value.slice none 0 0)] 2) [(0,1,v56),(1,1,v36)] fun c58 =>
aNewS 2 c58 h57 fun v59 h60 =>
SameB (some B) h2 h60 ∧ (aFill [(vint 0),(Value.slice none 0 0),(Value.slice none 0 0),(Value.slice none 0 0),(Value.slice none 0 0)] [(0,2,v5),(2,1,v7),(3,1,v59)] fun c61 =>
aStore 5 v54 (Value.agg ⟨c61⟩) h60 fun h62 =>
Hold (W prog J 221 n0 3 (subC [1,1,1,1,0,1,0,0,1,0,0,1,1,1,1,1,0,0,1,0,0,1,1,1,1,1,1] (codeOf f3)) (RG.p (RG.p (RG.p (RG.p (RG.p (RG.p (RG.p (RG.p (RG.p (RG.p (RG.p (RG.p (RG.p (RG.p (RG.p (RG.p (RG.p f 110 (f.r 14)) 111 (f.r 9)) 112 (f.r 11)) 113 v1) 114 v3) 115 v4) 116 v5) 117 (f.r 11)) 118 (f.r 6)) 120 (f.r 5)) 122 (f.r 5)) 119 v7) 123 v36) 15 v54) 121 v56) 124 v59) 125 (Value.agg ⟨c61⟩)) h62 (contX pl3 prog J 221 n0 3 ct3 [1,1,1,1,0,1,0,0,1,0,0,1,1,1,1,1,0,0,1,0,0,1,1,1,1,1,1] (codeOf f3) [nx0,nx1] (RetQ prog [.tmp 2] n0 K)))))))))))) ∧ (aAlloc [(vint 0),(Value.slice none 0 0),(Value.slice none 0 0),(Value.slice none 0 0),(Value.slice none 0 0)] h8 fun v63 h64 =>
SameB (some B) h2 h64 ∧ ((((List.length [(vint 0)] = 1 ∧ (8 : Nat) ≤ 1024) ∧ aMkS [(vint 0)] (f.r 5) (f.r 5) h64 fun v65 h66 =>
SameB (some B) h2 h66 ∧ (((List.length [(vint 0)] = 1 ∧ (8 : Nat) ≤ 1024) ∧ aMkS [(vint 0)] (f.r 5) (f.r 5) h66 fun v67 h68 =>
SameB (some B) h2 h68 ∧ ((((2 * 1 : Nat) ≤ 16777216 ∧ (2 : Nat) ≤ 16777216 ∧ List.length [(Value.slice none 0 0)] = 1) ∧ aFill (zrep [(Value.slice none 0 0)] 2) [(0,1,v65),(1,1,v67)] fun c69 =>
aNewS 2 c69 h68 fun v70 h71 =>
SameB (some B) h2 h71 ∧ (aFill [(vint 0),(Value.slice none 0 0),(Value.slice none 0 0),(Value.slice none 0 0),(Value.slice none 0 0)] [(0,2,v5),(2,1,v7),(3,1,v70)] fun c72 =>
aStore 5 v63 (Value.agg ⟨c72⟩) h71 fun h73 =>
Hold (W prog J 221 n0 3 (subC [1,1,1,1,0,1,0,0,1,0,0,1,1,1,1,1,0,0,1,0,0,1,1,1,1,1,1] (codeOf f3)) (RG.p (RG.p (RG.p (RG.p (RG.p (RG.p (RG.p (RG.p (RG.p (RG.p (RG.p (RG.p (RG.p (RG.p (RG.p (RG.p (RG.p f 110 (f.r 14)) 111 (f.r 9)) 112 (f.r 11)) 113 v1) 114 v3) 115 v4) 116 v5) 117 (f.r 11)) 118 (f.r 6)) 120 (f.r 5)) 122 (f.r 5)) 119 v7) 15 v63) 121 v65) 123 v67) 124 v70) 125 (Value.agg ⟨c72⟩)) h73 (contX pl3 prog J 221 n0 3 ct3 [1,1,1,1,0,1,0,0,1,0,0,1,1,1,1,1,0,0,1,0,0,1,1,1,1,1,1] (codeOf f3) [nx0,nx1] (RetQ prog [.tmp 2] n0 K)))))))))) ∧ (((List.length [(vint 0)] = 1 ∧ (8 : Nat) ≤ 1024) ∧ aMkS [(vint 0)] (f.r 5) (f.r 5) h64 fun v74 h75 =>
SameB (some B) h2 h75 ∧ (((List.length [(vint 0)] = 1 ∧ (8 : Nat) ≤ 1024) ∧ aMkS [(vint 0)] (f.r 5) (f.r 5) h75 fun v76 h77 =>
SameB (some B) h2 h77 ∧ ((((2 * 1 : Nat) ≤ 16777216 ∧ (2 : Nat) ≤ 16777216 ∧ List.length [(Value.slice none 0 0)] = 1) ∧ aFill (zrep [(Value.slice none 0 0)] 2) [(0,1,v76),(1,1,v74)] fun c78 =>
aNewS 2 c78 h77 fun v79 h80 =>
SameB (some B) h2 h80 ∧ (aFill [(vint 0),(Value.slice none 0 0),(Value.slice none 0 0),(Value.slice none 0 0),(Value.slice none 0 0)] [(0,2,v5),(2,1,v7),(3,1,v79)] fun c81 =>
aStore 5 v63 (Value.agg ⟨c81⟩) h80 fun h82 =>
Hold (W prog J 221 n0 3 (subC [1,1,1,1,0,1,0,0,1,0,0,1,1,1,1,1,0,0,1,0,0,1,1,1,1,1,1] (codeOf f3)) (RG.p (RG.p (RG.p (RG.p (RG.p (RG.p (RG.p (RG.p (RG.p (RG.p (RG.p (RG.p (RG.p (RG.p (RG.p (RG.p (RG.p f 110 (f.r 14)) 111 (f.r 9)) 112 (f.r 11)) 113 v1) 114 v3) 115 v4) 116 v5) 117 (f.r 11)) 118 (f.r 6)) 120 (f.r 5)) 122 (f.r 5)) 119 v7) 15 v63) 123 v74) 121 v76) 124 v79) 125 (Value.agg ⟨c81⟩)) h82 (contX pl3 prog J 221 n0 3 ct3 [1,1,1,1,0,1,0,0,1,0,0,1,1,1,1,1,0,0,1,0,0,1,1,1,1,1,1] (codeOf f3) [nx0,nx1] (RetQ prog [.tmp 2] n0 K))))))))))))))) ∧ (((List.length [(vint 0)] = 1 ∧ (8 : Nat) ≤ 1024) ∧ aMkS [(vint 0)] (f.r 5) (f.r 5) h2 fun v83 h84 =>
SameB (some B) h2 h84 ∧ (((((2 * 1 : Nat) ≤ 16777216 ∧ (2 : Nat) ≤ 16777216 ∧ List.length [(vint 0)] = 1) ∧ aFill (zrep [(vint 0)] 2) [(0,1,(f.r 11)),(1,1,(f.r 6))] fun c85 =>
aNewS 2 c85 h84 fun v86 h87 =>
SameB (some B) h2 h87 ∧ ((((List.length [(vint 0)] = 1 ∧ (8 : Nat) ≤ 1024) ∧ aMkS [(vint 0)] (f.r 5) (f.r 5) h87 fun v88 h89 =>
SameB (some B) h2 h89 ∧ (((((2 * 1 : Nat) ≤ 16777216 ∧ (2 : Nat) ≤ 16777216 ∧ List.length [(Value.slice none 0 0)] = 1) ∧ aFill (zrep [(Value.slice none 0 0)] 2) [(0,1,v83),(1,1,v88)] fun c90 =>
aNewS 2 c90 h89 fun v91 h92 =>
SameB (some B) h2 h92 ∧ (aFill [(vint 0),(Value.slice none 0 0),(Value.slice none 0 0),(Value.slice none 0 0),(Value.slice none 0 0)] [(0,2,v5),(2,1,v86),(3,1,v91)] fun c93 =>
aAlloc [(vint 0),(Value.slice none 0 0),(Value.slice none 0 0),(Value.slice none 0 0),(Value.slice none 0 0)] h92 fun v94 h95 =>
SameB (some B) h2 h95 ∧ (aStore 5 v94 (Value.agg ⟨c93⟩) h95 fun h96 =>
Hold (W prog J 221 n0 3 (subC [1,1,1,1,0,1,0,0,1,0,0,1,1,1,1,1,0,0,1,0,0,1,1,1,1,1,1] (codeOf f3)) (RG.p (RG.p (RG.p (RG.p (RG.p (RG.p (RG.p (RG.p (RG.p (RG.p (RG.p (RG.p (RG.p (RG.p (RG.p (RG.p (RG.p f 110 (f.r 14)) 111 (f.r 9)) 112 (f.r 11)) 113 v1) 114 v3) 115 v4) 116 v5) 117 (f.r 11)) 118 (f.r 6)) 120 (f.r 5)) 122 (f.r 5)) 121 v83) 119 v86) 123 v88) 124 v91) 125 (Value.agg ⟨c93⟩)) 15 v94) h96 (contX pl3 prog J 221 n0 3 ct3 [1,1,1,1,0,1,0,0,1,0,0,1,1,1,1,1,0,0,1,0,0,1,1,1,1,1,1] (codeOf f3) [nx0,nx1] (RetQ prog [.tmp 2] n0 K))))))) ∧ (aAlloc [(vint 0),(Value.slice none 0 0),(Value.slice none 0 0),(Value.slice none 0 0),(Value.slice none 0 0)] h89 fun v97 h98 =>
SameB (some B) h2 h98 ∧ ((((2 * 1 : Nat) ≤ 16777216 ∧ (2 : Nat) ≤ 16777216 ∧ List.length [(Value.slice none 0 0)] = 1) ∧ aFill (zrep [(Value.slice none 0 0)] 2) [(0,1,v83),(1,1,v88)] fun c99 =>
aNewS 2 c99 h98 fun v100 h101 =>
SameB (some B) h2 h101 ∧ (aFill [(vint 0),(Value.slice none 0 0),(Value.slice none 0 0),(Value.slice none 0 0),(Value.slice none 0 0)] [(0,2,v5),(2,1,v86),(3,1,v100)] fun c102 =>
aStore 5 v97 (Value.agg ⟨c102⟩) h101 fun h103 =>
Hold (W prog J 221 n0 3 (subC [1,1,1,1,0,1,0,0,1,0,0,1,1,1,1,1,0,0,1,0,0,1,1,1,1,1,1] (codeOf f3)) (RG.p (RG.p (RG.p (RG.p (RG.p (RG.p (RG.p (RG.p (RG.p (RG.p (RG.p (RG.p (RG.p (RG.p (RG.p (RG.p (RG.p f 110 (f.r 14)) 111 (f.r 9)) 112 (f.r 11)) 113 v1) 114 v3) 115 v4) 116 v5) 117 (f.r 11)) 118 (f.r 6)) 120 (f.r 5)) 122 (f.r 5)) 121 v83) 119 v86) 123 v88) 15 v97) 124 v100) 125 (Value.agg ⟨c102⟩)) h103 (contX pl3 prog J 221 n0 3 ct3 [1,1,1,1,0,1,0,0,1,0,0,1,1,1,1,1,0,0,1,0,0,1,1,1,1,1,1] (codeOf f3) [nx0,nx1] (RetQ prog [.tmp 2] n0 K)))))))))) ∧ (aAlloc [(vint 0),(Value.slice none 0 0),(Value.slice none 0 0),(Value.slice none 0 0),(Value.slice none 0 0)] h87 fun v104 h105 =>
SameB (some B) h2 h105 ∧ (((List.length [(vint 0)] = 1 ∧ (8 : Nat) ≤ 1024) ∧ aMkS [(vint 0)] (f.r 5) (f.r 5) h105 fun v106 h107 =>
SameB (some B) h2 h107 ∧ ((((2 * 1 : Nat) ≤ 16777216 ∧ (2 : Nat) ≤ 16777216 ∧ List.length [(Value.slice none 0 0)] = 1) ∧ aFill (zrep [(Value.slice none 0 0)] 2) [(0,1,v83),(1,1,v106)] fun c108 =>
aNewS 2 c108 h107 fun v109 h110 =>
SameB (some B) h2 h110 ∧ (aFill [(vint 0),(Value.slice none 0 0),(Value.slice none 0 0),(Value.slice none 0 0),(Value.slice none 0 0)] [(0,2,v5),(2,1,v86),(3,1,v109)] fun c111 =>
aStore 5 v104 (Value.agg ⟨c111⟩) h110 fun h112 =>
Hold (W prog J 221 n0 3 (subC [1,1,1,1,0,1,0,0,1,0,0,1,1,1,1,1,0,0,1,0,0,1,1,1,1,1,1] (codeOf f3)) (RG.p (RG.p (RG.p (RG.p (RG.p (RG.p (RG.p (RG.p (RG.p (RG.p (RG.p (RG.p (RG.p (RG.p (RG.p (RG.p (RG.p f 110 (f.r 14)) 111 (f.r 9)) 112 (f.r 11)) 113 v1) 114 v3) 115 v4) 116 v5) 117 (f.r 11)) 118 (f.r 6)) 120 (f.r 5)) 122 (f.r 5)) 121 v83) 119 v86) 15 v104) 123 v106) 124 v109) 125 (Value.agg ⟨c111⟩)) h112 (contX pl3 prog J 221 n0 3 ct3 [1,1,1,1,0,1,0,0,1,0,0,1,1,1,1,1,0,0,1,0,0,1,1,1,1,1,1] (codeOf f3) [nx0,nx1] (RetQ prog [.tmp 2] n0 K)))))))))))) ∧ (((List.length [(vint 0)] = 1 ∧ (8 : Nat) ≤ 1024) ∧ aMkS [(vint 0)] (f.r 5) (f.r 5) h84 fun v113 h114 =>
SameB (some B) h2 h114 ∧ (((((2 * 1 : Nat) ≤ 16777216 ∧ (2 : Nat) ≤ 16777216 ∧ List.length [(vint 0)] = 1) ∧ aFill (zrep [(vint 0)] 2) [(0,1,(f.r 11)),(1,1,(f.r 6))] fun c115 =>
aNewS 2 c115 h114 fun v116 h117 =>
SameB (some B) h2 h117 ∧ (((((2 * 1 : Nat) ≤ 16777216 ∧ (2 : Nat) ≤ 16777216 ∧ List.length [(Value.slice none 0 0)] = 1) ∧ aFill (zrep [(Value.slice none 0 0)] 2) [(0,1,v83),(1,1,v113)] fun c118 =>
aNewS 2 c118 h117 fun v119 h120 =>
SameB (some B) h2 h120 ∧ (aFill [(vint 0),(Value.slice none 0 0),(Value.slice none 0 0),(Value.slice none 0 0),(Value.slice none 0 0)] [(0,2,v5),(2,1,v116),(3,1,v119)] fun c121 =>
aAlloc [(vint 0),(Value.slice none 0 0),(Value.slice none 0 0),(Value.slice none 0 0),(Value.slice none 0 0)] h120 fun v122 h123 =>
SameB (some B) h2 h123 ∧ (aStore 5 v122 (Value.agg ⟨c121⟩) h123 fun h124 =>
Hold (W prog J 221 n0 3 (subC [1,1,1,1,0,1,0,0,1,0,0,1,1,1,1,1,0,0,1,0,0,1,1,1,1,1,1] (codeOf f3)) (RG.p (RG.p (RG.p (RG.p (RG.p (RG.p (RG.p (RG.p (RG.p (RG.p (RG.p (RG.p (RG.p (RG.p (RG.p (RG.p (RG.p f 110 (f.r 14)) 111 (f.r 9)) 112 (f.r 11)) 113 v1) 114 v3) 115 v4) 116 v5) 117 (f.r 11)) 118 (f.r 6)) 120 (f.r 5)) 122 (f.r 5)) 121 v83) 123 v113) 119 v116) 124 v119) 125 (Value.agg ⟨c121⟩)) 15 v122) h124 (contX pl3 prog J 221 n0 3 ct3 [1,1,1,1,0,1,0,0,1,0,0,1,1,1,1,1,0,0,1,0,0,1,1,1,1,1,1] (codeOf f3) [nx0,nx1] (RetQ prog [.tmp 2] n0 K))))))) ∧ (aAlloc [(vint 0),(Value.slice none 0 0),(Value.slice none 0 0),(Value.slice none 0 0),(Value.slice none 0 0)] h117 fun v125 h126 =>
SameB (some B) h2 h126 ∧ ((((2 * 1 : Nat) ≤ 16777216 ∧ (2 : Nat) ≤ 16777216 ∧ List.length [(Value.slice none 0 0)] = 1) ∧ aFill (zrep [(Value.slice none 0 0)] 2) [(0,1,v83),(1,1,v113)] fun c127 =>
aNewS 2 c127 h126 fun v128 h129 =>
SameB (some B) h2 h129 ∧ (aFill [(vint 0),(Value.slice none 0 0),(Value.slice none 0 0),(Value.slice none 0 0),(Value.slice none 0 0)] [(0,2,v5),(2,1,v116),(3,1,v128)] fun c130 =>
aStore 5 v125 (Value.agg ⟨c130⟩) h129 fun h131 =>
Hold (W prog J 221 n0 3 (subC [1,1,1,1,0,1,0,0,1,0,0,1,1,1,1,1,0,0,1,0,0,1,1,1,1,1,1] (codeOf f3)) (RG.p (RG.p (RG.p (RG.p (RG.p (RG.p (RG.p (RG.p (RG.p (RG.p (RG.p (RG.p (RG.p (RG.p (RG.p (RG.p (RG.p f 110 (f.r 14)) 111 (f.r 9)) 112 (f.r 11)) 113 v1) 114 v3) 115 v4) 116 v5) 117 (f.r 11)) 118 (f.r 6)) 120 (f.r 5)) 122 (f.r 5)) 121 v83) 123 v113) 119 v116) 15 v125) 124 v128) 125 (Value.agg ⟨c130⟩)) h131 (contX pl3 prog J 221 n0 3 ct3 [1,1,1,1,0,1,0,0,1,0,0,1,1,1,1,1,0,0,1,0,0,1,1,1,1,1,1] (codeOf f3) [nx0,nx1] (RetQ prog [.tmp 2] n0 K)))))))))) ∧ ((((2 * 1 : Nat) ≤ 16777216 ∧ (2 : Nat) ≤ 16777216 ∧ List.length [(Value.slice none 0 0)] = 1) ∧ aFill (zrep [(Value.slice none 0 0)] 2) [(0,1,v83),(1,1,v113)] fun c132 =>
aNewS 2 c132 h114 fun v133 h134 =>
SameB (some B) h2 h134 ∧ (((((2 * 1 : Nat) ≤ 16777216 ∧ (2 : Nat) ≤ 16777216 ∧ List.length [(vint 0)] = 1) ∧ aFill (zrep [(vint 0)] 2) [(0,1,(f.r 11)),(1,1,(f.r 6))] fun c135 =>
aNewS 2 c135 h134 fun v136 h137 =>
SameB (some B) h2 h137 ∧ (aFill [(vint 0),(Value.slice none 0 0),(Value.slice none 0 0),(Value.slice none 0 0),(Value.slice none 0 0)] [(0,2,v5),(2,1,v136),(3,1,v133)] fun c138 =>
aAlloc [(vint 0),(Value.slice none 0 0),(Value.slice none 0 0),(Value.slice none 0 0),(Value.slice none 0 0)] h137 fun v139 h140 =>
SameB (some B) h2 h140 ∧ (aStore 5 v139 (Value.agg ⟨c138⟩) h140 fun h141 =>
Hold (W prog J 221 n0 3 (subC [1,1,1,1,0,1,0,0,1,0,0,1,1,1,1,1,0,0,1,0,0,1,1,1,1,1,1] (codeOf f3)) (RG.p (RG.p (RG.p (RG.p (RG.p (RG.p (RG.p (RG.p (RG.p (RG.p (RG.p (RG.p (RG.p (RG.p (RG.p (RG.p (RG.p f 110 (f.r 14)) 111 (f.r 9)) 112 (f.r 11)) 113 v1) 114 v3) 115 v4) 116 v5) 117 (f.r 11)) 118 (f.r 6)) 120 (f.r 5)) 122 (f.r 5)) 121 v83) 123 v113) 124 v133) 119 v136) 125 (Value.agg ⟨c138⟩)) 15 v139) h141 (contX pl3 prog J 221 n0 3 ct3 [1,1,1,1,0,1,0,0,1,0,0,1,1,1,1,1,0,0,1,0,0,1,1,1,1,1,1] (codeOf f3) [nx0,nx1] (RetQ prog [.tmp 2] n0 K))))))) ∧ (aAlloc [(vint 0),(Value.slice none 0 0),(Value.slice none 0 0),(Value.slice none 0 0),(Value.slice none 0 0)] h134 fun v142 h143 =>
SameB (some B) h2 h143 ∧ ((((2 * 1 : Nat) ≤ 16777216 ∧ (2 : Nat) ≤ 16777216 ∧ List.length [(vint 0)] = 1) ∧ aFill (zrep [(vint 0)] 2) [(0,1,(f.r 11)),(1,1,(f.r 6))] fun c144 =>
aNewS 2 c144 h143 fun v145 h146 =>
SameB (some B) h2 h146 ∧ (aFill [(vint 0),(Value.slice none 0 0),(Value.slice none 0 0),(Value.slice none 0 0),(Value.slice none 0 0)] [(0,2,v5),(2,1,v145),(3,1,v133)] fun c147 =>
aStore 5 v142 (Value.agg ⟨c147⟩) h146 fun h148 =>
Hold (W prog J 221 n0 3 (subC [1,1,1,1,0,1,0,0,1,0,0,1,1,1,1,1,0,0,1,0,0,1,1,1,1,1,1] (codeOf f3)) (RG.p (RG.p (RG.p (RG.p (RG.p (RG.p (RG.p (RG.p (RG.p (RG.p (RG.p (RG.p (RG.p (RG.p (RG.p (RG.p (RG.p f 110 (f.r 14)) 111 (f.r 9)) 112 (f.r 11)) 113 v1) 114 v3) 115 v4) 116 v5) 117 (f.r 11)) 118 (f.r 6)) 120 (f.r 5)) 122 (f.r 5)) 121 v83) 123 v113) 124 v133) 15 v142) 119 v145) 125 (Value.agg ⟨c147⟩)) h148 (contX pl3 prog J 221 n0 3 ct3 [1,1,1,1,0,1,0,0,1,0,0,1,1,1,1,1,0,0,1,0,0,1,1,1,1,1,1] (codeOf f3) [nx0,nx1] (RetQ prog [.tmp 2] n0 K)))))))))) ∧ (aAlloc [(vint 0),(Value.slice none 0 0),(Value.slice none 0 0),(Value.slice none 0 0),(Value.slice none 0 0)] h114 fun v149 h150 =>
SameB (some B) h2 h150 ∧ (((((2 * 1 : Nat) ≤ 16777216 ∧ (2 : Nat) ≤ 16777216 ∧ List.length [(vint 0)] = 1) ∧ aFill (zrep [(vint 0)] 2) [(0,1,(f.r 11)),(1,1,(f.r 6))] fun c151 =>
aNewS 2 c151 h150 fun v152 h153 =>
SameB (some B) h2 h153 ∧ ((((2 * 1 : Nat) ≤ 16777216 ∧ (2 : Nat) ≤ 16777216 ∧ List.length [(Value.slice none 0 0)] = 1) ∧ aFill (zrep [(Value.slice none 0 0)] 2) [(0,1,v83),(1,1,v113)] fun c154 =>
aNewS 2 c154 h153 fun v155 h156 =>
SameB (some B) h2 h156 ∧ (aFill [(vint 0),(Value.slice none 0 0),(Value.slice none 0 0),(Value.slice none 0 0),(Value.slice none 0 0)] [(0,2,v5),(2,1,v152),(3,1,v155)] fun c157 =>
aStore 5 v149 (Value.agg ⟨c157⟩) h156 fun h158 =>
Hold (W prog J 221 n0 3 (subC [1,1,1,1,0,1,0,0,1,0,0,1,1,1,1,1,0,0,1,0,0,1,1,1,1,1,1] (codeOf f3)) (RG.p (RG.p (RG.p (RG.p (RG.p (RG.p (RG.p (RG.p (RG.p (RG.p (RG.p (RG.p (RG.p (RG.p (RG.p (RG.p (RG.p f 110 (f.r 14)) 111 (f.r 9)) 112 (f.r 11)) 113 v1) 114 v3) 115 v4) 116 v5) 117 (f.r 11)) 118 (f.r 6)) 120 (f.r 5)) 122 (f.r 5)) 121 v83) 123 v113) 15 v149) 119 v152) 124 v155) 125 (Value.agg ⟨c157⟩)) h158 (contX pl3 prog J 221 n0 3 ct3 [1,1,1,1,0,1,0,0,1,0,0,1,1,1,1,1,0,0,1,0,0,1,1,1,1,1,1] (codeOf f3) [nx0,nx1] (RetQ prog [.tmp 2] n0 K)))))))) ∧ ((((2 * 1 : Nat) ≤ 16777216 ∧ (2 : Nat) ≤ 16777216 ∧ List.length [(Value.slice none 0 0)] = 1) ∧ aFill (zrep [(Value.slice none 0 0)] 2) [(0,1,v83),(1,1,v113)] fun c159 =>
aNewS 2 c159 h150 fun v160 h161 =>
SameB (some B) h2 h161 ∧ ((((2 * 1 : Nat) ≤ 16777216 ∧ (2 : Nat) ≤ 16777216 ∧ List.length [(vint 0)] = 1) ∧ aFill (zrep [(vint 0)] 2) [(0,1,(f.r 11)),(1,1,(f.r 6))] fun c162 =>
aNewS 2 c162 h161 fun v163 h164 =>
SameB (some B) h2 h164 ∧ (aFill [(vint 0),(Value.slice none 0 0),(Value.slice none 0 0),(Value.slice none 0 0),(Value.slice none 0 0)] [(0,2,v5),(2,1,v163),(3,1,v160)] fun c165 =>
aStore 5 v149 (Value.agg ⟨c165⟩) h164 fun h166 =>
Hold (W prog J 221 n0 3 (subC [1,1,1,1,0,1,0,0,1,0,0,1,1,1,1,1,0,0,1,0,0,1,1,1,1,1,1] (codeOf f3)) (RG.p (RG.p (RG.p (RG.p (RG.p (RG.p (RG.p (RG.p (RG.p (RG.p (RG.p (RG.p (RG.p (RG.p (RG.p (RG.p (RG.p f 110 (f.r 14)) 111 (f.r 9)) 112 (f.r 11)) 113 v1) 114 v3) 115 v4) 116 v5) 117 (f.r 11)) 118 (f.r 6)) 120 (f.r 5)) 122 (f.r 5)) 121 v83) 123 v113) 15 v149) 124 v160) 119 v163) 125 (Value.agg ⟨c165⟩)) h166 (contX pl3 prog J 221 n0 3 ct3 [1,1,1,1,0,1,0,0,1,0,0,1,1,1,1,1,0,0,1,0,0,1,1,1,1,1,1] (codeOf f3) [nx0,nx1] (RetQ prog [.tmp 2] n0 K))))))))))))) ∧ (aAlloc [(vint 0),(Value.slice none 0 0),(Value.slice none 0 0),(Value.slice none 0 0),(Value.slice none 0 0)] h84 fun v167 h168 =>
SameB (some B) h2 h168 ∧ (((((2 * 1 : Nat) ≤ 16777216 ∧ (2 : Nat) ≤ 16777216 ∧ List.length [(vint 0)] = 1) ∧ aFill (zrep [(vint 0)] 2) [(0,1,(f.r 11)),(1,1,(f.r 6))] fun c169 =>
aNewS 2 c169 h168 fun v170 h171 =>
SameB (some B) h2 h171 ∧ (((List.length [(vint 0)] = 1 ∧ (8 : Nat) ≤ 1024) ∧ aMkS [(vint 0)] (f.r 5) (f.r 5) h171 fun v172 h173 =>
SameB (some B) h2 h173 ∧ ((((2 * 1 : Nat) ≤ 16777216 ∧ (2 : Nat) ≤ 16777216 ∧ List.length [(Value.slice none 0 0)] = 1) ∧ aFill (zrep [(Value.slice none 0 0)] 2) [(0,1,v83),(1,1,v172)] fun c174 =>
aNewS 2 c174 h173 fun v175 h176 =>
SameB (some B) h2 h176 ∧ (aFill [(vint 0),(Value.slice none 0 0),(Value.slice none 0 0),(Value.slice none 0 0),(Value.slice none 0 0)] [(0,2,v5),(2,1,v170),(3,1,v175)] fun c177 =>
aStore 5 v167 (Value.agg ⟨c177⟩) h176 fun h178 =>
Hold (W prog J 221 n0 3 (subC [1,1,1,1,0,1,0,0,1,0,0,1,1,1,1,1,0,0,1,0,0,1,1,1,1,1,1] (codeOf f3)) (RG.p (RG.p (RG.p (RG.p (RG.p (RG.p (RG.p (RG.p (RG.p (RG.p (RG.p (RG.p (RG.p (RG.p (RG.p (RG.p (RG.p f 110 (f.r 14)) 111 (f.r 9)) 112 (f.r 11)) 113 v1) 114 v3) 115 v4) 116 v5) 117 (f.r 11)) 118 (f.r 6)) 120 (f.r 5)) 122 (f.r 5)) 121 v83) 15 v167) 119 v170) 123 v172) 124 v175) 125 (Value.agg ⟨c177⟩)) h178 (contX pl3 prog J 221 n0 3 ct3 [1,1,1,1,0,1,0,0,1,0,0,1,1,1,1,1,0,0,1,0,0,1,1,1,1,1,1] (codeOf f3) [nx0,nx1] (RetQ prog [.tmp 2] n0 K)))))))))) ∧ (((List.length [(vint 0)] = 1 ∧ (8 : Nat) ≤ 1024) ∧ aMkS [(vint 0)] (f.r 5) (f.r 5) h168 fun v179 h180 =>
SameB (some B) h2 h180 ∧ (((((2 * 1 : Nat) ≤ 16777216 ∧ (2 : Nat) ≤ 16777216 ∧ List.length [(vint 0)] = 1) ∧ aFill (zrep [(vint 0)] 2) [(0,1,(f.r 11)),(1,1,(f.r 6))] fun c181 =>
aNewS 2 c181 h180 fun v182 h183 =>
SameB (some B) h2 h183 ∧ ((((2 * 1 : Nat) ≤ 16777216 ∧ (2 : Nat) ≤ 16777216 ∧ List.length [(Value.slice none 0 0)] = 1) ∧ aFill (zrep [(Value.slice none 0 0)] 2) [(0,1,v83),(1,1,v179)] fun c184 =>
aNewS 2 c184 h183 fun v185 h186 =>
SameB (some B) h2 h186 ∧ (aFill [(vint 0),(Value.slice none 0 0),(Value.slice none 0 0),(Value.slice none 0 0),(Value.slice none 0 0)] [(0,2,v5),(2,1,v182),(3,1,v185)] fun c187 =>
aStore 5 v167 (Value.agg ⟨c187⟩) h186 fun h188 =>
Hold (W prog J 221 n0 3 (subC [1,1,1,1,0,1,0,0,1,0,0,1,1,1,1,1,0,0,1,0,0,1,1,1,1,1,1] (codeOf f3)) (RG.p (RG.p (RG.p (RG.p (RG.p (RG.p (RG.p (RG.p (RG.p (RG.p (RG.p (RG.p (RG.p (RG.p (RG.p (RG.p (RG.p f 110 (f.r 14)) 111 (f.r 9)) 112 (f.r 11)) 113 v1) 114 v3) 115 v4) 116 v5) 117 (f.r 11)) 118 (f.r 6)) 120 (f.r 5)) 122 (f.r 5)) 121 v83) 15 v167) 123 v179) 119 v182) 124 v185) 125 (Value.agg ⟨c187⟩)) h188 (contX pl3 prog J 221 n0 3 ct3 [1,1,1,1,0,1,0,0,1,0,0,1,1,1,1,1,0,0,1,0,0,1,1,1,1,1,1] (codeOf f3) [nx0,nx1] (RetQ prog [.tmp 2] n0 K)))))))) ∧ ((((2 * 1 : Nat) ≤ 16777216 ∧ (2 : Nat) ≤ 16777216 ∧ List.length [(Value.slice none 0 0)] = 1) ∧ aFill (zrep [(Value.slice none 0 0)] 2) [(0,1,v83),(1,1,v179)] fun c189 =>
aNewS 2 c189 h180 fun v190 h191 =>
SameB (some B) h2 h191 ∧ ((((2 * 1 : Nat) ≤ 16777216 ∧ (2 : Nat) ≤ 16777216 ∧ List.length [(vint 0)] = 1) ∧ aFill (zrep [(vint 0)] 2) [(0,1,(f.r 11)),(1,1,(f.r 6))] fun c192 =>
aNewS 2 c192 h191 fun v193 h194 =>
SameB (some B) h2 h194 ∧ (aFill [(vint 0),(Value.slice none 0 0),(Value.slice none 0 0),(Value.slice none 0 0),(Value.slice none 0 0)] [(0,2,v5),(2,1,v193),(3,1,v190)] fun c195 =>
aStore 5 v167 (Value.agg ⟨c195⟩) h194 fun h196 =>
Hold (W prog J 221 n0 3 (subC [1,1,1,1,0,1,0,0,1,0,0,1,1,1,1,1,0,0,1,0,0,1,1,1,1,1,1] (codeOf f3)) (RG.p (RG.p (RG.p (RG.p (RG.p (RG.p (RG.p (RG.p (RG.p (RG.p (RG.p (RG.p (RG.p (RG.p (RG.p (RG.p (RG.p f 110 (f.r 14)) 111 (f.r 9)) 112 (f.r 11)) 113 v1) 114 v3) 115 v4) 116 v5) 117 (f.r 11)) 118 (f.r 6)) 120 (f.r 5)) 122 (f.r 5)) 121 v83) 15 v167) 123 v179) 124 v190) 119 v193) 125 (Value.agg ⟨c195⟩)) h196 (contX pl3 prog J 221 n0 3 ct3 [1,1,1,1,0,1,0,0,1,0,0,1,1,1,1,1,0,0,1,0,0,1,1,1,1,1,1] (codeOf f3) [nx0,nx1] (RetQ prog [.tmp 2] n0 K)))))))))))))))) ∧ (((List.length [(vint 0)] = 1 ∧ (8 : Nat) ≤ 1024) ∧ aMkS [(vint 0)] (f.r 5) (f.r 5) h2 fun v197 h198 =>
SameB (some B) h2 h198 ∧ (((((2 * 1 : Nat) ≤ 16777216 ∧ (2 : Nat) ≤ 16777216 ∧ List.length [(vint 0)] = 1) ∧ aFill (zrep [(vint 0)] 2) [(0,1,(f.r 11)),(1,1,(f.r 6))] fun c199 =>
aNewS 2 c199 h198 fun v200 h201 =>
SameB (some B) h2 h201 ∧ ((((List.length [(vint 0)] = 1 ∧ (8 : Nat) ≤ 1024) ∧ aMkS [(vint 0)] (f.r 5) (f.r 5) h201 fun v202 h203 =>
SameB (some B) h2 h203 ∧ (((((2 * 1 : Nat) ≤ 16777216 ∧ (2 : Nat) ≤ 16777216 ∧ List.length [(Value.slice none 0 0)] = 1) ∧ aFill (zrep [(Value.slice none 0 0)] 2) [(0,1,v202),(1,1,v197)] fun c204 =>
aNewS 2 c204 h203 fun v205 h206 =>
SameB (some B) h2 h206 ∧ (aFill [(vint 0),(Value.slice none 0 0),(Value.slice none 0 0),(Value.slice none 0 0),(Value.slice none 0 0)] [(0,2,v5),(2,1,v200),(3,1,v205)] fun c207 =>
aAlloc [(vint 0),(Value.slice none 0 0),(Value.slice none 0 0),(Value.slice none 0 0),(Value.slice none 0 0)] h206 fun v208 h209 =>
SameB (some B) h2 h209 ∧ (aStore 5 v208 (Value.agg ⟨c207⟩) h209 fun h210 =>
Hold (W prog J 221 n0 3 (subC [1,1,1,1,0,1,0,0,1,0,0,1,1,1,1,1,0,0,1,0,0,1,1,1,1,1,1] (codeOf f3)) (RG.p (RG.p (RG.p (RG.p (RG.p (RG.p (RG.p (RG.p (RG.p (RG.p (RG.p (RG.p (RG.p (RG.p (RG.p (RG.p (RG.p f 110 (f.r 14)) 111 (f.r 9)) 112 (f.r 11)) 113 v1) 114 v3) 115 v4) 116 v5) 117 (f.r 11)) 118 (f.r 6)) 120 (f.r 5)) 122 (f.r 5)) 123 v197) 119 v200) 121 v202) 124 v205) 125 (Value.agg ⟨c207⟩)) 15 v208) h210 (contX pl3 prog J 221 n0 3 ct3 [1,1,1,1,0,1,0,0,1,0,0,1,1,1,1,1,0,0,1,0,0,1,1,1,1,1,1] (codeOf f3) [nx0,nx1] (RetQ prog [.tmp 2] n0 K))))))) ∧ (aAlloc [(vint 0),(Value.slice none 0 0),(Value.slice none 0 0),(Value.slice none 0 0),(Value.slice none 0 0)] h203 fun v211 h212 =>
SameB (some B) h2 h212 ∧ ((((2 * 1 : Nat) ≤ 16777216 ∧ (2 : Nat) ≤ 16777216 ∧ List.length [(Value.slice none 0 0)] = 1) ∧ aFill (zrep [(Value.slice none 0 0)] 2) [(0,1,v202),(1,1,v197)] fun c213 =>
aNewS 2 c213 h212 fun v214 h215 =>
SameB (some B) h2 h215 ∧ (aFill [(vint 0),(Value.slice none 0 0),(Value.slice none 0 0),(Value.slice none 0 0),(Value.slice none 0 0)] [(0,2,v5),(2,1,v200),(3,1,v214)] fun c216 =>
aStore 5 v211 (Value.agg ⟨c216⟩) h215 fun h217 =>
Hold (W prog J 221 n0 3 (subC [1,1,1,1,0,1,0,0,1,0,0,1,1,1,1,1,0,0,1,0,0,1,1,1,1,1,1] (codeOf f3)) (RG.p (RG.p (RG.p (RG.p (RG.p (RG.p (RG.p (RG.p (RG.p (RG.p (RG.p (RG.p (RG.p (RG.p (RG.p (RG.p (RG.p f 110 (f.r 14)) 111 (f.r 9)) 112 (f.r 11)) 113 v1) 114 v3) 115 v4) 116 v5) 117 (f.r 11)) 118 (f.r 6)) 120 (f.r 5)) 122 (f.r 5)) 123 v197) 119 v200) 121 v202) 15 v211) 124 v214) 125 (Value.agg ⟨c216⟩)) h217 (contX pl3 prog J 221 n0 3 ct3 [1,1,1,1,0,1,0,0,1,0,0,1,1,1,1,1,0,0,1,0,0,1,1,1,1,1,1] (codeOf f3) [nx0,nx1] (RetQ prog [.tmp 2] n0 K)))))))))) ∧ (aAlloc [(vint 0),(Value.slice none 0 0),(Value.slice none 0 0),(Value.slice none 0 0),(Value.slice none 0 0)] h201 fun v218 h219 =>
SameB (some B) h2 h219 ∧ (((List.length [(vint 0)] = 1 ∧ (8 : Nat) ≤ 1024) ∧ aMkS [(vint 0)] (f.r 5) (f.r 5) h219 fun v220 h221 =>
SameB (some B) h2 h221 ∧ ((((2 * 1 : Nat) ≤ 16777216 ∧ (2 : Nat) ≤ 16777216 ∧ List.length [(Value.slice none 0 0)] = 1) ∧ aFill (zrep [(Value.slice none 0 0)] 2) [(0,1,v220),(1,1,v197)] fun c222 =>
aNewS 2 c222 h221 fun v223 h224 =>
SameB (some B) h2 h224 ∧ (aFill [(vint 0),(Value.slice none 0 0),(Value.slice none 0 0),(Value.slice none 0 0),(Value.slice none 0 0)] [(0,2,v5),(2,1,v200),(3,1,v223)] fun c225 =>
aStore 5 v218 (Value.agg ⟨c225⟩) h224 fun h226 =>
Hold (W prog J 221 n0 3 (subC [1,1,1,1,0,1,0,0,1,0,0,1,1,1,1,1,0,0,1,0,0,1,1,1,1,1,1] (codeOf f3)) (RG.p (RG.p (RG.p (RG.p (RG.p (RG.p (RG.p (RG.p (RG.p (RG.p (RG.p (RG.p (RG.p (RG.p (RG.p (RG.p (RG.p f 110 (f.r 14)) 111 (f.r 9)) 112 (f.r 11)) 113 v1) 114 v3) 115 v4) 116 v5) 117 (f.r 11)) 118 (f.r 6)) 120 (f.r 5)) 122 (f.r 5)) 123 v197) 119 v200) 15 v218) 121 v220) 124 v223) 125 (Value.agg ⟨c225⟩)) h226 (contX pl3 prog J 221 n0 3 ct3 [1,1,1,1,0,1,0,0,1,0,0,1,1,1,1,1,0,0,1,0,0,1,1,1,1,1,1] (codeOf f3) [nx0,nx1] (RetQ prog [.tmp 2] n0 K)))))))))))) ∧ (((List.length [(vint 0)] = 1 ∧ (8 : Nat) ≤ 1024) ∧ aMkS [(vint 0)] (f.r 5) (f.r 5) h198 fun v227 h228 =>
SameB (some B) h2 h228 ∧ (((((2 * 1 : Nat) ≤ 16777216 ∧ (2 : Nat) ≤ 16777216 ∧ List.length [(vint 0)] = 1) ∧ aFill (zrep [(vint 0)] 2) [(0,1,(f.r 11)),(1,1,(f.r 6))] fun c229 =>
aNewS 2 c229 h228 fun v230 h231 =>
SameB (some B) h2 h231 ∧ (((((2 * 1 : Nat) ≤ 16777216 ∧ (2 : Nat) ≤ 16777216 ∧ List.length [(Value.slice none 0 0)] = 1) ∧ aFill (zrep [(Value.slice none 0 0)] 2) [(0,1,v227),(1,1,v197)] fun c232 =>
aNewS 2 c232 h231 fun v233 h234 =>
SameB (some B) h2 h234 ∧ (aFill [(vint 0),(Value.slice none 0 0),(Value.slice none 0 0),(Value.slice none 0 0),(Value.slice none 0 0)] [(0,2,v5),(2,1,v230),(3,1,v233)] fun c235 =>
aAlloc [(vint 0),(Value.slice none 0 0),(Value.slice none 0 0),(Value.slice none 0 0),(Value.slice none 0 0)] h234 fun v236 h237 =>
SameB (some B) h2 h237 ∧ (aStore 5 v236 (Value.agg ⟨c235⟩) h237 fun h238 =>
Hold (W prog J 221 n0 3 (subC [1,1,1,1,0,1,0,0,1,0,0,1,1,1,1,1,0,0,1,0,0,1,1,1,1,1,1] (codeOf f3)) (RG.p (RG.p (RG.p (RG.p (RG.p (RG.p (RG.p (RG.p (RG.p (RG.p (RG.p (RG.p (RG.p (RG.p (RG.p (RG.p (RG.p f 110 (f.r 14)) 111 (f.r 9)) 112 (f.r 11)) 113 v1) 114 v3) 115 v4) 116 v5) 117 (f.r 11)) 118 (f.r 6)) 120 (f.r 5)) 122 (f.r 5)) 123 v197) 121 v227) 119 v230) 124 v233) 125 (Value.agg ⟨c235⟩)) 15 v236) h238 (contX pl3 prog J 221 n0 3 ct3 [1,1,1,1,0,1,0,0,1,0,0,1,1,1,1,1,0,0,1,0,0,1,1,1,1,1,1] (codeOf f3) [nx0,nx1] (RetQ prog [.tmp 2] n0 K))))))) ∧ (aAlloc [(vint 0),(Value.slice none 0 0),(Value.slice none 0 0),(Value.slice none 0 0),(Value.slice none 0 0)] h231 fun v239 h240 =>
SameB (some B) h2 h240 ∧ ((((2 * 1 : Nat) ≤ 16777216 ∧ (2 : Nat) ≤ 16777216 ∧ List.length [(Value.slice none 0 0)] = 1) ∧ aFill (zrep [(Value.slice none 0 0)] 2) [(0,1,v227),(1,1,v197)] fun c241 =>
aNewS 2 c241 h240 fun v242 h243 =>
SameB (some B) h2 h243 ∧ (aFill [(vint 0),(Value.slice none 0 0),(Value.slice none 0 0),(Value.slice none 0 0),(Value.slice none 0 0)] [(0,2,v5),(2,1,v230),(3,1,v242)] fun c244 =>
aStore 5 v239 (Value.agg ⟨c244⟩) h243 fun h245 =>
Hold (W prog J 221 n0 3 (subC [1,1,1,1,0,1,0,0,1,0,0,1,1,1,1,1,0,0,1,0,0,1,1,1,1,1,1] (codeOf f3)) (RG.p (RG.p (RG.p (RG.p (RG.p (RG.p (RG.p (RG.p (RG.p (RG.p (RG.p (RG.p (RG.p (RG.p (RG.p (RG.p (RG.p f 110 (f.r 14)) 111 (f.r 9)) 112 (f.r 11)) 113 v1) 114 v3) 115 v4) 116 v5) 117 (f.r 11)) 118 (f.r 6)) 120 (f.r 5)) 122 (f.r 5)) 123 v197) 121 v227) 119 v230) 15 v239) 124 v242) 125 (Value.agg ⟨c244⟩)) h245 (contX pl3 prog J 221 n0 3 ct3 [1,1,1,1,0,1,0,0,1,0,0,1,1,1,1,1,0,0,1,0,0,1,1,1,1,1,1] (codeOf f3) [nx0,nx1] (RetQ prog [.tmp 2] n0 K)))))))))) ∧ ((((2 * 1 : Nat) ≤ 16777216 ∧ (2 : Nat) ≤ 16777216 ∧ List.length [(Value.slice none 0 0)] = 1) ∧ aFill (zrep [(Value.slice none 0 0)] 2) [(0,1,v227),(1,1,v197)] fun c246 =>
aNewS 2 c246 h228 fun v247 h248 =>
SameB (some B) h2 h248 ∧ (((((2 * 1 : Nat) ≤ 16777216 ∧ (2 : Nat) ≤ 16777216 ∧ List.length [(vint 0)] = 1) ∧ aFill (zrep [(vint 0)] 2) [(0,1,(f.r 11)),(1,1,(f.r 6))] fun c249 =>
aNewS 2 c249 h248 fun v250 h251 =>
SameB (some B) h2 h251 ∧ (aFill [(vint 0),(Value.slice none 0 0),(Value.slice none 0 0),(Value.slice none 0 0),(Value.slice none 0 0)] [(0,2,v5),(2,1,v250),(3,1,v247)] fun c252 =>
aAlloc [(vint 0),(Value.slice none 0 0),(Value.slice none 0 0),(Value.slice none 0 0),(Value.slice none 0 0)] h251 fun v253 h254 =>
SameB (some B) h2 h254 ∧ (aStore 5 v253 (Value.agg ⟨c252⟩) h254 fun h255 =>
Hold (W prog J 221 n0 3 (subC [1,1,1,1,0,1,0,0,1,0,0,1,1,1,1,1,0,0,1,0,0,1,1,1,1,1,1] (codeOf f3)) (RG.p (RG.p (RG.p (RG.p (RG.p (RG.p (RG.p (RG.p (RG.p (RG.p (RG.p (RG.p (RG.p (RG.p (RG.p (RG.p (RG.p f 110 (f.r 14)) 111 (f.r 9)) 112 (f.r 11)) 113 v1) 114 v3) 115 v4) 116 v5) 117 (f.r 11)) 118 (f.r 6)) 120 (f.r 5)) 122 (f.r 5)) 123 v197) 121 v227) 124 v247) 119 v250) 125 (Value.agg ⟨c252⟩)) 15 v253) h255 (contX pl3 prog J 221 n0 3 ct3 [1,1,1,1,0,1,0,0,1,0,0,1,1,1,1,1,0,0,1,0,0,1,1,1,1,1,1] (codeOf f3) [nx0,nx1] (RetQ prog [.tmp 2] n0 K))))))) ∧ (aAlloc [(vint 0),(Value.slice none 0 0),(Value.slice none 0 0),(Value.slice none 0 0),(Value.slice none 0 0)] h248 fun v256 h257 =>
SameB (some B) h2 h257 ∧ ((((2 * 1 : Nat) ≤ 16777216 ∧ (2 : Nat) ≤ 16777216 ∧ List.length [(vint 0)] = 1) ∧ aFill (zrep [(vint 0)] 2) [(0,1,(f.r 11)),(1,1,(f.r 6))] fun c258 =>
aNewS 2 c258 h257 fun v259 h260 =>
SameB (some B) h2 h260 ∧ (aFill [(vint 0),(Value.slice none 0 0),(Value.slice none 0 0),(Value.slice none 0 0),(Value.slice none 0 0)] [(0,2,v5),(2,1,v259),(3,1,v247)] fun c261 =>
aStore 5 v256 (Value.agg ⟨c261⟩) h260 fun h262 =>
Hold (W prog J 221 n0 3 (subC [1,1,1,1,0,1,0,0,1,0,0,1,1,1,1,1,0,0,1,0,0,1,1,1,1,1,1] (codeOf f3)) (RG.p (RG.p (RG.p (RG.p (RG.p (RG.p (RG.p (RG.p (RG.p (RG.p (RG.p (RG.p (RG.p (RG.p (RG.p (RG.p (RG.p f 110 (f.r 14)) 111 (f.r 9)) 112 (f.r 11)) 113 v1) 114 v3) 115 v4) 116 v5) 117 (f.r 11)) 118 (f.r 6)) 120 (f.r 5)) 122 (f.r 5)) 123 v197) 121 v227) 124 v247) 15 v256) 119 v259) 125 (Value.agg ⟨c261⟩)) h262 (contX pl3 prog J 221 n0 3 ct3 [1,1,1,1,0,1,0,0,1,0,0,1,1,1,1,1,0,0,1,0,0,1,1,1,1,1,1] (codeOf f3) [nx0,nx1] (RetQ prog [.tmp 2] n0 K)))))))))) ∧ (aAlloc [(vint 0),(Value.slice none 0 0),(Value.slice none 0 0),(Value.slice none 0 0),(Value.slice none 0 0)] h228 fun v263 h264 =>
SameB (some B) h2 h264 ∧ (((((2 * 1 : Nat) ≤ 16777216 ∧ (2 : Nat) ≤ 16777216 ∧ List.length [(vint 0)] = 1) ∧ aFill (zrep [(vint 0)] 2) [(0,1,(f.r 11)),(1,1,(f.r 6))] fun c265 =>
aNewS 2 c265 h264 fun v266 h267 =>
SameB (some B) h2 h267 ∧ ((((2 * 1 : Nat) ≤ 16777216 ∧ (2 : Nat) ≤ 16777216 ∧ List.length [(Value.slice none 0 0)] = 1) ∧ aFill (zrep [(Value.slice none 0 0)] 2) [(0,1,v227),(1,1,v197)] fun c268 =>
aNewS 2 c268 h267 fun v269 h270 =>
SameB (some B) h2 h270 ∧ (aFill [(vint 0),(Value.slice none 0 0),(Value.slice none 0 0),(Value.slice none 0 0),(Value.slice none 0 0)] [(0,2,v5),(2,1,v266),(3,1,v269)] fun c271 =>
aStore 5 v263 (Value.agg ⟨c271⟩) h270 fun h272 =>
Hold (W prog J 221 n0 3 (subC [1,1,1,1,0,1,0,0,1,0,0,1,1,1,1,1,0,0,1,0,0,1,1,1,1,1,1] (codeOf f3)) (RG.p (RG.p (RG.p (RG.p (RG.p (RG.p (RG.p (RG.p (RG.p (RG.p (RG.p (RG.p (RG.p (RG.p (RG.p (RG.p (RG.p f 110 (f.r 14)) 111 (f.r 9)) 112 (f.r 11)) 113 v1) 114 v3) 115 v4) 116 v5) 117 (f.r 11)) 118 (f.r 6)) 120 (f.r 5)) 122 (f.r 5)) 123 v197) 121 v227) 15 v263) 119 v266) 124 v269) 125 (Value.agg ⟨c271⟩)) h272 (contX pl3 prog J 221 n0 3 ct3 [1,1,1,1,0,1,0,0,1,0,0,1,1,1,1,1,0,0,1,0,0,1,1,1,1,1,1] (codeOf f3) [nx0,nx1] (RetQ prog [.tmp 2] n0 K)))))))) ∧ ((((2 * 1 : Nat) ≤ 16777216 ∧ (2 : Nat) ≤ 16777216 ∧ List.length [(Value.slice none 0 0)] = 1) ∧ aFill (zrep [(Value.slice none 0 0)] 2) [(0,1,v227),(1,1,v197)] fun c273 =>
aNewS 2 c273 h264 fun v274 h275 =>
SameB (some B) h2 h275 ∧ ((((2 * 1 : Nat) ≤ 16777216 ∧ (2 : Nat) ≤ 16777216 ∧ List.length [(vint 0)] = 1) ∧ aFill (zrep [(vint 0)] 2) [(0,1,(f.r 11)),(1,1,(f.r 6))] fun c276 =>
aNewS 2 c276 h275 fun v277 h278 =>
SameB (some B) h2 h278 ∧ (aFill [(vint 0),(Value.slice none 0 0),(Value.slice none 0 0),(Value.slice none 0 0),(Value.slice none 0 0)] [(0,2,v5),(2,1,v277),(3,1,v274)] fun c279 =>
aStore 5 v263 (Value.agg ⟨c279⟩) h278 fun h280 =>
Hold (W prog J 221 n0 3 (subC [1,1,1,1,0,1,0,0,1,0,0,1,1,1,1,1,0,0,1,0,0,1,1,1,1,1,1] (codeOf f3)) (RG.p (RG.p (RG.p (RG.p (RG.p (RG.p (RG.p (RG.p (RG.p (RG.p (RG.p (RG.p (RG.p (RG.p (RG.p (RG.p (RG.p f 110 (f.r 14)) 111 (f.r 9)) 112 (f.r 11)) 113 v1) 114 v3) 115 v4) 116 v5) 117 (f.r 11)) 118 (f.r 6)) 120 (f.r 5)) 122 (f.r 5)) 123 v197) 121 v227) 15 v263) 124 v274) 119 v277) 125 (Value.agg ⟨c279⟩)) h280 (contX pl3 prog J 221 n0 3 ct3 [1,1,1,1,0,1,0,0,1,0,0,1,1,1,1,1,0,0,1,0,0,1,1,1,1,1,1] (codeOf f3) [nx0,nx1] (RetQ prog [.tmp 2] n0 K))))))))))))) ∧ (aAlloc [(vint 0),(Value.slice none 0 0),(Value.slice none 0 0),(Value.slice none 0 0),(Value.slice none 0 0)] h198 fun v281 h282 =>
SameB (some B) h2 h282 ∧ (((((2 * 1 : Nat) ≤ 16777216 ∧ (2 : Nat) ≤ 16777216 ∧ List.length [(vint 0)] = 1) ∧ aFill (zrep [(vint 0)] 2) [(0,1,(f.r 11)),(1,1,(f.r 6))] fun c283 =>
aNewS 2 c283 h282 fun v284 h285 =>
SameB (some B) h2 h285 ∧ (((List.length [(vint 0)] = 1 ∧ (8 : Nat) ≤ 1024) ∧ aMkS [(vint 0)] (f.r 5) (f.r 5) h285 fun v286 h287 =>
SameB (some B) h2 h287 ∧ ((((2 * 1 : Nat) ≤ 16777216 ∧ (2 : Nat) ≤ 16777216 ∧ List.length [(Value.slice none 0 0)] = 1) ∧ aFill (zrep [(Value.slice none 0 0)] 2) [(0,1,v286),(1,1,v197)] fun c288 =>
aNewS 2 c288 h287 fun v289 h290 =>
SameB (some B) h2 h290 ∧ (aFill [(vint 0),(Value.slice none 0 0),(Value.slice none 0 0),(Value.slice none 0 0),(Value.slice none 0 0)] [(0,2,v5),(2,1,v284),(3,1,v289)] fun c291 =>
aStore 5 v281 (Value.agg ⟨c291⟩) h290 fun h292 =>
Hold (W prog J 221 n0 3 (subC [1,1,1,1,0,1,0,0,1,0,0,1,1,1,1,1,0,0,1,0,0,1,1,1,1,1,1] (codeOf f3)) (RG.p (RG.p (RG.p (RG.p (RG.p (RG.p (RG.p (RG.p (RG.p (RG.p (RG.p (RG.p (RG.p (RG.p (RG.p (RG.p (RG.p f 110 (f.r 14)) 111 (f.r 9)) 112 (f.r 11)) 113 v1) 114 v3) 115 v4) 116 v5) 117 (f.r 11)) 118 (f.r 6)) 120 (f.r 5)) 122 (f.r 5)) 123 v197) 15 v281) 119 v284) 121 v286) 124 v289) 125 (Value.agg ⟨c291⟩)) h292 (contX pl3 prog J 221 n0 3 ct3 [1,1,1,1,0,1,0,0,1,0,0,1,1,1,1,1,0,0,1,0,0,1,1,1,1,1,1] (codeOf f3) [nx0,nx1] (RetQ prog [.tmp 2] n0 K)))))))))) ∧ (((List.length [(vint 0)] = 1 ∧ (8 : Nat) ≤ 1024) ∧ aMkS [(vint 0)] (f.r 5) (f.r 5) h282 fun v293 h294 =>
SameB (some B) h2 h294 ∧ (((((2 * 1 : Nat) ≤ 16777216 ∧ (2 : Nat) ≤ 16777216 ∧ List.length [(vint 0)] = 1) ∧ aFill (zrep [(vint 0)] 2) [(0,1,(f.r 11)),(1,1,(f.r 6))] fun c295 =>
aNewS 2 c295 h294 fun v296 h297 =>
SameB (some B) h2 h297 ∧ ((((2 * 1 : Nat) ≤ 16777216 ∧ (2 : Nat) ≤ 16777216 ∧ List.length [(Value.slice none 0 0)] = 1) ∧ aFill (zrep [(Value.slice none 0 0)] 2) [(0,1,v293),(1,1,v197)] fun c298 =>
aNewS 2 c298 h297 fun v299 h300 =>
SameB (some B) h2 h300 ∧ (aFill [(vint 0),(Value.slice none 0 0),(Value.slice none 0 0),(Value.slice none 0 0),(Value.slice none 0 0)] [(0,2,v5),(2,1,v296),(3,1,v299)] fun c301 =>
aStore 5 v281 (Value.agg ⟨c301⟩) h300 fun h302 =>
Hold (W prog J 221 n0 3 (subC [1,1,1,1,0,1,0,0,1,0,0,1,1,1,1,1,0,0,1,0,0,1,1,1,1,1,1] (codeOf f3)) (RG.p (RG.p (RG.p (RG.p (RG.p (RG.p (RG.p (RG.p (RG.p (RG.p (RG.p (RG.p (RG.p (RG.p (RG.p (RG.p (RG.p f 110 (f.r 14)) 111 (f.r 9)) 112 (f.r 11)) 113 v1) 114 v3) 115 v4) 116 v5) 117 (f.r 11)) 118 (f.r 6)) 120 (f.r 5)) 122 (f.r 5)) 123 v197) 15 v281) 121 v293) 119 v296) 124 v299) 125 (Value.agg ⟨c301⟩)) h302 (contX pl3 prog J 221 n0 3 ct3 [1,1,1,1,0,1,0,0,1,0,0,1,1,1,1,1,0,0,1,0,0,1,1,1,1,1,1] (codeOf f3) [nx0,nx1] (RetQ prog [.tmp 2] n0 K)))))))) ∧ ((((2 * 1 : Nat) ≤ 16777216 ∧ (2 : Nat) ≤ 16777216 ∧ List.length [(Value.slice none 0 0)] = 1) ∧ aFill (zrep [(Value.slice none 0 0)] 2) [(0,1,v293),(1,1,v197)] fun c303 =>
aNewS 2 c303 h294 fun v304 h305 =>
SameB (some B) h2 h305 ∧ ((((2 * 1 : Nat) ≤ 16777216 ∧ (2 : Nat) ≤ 16777216 ∧ List.length [(vint 0)] = 1) ∧ aFill (zrep [(vint 0)] 2) [(0,1,(f.r 11)),(1,1,(f.r 6))] fun c306 =>
aNewS 2 c306 h305 fun v307 h308 =>
SameB (some B) h2 h308 ∧ (aFill [(vint 0),(Value.slice none 0 0),(Value.slice none 0 0),(Value.slice none 0 0),(Value.slice none 0 0)] [(0,2,v5),(2,1,v307),(3,1,v304)] fun c309 =>
aStore 5 v281 (Value.agg ⟨c309⟩) h308 fun h310 =>
Hold (W prog J 221 n0 3 (subC [1,1,1,1,0,1,0,0,1,0,0,1,1,1,1,1,0,0,1,0,0,1,1,1,1,1,1] (codeOf f3)) (RG.p (RG.p (RG.p (RG.p (RG.p (RG.p (RG.p (RG.p (RG.p (RG.p (RG.p (RG.p (RG.p (RG.p (RG.p (RG.p (RG.p f 110 (f.r 14)) 111 (f.r 9)) 112 (f.r 11)) 113 v1) 114 v3) 115 v4) 116 v5) 117 (f.r 11)) 118 (f.r 6)) 120 (f.r 5)) 122 (f.r 5)) 123 v197) 15 v281) 121 v293) 124 v304) 119 v307) 125 (Value.agg ⟨c309⟩)) h310 (contX pl3 prog J 221 n0 3 ct3 [1,1,1,1,0,1,0,0,1,0,0,1,1,1,1,1,0,0,1,0,0,1,1,1,1,1,1] (codeOf f3) [nx0,nx1] (RetQ prog [.tmp 2] n0 K)))))))))))))))) ∧ (aAlloc [(vint 0),(Value.slice none 0 0),(Value.slice none 0 0),(Value.slice none 0 0),(Value.slice none 0 0)] h2 fun v311 h312 =>
SameB (some B) h2 h312 ∧ (((((2 * 1 : Nat) ≤ 16777216 ∧ (2 : Nat) ≤ 16777216 ∧ List.length [(vint 0)] = 1) ∧ aFill (zrep [(vint 0)] 2) [(0,1,(f.r 11)),(1,1,(f.r 6))] fun c313 =>
aNewS 2 c313 h312 fun v314 h315 =>
SameB (some B) h2 h315 ∧ ((((List.length [(vint 0)] = 1 ∧ (8 : Nat) ≤ 1024) ∧ aMkS [(vint 0)] (f.r 5) (f.r 5) h315 fun v316 h317 =>
SameB (some B) h2 h317 ∧ (((List.length [(vint 0)] = 1 ∧ (8 : Nat) ≤ 1024) ∧ aMkS [(vint 0)] (f.r 5) (f.r 5) h317 fun v318 h319 =>
SameB (some B) h2 h319 ∧ ((((2 * 1 : Nat) ≤ 16777216 ∧ (2 : Nat) ≤ 16777216 ∧ List.length [(Value.slice none 0 0)] = 1) ∧ aFill (zrep [(Value.slice none 0 0)] 2) [(0,1,v316),(1,1,v318)] fun c320 =>
aNewS 2 c320 h319 fun v321 h322 =>
SameB (some B) h2 h322 ∧ (aFill [(vint 0),(Value.slice none 0 0),(Value.slice none 0 0),(Value.slice none 0 0),(Value.slice none 0 0)] [(0,2,v5),(2,1,v314),(3,1,v321)] fun c323 =>
aStore 5 v311 (Value.agg ⟨c323⟩) h322 fun h324 =>
Hold (W prog J 221 n0 3 (subC [1,1,1,1,0,1,0,0,1,0,0,1,1,1,1,1,0,0,1,0,0,1,1,1,1,1,1] (codeOf f3)) (RG.p (RG.p (RG.p (RG.p (RG.p (RG.p (RG.p (RG.p (RG.p (RG.p (RG.p (RG.p (RG.p (RG.p (RG.p (RG.p (RG.p f 110 (f.r 14)) 111 (f.r 9)) 112 (f.r 11)) 113 v1) 114 v3) 115 v4) 116 v5) 117 (f.r 11)) 118 (f.r 6)) 120 (f.r 5)) 122 (f.r 5)) 15 v311) 119 v314) 121 v316) 123 v318) 124 v321) 125 (Value.agg ⟨c323⟩)) h324 (contX pl3 prog J 221 n0 3 ct3 [1,1,1,1,0,1,0,0,1,0,0,1,1,1,1,1,0,0,1,0,0,1,1,1,1,1,1] (codeOf f3) [nx0,nx1] (RetQ prog [.tmp 2] n0 K)))))))))) ∧ (((List.length [(vint 0)] = 1 ∧ (8 : Nat) ≤ 1024) ∧ aMkS [(vint 0)] (f.r 5) (f.r 5) h315 fun v325 h326 =>
SameB (some B) h2 h326 ∧ (((List.length [(vint 0)] = 1 ∧ (8 : Nat) ≤ 1024) ∧ aMkS [(vint 0)] (f.r 5) (f.r 5) h326 fun v327 h328 =>
SameB (some B) h2 h328 ∧ ((((2 * 1 : Nat) ≤ 16777216 ∧ (2 : Nat) ≤ 16777216 ∧ List.length [(Value.slice none 0 0)] = 1) ∧ aFill (zrep [(Value.slice none 0 0)] 2) [(0,1,v327),(1,1,v325)] fun c329 =>
aNewS 2 c329 h328 fun v330 h331 =>
SameB (some B) h2 h331 ∧ (aFill [(vint 0),(Value.slice none 0 0),(Value.slice none 0 0),(Value.slice none 0 0),(Value.slice none 0 0)] [(0,2,v5),(2,1,v314),(3,1,v330)] fun c332 =>
aStore 5 v311 (Value.agg ⟨c332⟩) h331 fun h333 =>
Hold (W prog J 221 n0 3 (subC [1,1,1,1,0,1,0,0,1,0,0,1,1,1,1,1,0,0,1,0,0,1,1,1,1,1,1] (codeOf f3)) (RG.p (RG.p (RG.p (RG.p (RG.p (RG.p (RG.p (RG.p (RG.p (RG.p (RG.p (RG.p (RG.p (RG.p (RG.p (RG.p (RG.p f 110 (f.r 14)) 111 (f.r 9)) 112 (f.r 11)) 113 v1) 114 v3) 115 v4) 116 v5) 117 (f.r 11)) 118 (f.r 6)) 120 (f.r 5)) 122 (f.r 5)) 15 v311) 119 v314) 123 v325) 121 v327) 124 v330) 125 (Value.agg ⟨c332⟩)) h333 (contX pl3 prog J 221 n0 3 ct3 [1,1,1,1,0,1,0,0,1,0,0,1,1,1,1,1,0,0,1,0,0,1,1,1,1,1,1] (codeOf f3) [nx0,nx1] (RetQ prog [.tmp 2] n0 K))))))))))))) ∧ (((List.length [(vint 0)] = 1 ∧ (8 : Nat) ≤ 1024) ∧ aMkS [(vint 0)] (f.r 5) (f.r 5) h312 fun v334 h335 =>
SameB (some B) h2 h335 ∧ (((((2 * 1 : Nat) ≤ 16777216 ∧ (2 : Nat) ≤ 16777216 ∧ List.length [(vint 0)] = 1) ∧ aFill (zrep [(vint 0)] 2) [(0,1,(f.r 11)),(1,1,(f.r 6))] fun c336 =>
aNewS 2 c336 h335 fun v337 h338 =>
SameB (some B) h2 h338 ∧ (((List.length [(vint 0)] = 1 ∧ (8 : Nat) ≤ 1024) ∧ aMkS [(vint 0)] (f.r 5) (f.r 5) h338 fun v339 h340 =>
SameB (some B) h2 h340 ∧ ((((2 * 1 : Nat) ≤ 16777216 ∧ (2 : Nat) ≤ 16777216 ∧ List.length [(Value.slice none 0 0)] = 1) ∧ aFill (zrep [(Value.slice none 0 0)] 2) [(0,1,v334),(1,1,v339)] fun c341 =>
aNewS 2 c341 h340 fun v342 h343 =>
SameB (some B) h2 h343 ∧ (aFill [(vint 0),(Value.slice none 0 0),(Value.slice none 0 0),(Value.slice none 0 0),(Value.slice none 0 0)] [(0,2,v5),(2,1,v337),(3,1,v342)] fun c344 =>
aStore 5 v311 (Value.agg ⟨c344⟩) h343 fun h345 =>
Hold (W prog J 221 n0 3 (subC [1,1,1,1,0,1,0,0,1,0,0,1,1,1,1,1,0,0,1,0,0,1,1,1,1,1,1] (codeOf f3)) (RG.p (RG.p (RG.p (RG.p (RG.p (RG.p (RG.p (RG.p (RG.p (RG.p (RG.p (RG.p (RG.p (RG.p (RG.p (RG.p (RG.p f 110 (f.r 14)) 111 (f.r 9)) 112 (f.r 11)) 113 v1) 114 v3) 115 v4) 116 v5) 117 (f.r 11)) 118 (f.r 6)) 120 (f.r 5)) 122 (f.r 5)) 15 v311) 121 v334) 119 v337) 123 v339) 124 v342) 125 (Value.agg ⟨c344⟩)) h345 (contX pl3 prog J 221 n0 3 ct3 [1,1,1,1,0,1,0,0,1,0,0,1,1,1,1,1,0,0,1,0,0,1,1,1,1,1,1] (codeOf f3) [nx0,nx1] (RetQ prog [.tmp 2] n0 K)))))))))) ∧ (((List.length [(vint 0)] = 1 ∧ (8 : Nat) ≤ 1024) ∧ aMkS [(vint 0)] (f.r 5) (f.r 5) h335 fun v346 h347 =>
SameB (some B) h2 h347 ∧ (((((2 * 1 : Nat) ≤ 16777216 ∧ (2 : Nat) ≤ 16777216 ∧ List.length [(vint 0)] = 1) ∧ aFill (zrep [(vint 0)] 2) [(0,1,(f.r 11)),(1,1,(f.r 6))] fun c348 =>
aNewS 2 c348 h347 fun v349 h350 =>
SameB (some B) h2 h350 ∧ ((((2 * 1 : Nat) ≤ 16777216 ∧ (2 : Nat) ≤ 16777216 ∧ List.length [(Value.slice none 0 0)] = 1) ∧ aFill (zrep [(Value.slice none 0 0)] 2) [(0,1,v334),(1,1,v346)] fun c351 =>
aNewS 2 c351 h350 fun v352 h353 =>
SameB (some B) h2 h353 ∧ (aFill [(vint 0),(Value.slice none 0 0),(Value.slice none 0 0),(Value.slice none 0 0),(Value.slice none 0 0)] [(0,2,v5),(2,1,v349),(3,1,v352)] fun c354 =>
aStore 5 v311 (Value.agg ⟨c354⟩) h353 fun h355 =>
Hold (W prog J 221 n0 3 (subC [1,1,1,1,0,1,0,0,1,0,0,1,1,1,1,1,0,0,1,0,0,1,1,1,1,1,1] (codeOf f3)) (RG.p (RG.p (RG.p (RG.p (RG.p (RG.p (RG.p (RG.p (RG.p (RG.p (RG.p (RG.p (RG.p (RG.p (RG.p (RG.p (RG.p f 110 (f.r 14)) 111 (f.r 9)) 112 (f.r 11)) 113 v1) 114 v3) 115 v4) 116 v5) 117 (f.r 11)) 118 (f.r 6)) 120 (f.r 5)) 122 (f.r 5)) 15 v311) 121 v334) 123 v346) 119 v349) 124 v352) 125 (Value.agg ⟨c354⟩)) h355 (contX pl3 prog J 221 n0 3 ct3 [1,1,1,1,0,1,0,0,1,0,0,1,1,1,1,1,0,0,1,0,0,1,1,1,1,1,1] (codeOf f3) [nx0,nx1] (RetQ prog [.tmp 2] n0 K)))))))) ∧ ((((2 * 1 : Nat) ≤ 16777216 ∧ (2 : Nat) ≤ 16777216 ∧ List.length [(Value.slice none 0 0)] = 1) ∧ aFill (zrep [(Value.slice none 0 0)] 2) [(0,1,v334),(1,1,v346)] fun c356 =>
aNewS 2 c356 h347 fun v357 h358 =>
SameB (some B) h2 h358 ∧ ((((2 * 1 : Nat) ≤ 16777216 ∧ (2 : Nat) ≤ 16777216 ∧ List.length [(vint 0)] = 1) ∧ aFill (zrep [(vint 0)] 2) [(0,1,(f.r 11)),(1,1,(f.r 6))] fun c359 =>
aNewS 2 c359 h358 fun v360 h361 =>
SameB (some B) h2 h361 ∧ (aFill [(vint 0),(Value.slice none 0 0),(Value.slice none 0 0),(Value.slice none 0 0),(Value.slice none 0 0)] [(0,2,v5),(2,1,v360),(3,1,v357)] fun c362 =>
aStore 5 v311 (Value.agg ⟨c362⟩) h361 fun h363 =>
Hold (W prog J 221 n0 3 (subC [1,1,1,1,0,1,0,0,1,0,0,1,1,1,1,1,0,0,1,0,0,1,1,1,1,1,1] (codeOf f3)) (RG.p (RG.p (RG.p (RG.p (RG.p (RG.p (RG.p (RG.p (RG.p (RG.p (RG.p (RG.p (RG.p (RG.p (RG.p (RG.p (RG.p f 110 (f.r 14)) 111 (f.r 9)) 112 (f.r 11)) 113 v1) 114 v3) 115 v4) 116 v5) 117 (f.r 11)) 118 (f.r 6)) 120 (f.r 5)) 122 (f.r 5)) 15 v311) 121 v334) 123 v346) 124 v357) 119 v360) 125 (Value.agg ⟨c362⟩)) h363 (contX pl3 prog J 221 n0 3 ct3 [1,1,1,1,0,1,0,0,1,0,0,1,1,1,1,1,0,0,1,0,0,1,1,1,1,1,1] (codeOf f3) [nx0,nx1] (RetQ prog [.tmp 2] n0 K)))))))))))))) ∧ (((List.length [(vint 0)] = 1 ∧ (8 : Nat) ≤ 1024) ∧ aMkS [(vint 0)] (f.r 5) (f.r 5) h312 fun v364 h365 =>
SameB (some B) h2 h365 ∧ (((((2 * 1 : Nat) ≤ 16777216 ∧ (2 : Nat) ≤ 16777216 ∧ List.length [(vint 0)] = 1) ∧ aFill (zrep [(vint 0)] 2) [(0,1,(f.r 11)),(1,1,(f.r 6))] fun c366 =>
aNewS 2 c366 h365 fun v367 h368 =>
SameB (some B) h2 h368 ∧ (((List.length [(vint 0)] = 1 ∧ (8 : Nat) ≤ 1024) ∧ aMkS [(vint 0)] (f.r 5) (f.r 5) h368 fun v369 h370 =>
SameB (some B) h2 h370 ∧ ((((2 * 1 : Nat) ≤ 16777216 ∧ (2 : Nat) ≤ 16777216 ∧ List.length [(Value.slice none 0 0)] = 1) ∧ aFill (zrep [(Value.slice none 0 0)] 2) [(0,1,v369),(1,1,v364)] fun c371 =>
aNewS 2 c371 h370 fun v372 h373 =>
SameB (some B) h2 h373 ∧ (aFill [(vint 0),(Value.slice none 0 0),(Value.slice none 0 0),(Value.slice none 0 0),(Value.slice none 0 0)] [(0,2,v5),(2,1,v367),(3,1,v372)] fun c374 =>
aStore 5 v311 (Value.agg ⟨c374⟩) h373 fun h375 =>
Hold (W prog J 221 n0 3 (subC [1,1,1,1,0,1,0,0,1,0,0,1,1,1,1,1,0,0,1,0,0,1,1,1,1,1,1] (codeOf f3)) (RG.p (RG.p (RG.p (RG.p (RG.p (RG.p (RG.p (RG.p (RG.p (RG.p (RG.p (RG.p (RG.p (RG.p (RG.p (RG.p (RG.p f 110 (f.r 14)) 111 (f.r 9)) 112 (f.r 11)) 113 v1) 114 v3) 115 v4) 116 v5) 117 (f.r 11)) 118 (f.r 6)) 120 (f.r 5)) 122 (f.r 5)) 15 v311) 123 v364) 119 v367) 121 v369) 124 v372) 125 (Value.agg ⟨c374⟩)) h375 (contX pl3 prog J 221 n0 3 ct3 [1,1,1,1,0,1,0,0,1,0,0,1,1,1,1,1,0,0,1,0,0,1,1,1,1,1,1] (codeOf f3) [nx0,nx1] (RetQ prog [.tmp 2] n0 K)))))))))) ∧ (((List.length [(vint 0)] = 1 ∧ (8 : Nat) ≤ 1024) ∧ aMkS [(vint 0)] (f.r 5) (f.r 5) h365 fun v376 h377 =>
SameB (some B) h2 h377 ∧ (((((2 * 1 : Nat) ≤ 16777216 ∧ (2 : Nat) ≤ 16777216 ∧ List.length [(vint 0)] = 1) ∧ aFill (zrep [(vint 0)] 2) [(0,1,(f.r 11)),(1,1,(f.r 6))] fun c378 =>
aNewS 2 c378 h377 fun v379 h380 =>
SameB (some B) h2 h380 ∧ ((((2 * 1 : Nat) ≤ 16777216 ∧ (2 : Nat) ≤ 16777216 ∧ List.length [(Value.slice none 0 0)] = 1) ∧ aFill (zrep [(Value.slice none 0 0)] 2) [(0,1,v376),(1,1,v364)] fun c381 =>
aNewS 2 c381 h380 fun v382 h383 =>
SameB (some B) h2 h383 ∧ (aFill [(vint 0),(Value.slice none 0 0),(Value.slice none 0 0),(Value.slice none 0 0),(Value.slice none 0 0)] [(0,2,v5),(2,1,v379),(3,1,v382)] fun c384 =>
aStore 5 v311 (Value.agg ⟨c384⟩) h383 fun h385 =>
Hold (W prog J 221 n0 3 (subC [1,1,1,1,0,1,0,0,1,0,0,1,1,1,1,1,0,0,1,0,0,1,1,1,1,1,1] (codeOf f3)) (RG.p (RG.p (RG.p (RG.p (RG.p (RG.p (RG.p (RG.p (RG.p (RG.p (RG.p (RG.p (RG.p (RG.p (RG.p (RG.p (RG.p f 110 (f.r 14)) 111 (f.r 9)) 112 (f.r 11)) 113 v1) 114 v3) 115 v4) 116 v5) 117 (f.r 11)) 118 (f.r 6)) 120 (f.r 5)) 122 (f.r 5)) 15 v311) 123 v364) 121 v376) 119 v379) 124 v382) 125 (Value.agg ⟨c384⟩)) h385 (contX pl3 prog J 221 n0 3 ct3 [1,1,1,1,0,1,0,0,1,0,0,1,1,1,1,1,0,0,1,0,0,1,1,1,1,1,1] (codeOf f3) [nx0,nx1] (RetQ prog [.tmp 2] n0 K)))))))) ∧ ((((2 * 1 : Nat) ≤ 16777216 ∧ (2 : Nat) ≤ 16777216 ∧ List.length [(Value.slice none 0 0)] = 1) ∧ aFill (zrep [(Value.slice none 0 0)] 2) [(0,1,v376),(1,1,v364)] fun c386 =>
aNewS 2 c386 h377 fun v387 h388 =>
SameB (some B) h2 h388 ∧ ((((2 * 1 : Nat) ≤ 16777216 ∧ (2 : Nat) ≤ 16777216 ∧ List.length [(vint 0)] = 1) ∧ aFill (zrep [(vint 0)] 2) [(0,1,(f.r 11)),(1,1,(f.r 6))] fun c389 =>
aNewS 2 c389 h388 fun v390 h391 =>
SameB (some B) h2 h391 ∧ (aFill [(vint 0),(Value.slice none 0 0),(Value.slice none 0 0),(Value.slice none 0 0),(Value.slice none 0 0)] [(0,2,v5),(2,1,v390),(3,1,v387)] fun c392 =>
aStore 5 v311 (Value.agg ⟨c392⟩) h391 fun h393 =>
Hold (W prog J 221 n0 3 (subC [1,1,1,1,0,1,0,0,1,0,0,1,1,1,1,1,0,0,1,0,0,1,1,1,1,1,1] (codeOf f3)) (RG.p (RG.p (RG.p (RG.p (RG.p (RG.p (RG.p (RG.p (RG.p (RG.p (RG.p (RG.p (RG.p (RG.p (RG.p (RG.p (RG.p f 110 (f.r 14)) 111 (f.r 9)) 112 (f.r 11)) 113 v1) 114 v3) 115 v4) 116 v5) 117 (f.r 11)) 118 (f.r 6)) 120 (f.r 5)) 122 (f.r 5)) 15 v311) 123 v364) 121 v376) 124 v387) 119 v390) 125 (Value.agg ⟨c392⟩)) h393 (contX pl3 prog J 221 n0 3 ct3 [1,1,1,1,0,1,0,0,1,0,0,1,1,1,1,1,0,0,1,0,0,1,1,1,1,1,1] (codeOf f3) [nx0,nx1] (RetQ prog [.tmp 2] n0 K)))))))))))))))))))) := sub_eq pok3 ct3 (by kernel_rfl)
theorem s3_6 {f : RG} {nx0 nx1 : RG → List AObj → Prop} : W prog J 221 n0 3 (subC [1,1,1,1,0,1,0,0,1,0,0,1,1,1,1,1,0,0,1,0,0,1,1,1,1,1,1] (codeOf f3)) f h (contX pl3 prog J 221 n0 3 ct3 [1,1,1,1,0,1,0,0,1,0,0,1,1,1,1,1,0,0,1,0,0,1,1,1,1,1,1] (codeOf f3) [nx0,nx1] (RetQ prog [.tmp 2] n0 K)) =
(aOff (f.r 15) 3 fun v1 =>
aLoad false 1 v1 h fun v2 =>
aIdx 1 v2 (vint 0) fun v3 =>
aLoad false 1 v3 h fun v4 =>
aIdx 1 v4 (f.r 11) fun v5 =>
aStore 1 v5 (vint 2) h fun h6 =>
aLoad true 5 (f.r 15) h6 fun v7 =>
aLoad true 5 (f.r 8) h6 fun v8 =>
aFill [(vint 0),(vint 0),(vint 0),(vint 0),(vint 0),(vint 0),(vint 0),(vint 0),(Value.bool false),(Value.bool false),(vint 0),(vint 0)] [(0,1,(vint 5)),(4,1,(vint 1)),(7,5,v8)] fun c9 =>
Good prog J 9 [v7,(Value.agg ⟨c9⟩)] h6 fun v10 h11 =>
aExt v10 0 fun v12 =>
aExt v10 1 fun v13 =>
aAlloc [(vint 0),(Value.slice none 0 0),(Value.slice none 0 0),(Value.slice none 0 0),(Value.slice none 0 0)] h11 fun v14 h15 =>
aStore 5 v14 v12 h15 fun h16 =>
aUn .not (f.r 14) fun v17 =>
cnd v17
(aBin prog .neq 33 v13 (vint 12) fun v18 =>
cnd v18
(retL n0 K f.ds [(Value.bool false)] h16)
(aBin prog .add 3 (f.r 11) (vint 1) fun v19 =>
nx1 (RG.p (RG.p (RG.p (RG.p (RG.p (RG.p (RG.p (RG.p (RG.p (RG.p (RG.p (RG.p (RG.p (RG.p (RG.p (RG.p (RG.p (RG.p (RG.p (RG.p (RG.p (RG.p f 126 v1) 127 v2) 128 v3) 129 v4) 130 (f.r 11)) 131 v5) 133 v7) 134 v8) 135 (Value.agg ⟨c9⟩)) 136 v10) 132 v10) 137 v12) 138 v13) 16 v14) 13 v13) 139 (f.r 14)) 140 v17) 141 v13) 142 v18) 62 (f.r 11)) 63 v19) 11 v19) h16))
(aLoad true 5 v14 h16 fun v20 =>
Good prog J 10 [v20,(vint 0)] h16 fun v21 h22 =>
aExt v21 0 fun v23 =>
aExt v21 1 fun v24 =>
aLoad true 5 v14 h22 fun v25 =>
Good prog J 11 [v25] h22 fun v26 h27 =>
aExt v26 0 fun v28 =>
aExt v26 1 fun v29 =>
aBin prog .neq 33 v13 (vint 0) fun v30 =>
cnd v30
(Hold (W prog J 221 n0 3 (subC [1,1,1,1,0,1,0,0,1,0,0,1,1,1,1,1,0,0,1,0,0,1,1,1,1,1,1,1,1,1,1,1,0,1] (codeOf f3)) (RG.p (RG.p (RG.p (RG.p (RG.p (RG.p (RG.p (RG.p (RG.p (RG.p (RG.p (RG.p (RG.p (RG.p (RG.p (RG.p (RG.p (RG.p (RG.p (RG.p (RG.p (RG.p (RG.p (RG.p (RG.p (RG.p (RG.p (RG.p (RG.p (RG.p (RG.p (RG.p (RG.p (RG.p (RG.p (RG.p (RG.p (RG.p (RG.p (RG.p (RG.p (RG.p (RG.p (RG.p (RG.p (RG.p (RG.p (RG.p (RG.p (RG.p (RG.p (RG.p (RG.p (RG.p (RG.p (RG.p (RG.p (RG.p (RG.p (RG.p (RG.p (RG.p (RG.p (RG.p (RG.p (RG.p (RG.p f 126 v1) 127 v2) 128 v3) 129 v4) 130 (f.r 11)) 131 v5) 133 v7) 134 v8) 135 (Value.agg ⟨c9⟩)) 136 v10) 132 v10) 137 v12) 138 v13) 16 v14) 13 v13) 139 (f.r 14)) 140 v17) 144 v20) 145 v21) 143 v21) 146 v23) 147 v24) 17 v23) 18 v24) 149 v25) 150 v26) 148 v26) 151 v28) 152 v29) 19 v28) 20 v29) 153 v13) 154 v30) 155 v30) 155 (Value.bool true)) 156 undef) 157 undef) 158 (Value.bool true)) 159 (Value.bool true)) 159 (Value.bool true)) 160 undef) 161 undef) 162 (Value.bool true)) 163 (Value.bool true)) 163 (Value.bool true)) 164 undef) 165 undef) 166 undef) 167 undef) 168 undef) 169 (Value.bool true)) 170 (Value.bool true)) 170 (Value.bool true)) 171 undef) 172 undef) 173 undef) 174 undef) 175 (Value.bool true)) 176 (Value.bool true)) 176 (Value.bool true)) 177 undef) 178 undef) 179 undef) 180 undef) 181 undef) 182 undef) 183 (Value.bool true)) h27 (contX pl3 prog J 221 n0 3 ct3 [1,1,1,1,0,1,0,0,1,0,0,1,1,1,1,1,0,0,1,0,0,1,1,1,1,1,1,1,1,1,1,1,0,1] (codeOf f3) [nx0,nx1] (RetQ prog [.tmp 2] n0 K))))
(aBin prog .neq 33 v24 (vint 0) fun v31 =>
cnd v31
(Hold (W prog J 221 n0 3 (subC [1,1,1,1,0,1,0,0,1,0,0,1,1,1,1,1,0,0,1,0,0,1,1,1,1,1,1,1,1,1,1,1,0,1] (codeOf f3)) (RG.p (RG.p (RG.p (RG.p (RG.p (RG.p (RG.p (RG.p (RG.p (RG.p (RG.p (RG.p (RG.p (RG.p (RG.p (RG.p (RG.p (RG.p (RG.p (RG.p (RG.p (RG.p (RG.p (RG.p (RG.p (RG.p (RG.p (RG.p (RG.p (RG.p (RG.p (RG.p (RG.p (RG.p (RG.p (RG.p (RG.p (RG.p (RG.p (RG.p (RG.p (RG.p (RG.p (RG.p (RG.p (RG.p (RG.p (RG.p (RG.p (RG.p (RG.p (RG.p (RG.p (RG.p (RG.p (RG.p (RG.p (RG.p (RG.p (RG.p (RG.p (RG.p (RG.p (RG.p (RG.p (RG.p (RG.p f 126 v1) 127 v2) 128 v3) 129 v4) 130 (f.r 11)) 131 v5) 133 v7) 134 v8) 135 (Value.agg ⟨c9⟩)) 136 v10) 132 v10) 137 v12) 138 v13) 16 v14) 13 v13) 139 (f.r 14)) 140 v17) 144 v20) 145 v21) 143 v21) 146 v23) 147 v24) 17 v23) 18 v24) 149 v25) 150 v26) 148 v26) 151 v28) 152 v29) 19 v28) 20 v29) 153 v13) 154 v30) 155 v30) 155 (Value.bool false)) 156 v24) 157 v31) 158 v31) 159 v31) 159 (Value.bool true)) 160 undef) 161 undef) 162 (Value.bool true)) 163 (Value.bool true)) 163 (Value.bool true)) 164 undef) 165 undef) 166 undef) 167 undef) 168 undef) 169 (Value.bool true)) 170 (Value.bool true)) 170 (Value.bool true)) 171 undef) 172 undef) 173 undef) 174 undef) 175 (Value.bool true)) 176 (Value.bool true)) 176 (Value.bool true)) 177 undef) 178 undef) 179 undef) 180 undef) 181 undef) 182 undef) 183 (Value.bool true)) h27 (contX pl3 prog J 221 n0 3 ct3 [1,1,1,1,0,1,0,0,1,0,0,1,1,1,1,1,0,0,1,0,0,1,1,1,1,1,1,1,1,1,1,1,0,1] (codeOf f3) [nx0,nx1] (RetQ prog [.tmp 2] n0 K))))
(aBin prog .neq 33 v29 (vint 0) fun v32 =>
cnd v32
(Hold (W prog J 221 n0 3 (subC [1,1,1,1,0,1,0,0,1,0,0,1,1,1,1,1,0,0,1,0,0,1,1,1,1,1,1,1,1,1,1,1,0,1] (codeOf f3)) (RG.p (RG.p (RG.p (RG.p (RG.p (RG.p (RG.p (RG.p (RG.p (RG.p (RG.p (RG.p (RG.p (RG.p (RG.p (RG.p (RG.p (RG.p (RG.p (RG.p (RG.p (RG.p (RG.p (RG.p (RG.p (RG.p (RG.p (RG.p (RG.p (RG.p (RG.p (RG.p (RG.p (RG.p (RG.p (RG.p (RG.p (RG.p (RG.p (RG.p (RG.p (RG.p (RG.p (RG.p (RG.p (RG.p (RG.p (RG.p (RG.p (RG.p (RG.p (RG.p (RG.p (RG.p (RG.p (RG.p (RG.p (RG.p (RG.p (RG.p (RG.p (RG.p (RG.p (RG.p (RG.p (RG.p (RG.p f 126 v1) 127 v2) 128 v3) 129 v4) 130 (f.r 11)) 131 v5) 133 v7) 134 v8) 135 (Value.agg ⟨c9⟩)) 136 v10) 132 v10) 137 v12) 138 v13) 16 v14) 13 v13) 139 (f.r 14)) 140 v17) 144 v20) 145 v21) 143 v21) 146 v23) 147 v24) 17 v23) 18 v24) 149 v25) 150 v26) 148 v26) 151 v28) 152 v29) 19 v28) 20 v29) 153 v13) 154 v30) 155 v30) 155 (Value.bool false)) 156 v24) 157 v31) 158 v31) 159 v31) 159 (Value.bool false)) 160 v29) 161 v32) 162 v32) 163 v32) 163 (Value.bool true)) 164 undef) 165 undef) 166 undef) 167 undef) 168 undef) 169 (Value.bool true)) 170 (Value.bool true)) 170 (Value.bool true)) 171 undef) 172 undef) 173 undef) 174 undef) 175 (Value.bool true)) 176 (Value.bool true)) 176 (Value.bool true)) 177 undef) 178 undef) 179 undef) 180 undef) 181 undef) 182 undef) 183 (Value.bool true)) h27 (contX pl3 prog J 221 n0 3 ct3 [1,1,1,1,0,1,0,0,1,0,0,1,1,1,1,1,0,0,1,0,0,1,1,1,1,1,1,1,1,1,1,1,0,1] (codeOf f3) [nx0,nx1] (RetQ prog [.tmp 2] n0 K))))
((((1 * 1 : Nat) ≤ 16777216 ∧ (1 : Nat) ≤ 16777216 ∧ List.length [(vint 0)] = 1) ∧ aFill (zrep [(vint 0)] 1) [(0,1,(f.r 11))] fun c33 =>
aNewS 1 c33 h27 fun v34 h35 =>
Good prog J 12 [v23,v34] h35 fun v36 h37 =>
aUn .not v36 fun v38 =>
cnd v38
(Hold (W prog J 221 n0 3 (subC [1,1,1,1,0,1,0,0,1,0,0,1,1,1,1,1,0,0,1,0,0,1,1,1,1,1,1,1,1,1,1,1,0,1] (codeOf f3)) (RG.p (RG.p (RG.p (RG.p (RG.p (RG.p (RG.p (RG.p (RG.p (RG.p (RG.p (RG.p (RG.p (RG.p (RG.p (RG.p (RG.p (RG.p (RG.p (RG.p (RG.p (RG.p (RG.p (RG.p (RG.p (RG.p (RG.p (RG.p (RG.p (RG.p (RG.p (RG.p (RG.p (RG.p (RG.p (RG.p (RG.p (RG.p (RG.p (RG.p (RG.p (RG.p (RG.p (RG.p (RG.p (RG.p (RG.p (RG.p (RG.p (RG.p (RG.p (RG.p (RG.p (RG.p (RG.p (RG.p (RG.p (RG.p (RG.p (RG.p (RG.p (RG.p (RG.p (RG.p (RG.p (RG.p (RG.p f 126 v1) 127 v2) 128 v3) 129 v4) 130 (f.r 11)) 131 v5) 133 v7) 134 v8) 135 (Value.agg ⟨c9⟩)) 136 v10) 132 v10) 137 v12) 138 v13) 16 v14) 13 v13) 139 (f.r 14)) 140 v17) 144 v20) 145 v21) 143 v21) 146 v23) 147 v24) 17 v23) 18 v24) 149 v25) 150 v26) 148 v26) 151 v28) 152 v29) 19 v28) 20 v29) 153 v13) 154 v30) 155 v30) 155 (Value.bool false)) 156 v24) 157 v31) 158 v31) 159 v31) 159 (Value.bool false)) 160 v29) 161 v32) 162 v32) 163 v32) 163 (Value.bool false)) 164 v23) 165 (f.r 11)) 166 v34) 167 v36) 168 v38) 169 v38) 170 v38) 170 (Value.bool true)) 171 undef) 172 undef) 173 undef) 174 undef) 175 (Value.bool true)) 176 (Value.bool true)) 176 (Value.bool true)) 177 undef) 178 undef) 179 undef) 180 undef) 181 undef) 182 undef) 183 (Value.bool true)) h37 (contX pl3 prog J 221 n0 3 ct3 [1,1,1,1,0,1,0,0,1,0,0,1,1,1,1,1,0,0,1,0,0,1,1,1,1,1,1,1,1,1,1,1,0,1] (codeOf f3) [nx0,nx1] (RetQ prog [.tmp 2] n0 K))))
(aLenS v28 fun v39 =>
aBin prog .neq 3 v39 (f.r 5) fun v40 =>
cnd v40
(Hold (W prog J 221 n0 3 (subC [1,1,1,1,0,1,0,0,1,0,0,1,1,1,1,1,0,0,1,0,0,1,1,1,1,1,1,1,1,1,1,1,0,1] (codeOf f3)) (RG.p (RG.p (RG.p (RG.p (RG.p (RG.p (RG.p (RG.p (RG.p (RG.p (RG.p (RG.p (RG.p (RG.p (RG.p (RG.p (RG.p (RG.p (RG.p (RG.p (RG.p (RG.p (RG.p (RG.p (RG.p (RG.p (RG.p (RG.p (RG.p (RG.p (RG.p (RG.p (RG.p (RG.p (RG.p (RG.p (RG.p (RG.p (RG.p (RG.p (RG.p (RG.p (RG.p (RG.p (RG.p (RG.p (RG.p (RG.p (RG.p (RG.p (RG.p (RG.p (RG.p (RG.p (RG.p (RG.p (RG.p (RG.p (RG.p (RG.p (RG.p (RG.p (RG.p (RG.p (RG.p (RG.p (RG.p f 126 v1) 127 v2) 128 v3) 129 v4) 130 (f.r 11)) 131 v5) 133 v7) 134 v8) 135 (Value.agg ⟨c9⟩)) 136 v10) 132 v10) 137 v12) 138 v13) 16 v14) 13 v13) 139 (f.r 14)) 140 v17) 144 v20) 145 v21) 143 v21) 146 v23) 147 v24) 17 v23) 18 v24) 149 v25) 150 v26) 148 v26) 151 v28) 152 v29) 19 v28) 20 v29) 153 v13) 154 v30) 155 v30) 155 (Value.bool false)) 156 v24) 157 v31) 158 v31) 159 v31) 159 (Value.bool false)) 160 v29) 161 v32) 162 v32) 163 v32) 163 (Value.bool false)) 164 v23) 165 (f.r 11)) 166 v34) 167 v36) 168 v38) 169 v38) 170 v38) 170 (Value.bool false)) 171 v28) 172 v39) 173 (f.r 5)) 174 v40) 175 v40) 176 v40) 176 (Value.bool true)) 177 undef) 178 undef) 179 undef) 180 undef) 181 undef) 182 undef) 183 (Value.bool true)) h37 (contX pl3 prog J 221 n0 3 ct3 [1,1,1,1,0,1,0,0,1,0,0,1,1,1,1,1,0,0,1,0,0,1,1,1,1,1,1,1,1,1,1,1,0,1] (codeOf f3) [nx0,nx1] (RetQ prog [.tmp 2] n0 K))))
(aIdx 2 v28 (f.r 6) fun v41 =>
aLoad true 2 v41 h37 fun v42 =>
aFill [(vint 0),(vint 0)] [] fun c43 =>
aBin prog .neq 53 v42 (Value.agg ⟨c43⟩) fun v44 =>
Hold (W prog J 221 n0 3 (subC [1,1,1,1,0,1,0,0,1,0,0,1,1,1,1,1,0,0,1,0,0,1,1,1,1,1,1,1,1,1,1,1,0,1] (codeOf f3)) (RG.p (RG.p (RG.p (RG.p (RG.p (RG.p (RG.p (RG.p (RG.p (RG.p (RG.p (RG.p (RG.p (RG.p (RG.p (RG.p (RG.p (RG.p (RG.p (RG.p (RG.p (RG.p (RG.p (RG.p (RG.p (RG.p (RG.p (RG.p (RG.p (RG.p (RG.p (RG.p (RG.p (RG.p (RG.p (RG.p (RG.p (RG.p (RG.p (RG.p (RG.p (RG.p (RG.p (RG.p (RG.p (RG.p (RG.p (RG.p (RG.p (RG.p (RG.p (RG.p (RG.p (RG.p (RG.p (RG.p (RG.p (RG.p (RG.p (RG.p (RG.p (RG.p (RG.p (RG.p (RG.p (RG.p (RG.p f 126 v1) 127 v2) 128 v3) 129 v4) 130 (f.r 11)) 131 v5) 133 v7) 134 v8) 135 (Value.agg ⟨c9⟩)) 136 v10) 132 v10) 137 v12) 138 v13) 16 v14) 13 v13) 139 (f.r 14)) 140 v17) 144 v20) 145 v21) 143 v21) 146 v23) 147 v24) 17 v23) 18 v24) 149 v25) 150 v26) 148 v26) 151 v28) 152 v29) 19 v28) 20 v29) 153 v13) 154 v30) 155 v30) 155 (Value.bool false)) 156 v24) 157 v31) 158 v31) 159 v31) 159 (Value.bool false)) 160 v29) 161 v32) 162 v32) 163 v32) 163 (Value.bool false)) 164 v23) 165 (f.r 11)) 166 v34) 167 v36) 168 v38) 169 v38) 170 v38) 170 (Value.bool false)) 171 v28) 172 v39) 173 (f.r 5)) 174 v40) 175 v40) 176 v40) 176 (Value.bool false)) 177 v28) 178 (f.r 6)) 179 v41) 180 v42) 181 (Value.agg ⟨c43⟩)) 182 v44) 183 v44) h37 (contX pl3 prog J 221 n0 3 ct3 [1,1,1,1,0,1,0,0,1,0,0,1,1,1,1,1,0,0,1,0,0,1,1,1,1,1,1,1,1,1,1,1,0,1] (codeOf f3) [nx0,nx1] (RetQ prog [.tmp 2] n0 K))))))))))) := sub_eq pok3 ct3 (by kernel_rfl)
theorem s3_7 {f : RG} {nx0 nx1 : RG → List AObj → Prop} : W prog J 221 n0 3 (subC [1,1,1,1,0,1,0,0,1,0,0,1,1,1,1,1,0,0,1,0,0,1,1,1,1,1,1,1,1,1,1,1,0,1] (codeOf f3)) f h (contX pl3 prog J 221 n0 3 ct3 [1,1,1,1,0,1,0,0,1,0,0,1,1,1,1,1,0,0,1,0,0,1,1,1,1,1,1,1,1,1,1,1,0,1] (codeOf f3) [nx0,nx1] (RetQ prog [.tmp 2] n0 K)) =
(cnd (f.r 183)
(retL n0 K f.ds [(Value.bool false)] h)
(aOff (f.r 15) 3 fun v1 =>
aLoad false 1 v1 h fun v2 =>
aIdx 1 v2 (vint 0) fun v3 =>
aLoad false 1 v3 h fun v4 =>
aIdx 1 v4 (f.r 6) fun v5 =>
aStore 1 v5 (vint 1) h fun h6 =>
aLoad true 5 (f.r 15) h6 fun v7 =>
aLoad true 5 (f.r 8) h6 fun v8 =>
aFill [(vint 0),(vint 0),(vint 0),(vint 0),(vint 0),(vint 0),(vint 0),(vint 0),(Value.bool false),(Value.bool false),(vint 0),(vint 0)] [(0,1,(vint 5)),(4,1,(vint 1)),(7,5,v8)] fun c9 =>
Good prog J 9 [v7,(Value.agg ⟨c9⟩)] h6 fun v10 h11 =>
aExt v10 0 fun v12 =>
aExt v10 1 fun v13 =>
aStore 5 (f.r 16) v12 h11 fun h14 =>
aLoad true 5 (f.r 16) h14 fun v15 =>
Good prog J 10 [v15,(vint 0)] h14 fun v16 h17 =>
aExt v16 0 fun v18 =>
aExt v16 1 fun v19 =>
aBin prog .neq 33 v13 (vint 0) fun v20 =>
cnd v20
(Hold (W prog J 221 n0 3 (subC [1,1,1,1,0,1,0,0,1,0,0,1,1,1,1,1,0,0,1,0,0,1,1,1,1,1,1,1,1,1,1,1,1,1,1,1,1] (codeOf f3)) (RG.p (RG.p (RG.p (RG.p (RG.p (RG.p (RG.p (RG.p (RG.p (RG.p (RG.p (RG.p (RG.p (RG.p (RG.p (RG.p (RG.p (RG.p (RG.p (RG.p (RG.p (RG.p (RG.p (RG.p (RG.p (RG.p (RG.p (RG.p (RG.p (RG.p (RG.p (RG.p (RG.p (RG.p (RG.p (RG.p (RG.p (RG.p (RG.p (RG.p (RG.p f 184 v1) 185 v2) 186 v3) 187 v4) 188 (f.r 6)) 189 v5) 191 v7) 192 v8) 193 (Value.agg ⟨c9⟩)) 194 v10) 190 v10) 195 v12) 196 v13) 13 v13) 198 v15) 199 v16) 197 v16) 200 v18) 201 v19) 17 v18) 18 v19) 202 v13) 203 v20) 204 v20) 204 (Value.bool true)) 205 undef) 206 undef) 207 (Value.bool true)) 208 (Value.bool true)) 208 (Value.bool true)) 209 undef) 210 undef) 211 undef) 212 undef) 213 undef) 214 undef) 215 undef) 216 undef) 217 undef) 218 undef) 219 (Value.bool true)) h17 (contX pl3 prog J 221 n0 3 ct3 [1,1,1,1,0,1,0,0,1,0,0,1,1,1,1,1,0,0,1,0,0,1,1,1,1,1,1,1,1,1,1,1,1,1,1,1,1] (codeOf f3) [nx0,nx1] (RetQ prog [.tmp 2] n0 K))))
(aBin prog .neq 33 v19 (vint 0) fun v21 =>
cnd v21
(Hold (W prog J 221 n0 3 (subC [1,1,1,1,0,1,0,0,1,0,0,1,1,1,1,1,0,0,1,0,0,1,1,1,1,1,1,1,1,1,1,1,1,1,1,1,1] (codeOf f3)) (RG.p (RG.p (RG.p (RG.p (RG.p (RG.p (RG.p (RG.p (RG.p (RG.p (RG.p (RG.p (RG.p (RG.p (RG.p (RG.p (RG.p (RG.p (RG.p (RG.p (RG.p (RG.p (RG.p (RG.p (RG.p (RG.p (RG.p (RG.p (RG.p (RG.p (RG.p (RG.p (RG.p (RG.p (RG.p (RG.p (RG.p (RG.p (RG.p (RG.p (RG.p f 184 v1) 185 v2) 186 v3) 187 v4) 188 (f.r 6)) 189 v5) 191 v7) 192 v8) 193 (Value.agg ⟨c9⟩)) 194 v10) 190 v10) 195 v12) 196 v13) 13 v13) 198 v15) 199 v16) 197 v16) 200 v18) 201 v19) 17 v18) 18 v19) 202 v13) 203 v20) 204 v20) 204 (Value.bool false)) 205 v19) 206 v21) 207 v21) 208 v21) 208 (Value.bool true)) 209 undef) 210 undef) 211 undef) 212 undef) 213 undef) 214 undef) 215 undef) 216 undef) 217 undef) 218 undef) 219 (Value.bool true)) h17 (contX pl3 prog J 221 n0 3 ct3 [1,1,1,1,0,1,0,0,1,0,0,1,1,1,1,1,0,0,1,0,0,1,1,1,1,1,1,1,1,1,1,1,1,1,1,1,1] (codeOf f3) [nx0,nx1] (RetQ prog [.tmp 2] n0 K))))
(aMin (f.r 11) [(f.r 6)] fun v22 =>
aMax (f.r 11) [(f.r 6)] fun v23 =>
(((2 * 1 : Nat) ≤ 16777216 ∧ (2 : Nat) ≤ 16777216 ∧ List.length [(vint 0)] = 1) ∧ aFill (zrep [(vint 0)] 2) [(0,1,v22),(1,1,v23)] fun c24 =>
aNewS 2 c24 h17 fun v25 h26 =>
Good prog J 12 [v18,v25] h26 fun v27 h28 =>
aUn .not v27 fun v29 =>
Hold (W prog J 221 n0 3 (subC [1,1,1,1,0,1,0,0,1,0,0,1,1,1,1,1,0,0,1,0,0,1,1,1,1,1,1,1,1,1,1,1,1,1,1,1,1] (codeOf f3)) (RG.p (RG.p (RG.p (RG.p (RG.p (RG.p (RG.p (RG.p (RG.p (RG.p (RG.p (RG.p (RG.p (RG.p (RG.p (RG.p (RG.p (RG.p (RG.p (RG.p (RG.p (RG.p (RG.p (RG.p (RG.p (RG.p (RG.p (RG.p (RG.p (RG.p (RG.p (RG.p (RG.p (RG.p (RG.p (RG.p (RG.p (RG.p (RG.p (RG.p (RG.p f 184 v1) 185 v2) 186 v3) 187 v4) 188 (f.r 6)) 189 v5) 191 v7) 192 v8) 193 (Value.agg ⟨c9⟩)) 194 v10) 190 v10) 195 v12) 196 v13) 13 v13) 198 v15) 199 v16) 197 v16) 200 v18) 201 v19) 17 v18) 18 v19) 202 v13) 203 v20) 204 v20) 204 (Value.bool false)) 205 v19) 206 v21) 207 v21) 208 v21) 208 (Value.bool false)) 209 v18) 210 (f.r 11)) 211 (f.r 6)) 212 v22) 213 (f.r 11)) 214 (f.r 6)) 215 v23) 216 v25) 217 v27) 218 v29) 219 v29) h28 (contX pl3 prog J 221 n0 3 ct3 [1,1,1,1,0,1,0,0,1,0,0,1,1,1,1,1,0,0,1,0,0,1,1,1,1,1,1,1,1,1,1,1,1,1,1,1,1] (codeOf f3) [nx0,nx1] (RetQ prog [.tmp 2] n0 K)))))))) := sub_eq pok3 ct3 (by kernel_rfl)
theorem s3_8 {f : RG} {nx0 nx1 : RG → List AObj → Prop} : W prog J 221 n0 3 (subC [1,1,1,1,0,1,0,0,1,0,0,1,1,1,1,1,0,0,1,0,0,1,1,1,1,1,1,1,1,1,1,1,1,1,1,1,1] (codeOf f3)) f h (contX pl3 prog J 221 n0 3 ct3 [1,1,1,1,0,1,0,0,1,0,0,1,1,1,1,1,0,0,1,0,0,1,1,1,1,1,1,1,1,1,1,1,1,1,1,1,1] (codeOf f3) [nx0,nx1] (RetQ prog [.tmp 2] n0 K)) =
(cnd (f.r 219)
(retL n0 K f.ds [(Value.bool false)] h)
(aBin prog .add 3 (f.r 11) (vint 1) fun v1 =>
nx1 (RG.p (RG.p (RG.p f 62 (f.r 11)) 63 v1) 11 v1) h)) := sub_eq pok3 ct3 (by kernel_rfl)
end
section
variable {main : Bool} {J : JT} {n0 : Nat} {h : List AObj} {K : Value → List AObj → Prop}
theorem at57 : prog.funcs[57]? = some f57 := by kernel_rfl
theorem body57 : f57.body = some (codeOf f57) := by kernel_rfl
def pl57 : Plans := []
def ct57 : Cuts := .go
theorem pok57 : plansOk prog pl57 (codeOf f57) = true := by kernel_rfl
theorem e57 {a0 a1 : Value} : W prog J 20 h.length 57 (codeOf f57) (RG.mk (regs [a0,a1]) []) h (RetQ prog [.cell 4 119] h.length K) =
(aBox a0 h fun v1 h2 =>
aAlloc [(vint 0),(vint 0),(Value.bool false)] h2 fun v3 h4 =>
aOff v1 2 fun v5 =>
aLoad false 1 v5 h4 fun v6 =>
aUn .not v6 fun v7 =>
cnd v7
(aFill [(vint 0),(vint 0),(Value.bool false)] [(0,1,a1),(1,1,a1),(2,1,(Value.bool true))] fun c8 =>
aStore 3 v3 (Value.agg ⟨c8⟩) h4 fun h9 =>
RetQ prog [.cell 4 119] h.length K .ret (RG.p (RG.p (RG.p (RG.p (RG.p (RG.p (RG.p (RG.p (RG.mk (regs [a0,a1]) []) 2 v1) 4 v3) 5 v5) 6 v6) 7 v7) 8 a1) 9 a1) 10 (Value.agg ⟨c8⟩)) h9)
(aOff v1 0 fun v10 =>
aLoad false 1 v10 h4 fun v11 =>
aMin v11 [a1] fun v12 =>
aOff v1 1 fun v13 =>
aLoad false 1 v13 h4 fun v14 =>
aMax v14 [a1] fun v15 =>
aFill [(vint 0),(vint 0),(Value.bool false)] [(0,1,v12),(1,1,v15),(2,1,(Value.bool true))] fun c16 =>
aStore 3 v3 (Value.agg ⟨c16⟩) h4 fun h17 =>
RetQ prog [.cell 4 119] h.length K .ret (RG.p (RG.p (RG.p (RG.p (RG.p (RG.p (RG.p (RG.p (RG.p (RG.p (RG.p (RG.p (RG.p (RG.p (RG.mk (regs [a0,a1]) []) 2 v1) 4 v3) 5 v5) 6 v6) 7 v7) 11 v10) 12 v11) 13 a1) 14 v12) 15 v13) 16 v14) 17 a1) 18 v15) 19 (Value.agg ⟨c16⟩)) h17)) := top_eq pok57 ct57 (by kernel_rfl)
theorem g57 (hJ : Closed prog main J) {a0 a1 : Value} (hs : heapOk h → W prog J 20 h.length 57 (codeOf f57) (RG.mk (regs [a0,a1]) []) h (RetQ prog [.cell 4 119] h.length K)) : Good prog J 57 [a0,a1] h K :=
 good_of_W hJ mixed at57 body57 (by kernel_rfl) (Nat.le_of_ble_eq_true rfl) hs
theorem at64 : prog.funcs[64]? = some f64 := by kernel_rfl
theorem body64 : f64.body = some (codeOf f64) := by kernel_rfl
def pl64 : Plans := [(1,true,.take 0 (.take 1 (.take 2 (.take 3 (.take 4 (.take 5 (.take 6 (.last 7 false (.take 8 (.take 9 (.take 10 (.take 11 (.take 12 (.fin)))))))))))))),
 (5,true,.take 0 (.take 1 (.take 2 (.take 3 (.take 4 (.take 5 (.take 6 (.take 7 (.take 8 (.take 9 (.take 10 (.take 11 (.take 12 (.take 13 (.take 14 (.take 15 (.take 16 (.fin))))))))))))))))))]
def ct64 : Cuts := .bin (.go) (.bin (.go) (.bin (.go) (.un (.un (.bin (.go) (.bin (.go) (.bin (.un (.bin (.go) (.bin (.bin (.go) (.cut (.go))) (.go)))) (.go))))))))
theorem pok64 : plansOk prog pl64 (codeOf f64) = true := by kernel_rfl
theorem e64 {a0 a1 a2 a3 : Value} : W prog J 69 h.length 64 (codeOf f64) (RG.mk (regs [a0,a1,a2,a3]) []) h (RetQ prog [] h.length K) =
(aBox a1 h fun v1 h2 =>
aBox a2 h2 fun v3 h4 =>
aNil a0 fun v5 =>
aOff v5 0 fun v6 =>
aOff v6 0 fun v7 =>
aLoad true 2 v7 h4 fun v8 =>
aOff v3 7 fun v9 =>
aLoad true 5 v9 h4 fun v10 =>
Good prog J 6 [v8,v10] h4 fun v11 h12 =>
aExt v11 0 fun v13 =>
aExt v11 1 fun v14 =>
aLenS v13 fun v15 =>
Sem J 69 h.length 64 (subC [1,1,1,0] (codeOf f64)) (RG.p (RG.p (RG.p (RG.p (RG.p (RG.p (RG.p (RG.p (RG.p (RG.p (RG.p (RG.p (RG.p (RG.p (RG.p (RG.p (RG.p (RG.p (RG.mk (regs [a0,a1,a2,a3]) []) 5 v1) 6 v3) 15 a0) 16 v5) 17 v6) 18 v7) 19 v8) 20 v9) 21 v10) 22 v11) 14 v11) 23 v13) 24 v14) 8 v13) 9 v14) 25 v13) 26 v15) 27 (vint 0)) h12 (contX pl64 prog J 69 h.length 64 ct64 [1,1,1,0] (codeOf f64) [] (RetQ prog [] h.length K))) := top_eq pok64 ct64 (by kernel_rfl)
theorem g64 (hJ : Closed prog main J) {a0 a1 a2 a3 : Value} (hs : heapOk h → W prog J 69 h.length 64 (codeOf f64) (RG.mk (regs [a0,a1,a2,a3]) []) h (RetQ prog [] h.length K)) : Good prog J 64 [a0,a1,a2,a3] h K :=
 good_of_W hJ mixed at64 body64 (by kernel_rfl) (Nat.le_of_ble_eq_true rfl) hs
theorem s64_1 {f : RG} {nx0 : RG → List AObj → Prop} : W prog J 69 n0 64 (subC [1,1,1,0,0] (codeOf f64)) f h (thenK nx0 (contX pl64 prog J 69 n0 64 ct64 [1,1,1,0] (codeOf f64) [] (RetQ prog [] n0 K))) =
(aBin prog .lss 3 (f.r 27) (f.r 26) fun v1 =>
cnd v1
(aIdx 1 (f.r 25) (f.r 27) fun v2 =>
aLoad false 1 v2 h fun v3 =>
aNil (f.r 0) fun v4 =>
aOff v4 7 fun v5 =>
aLoad false 1 v5 h fun v6 =>
aNil (f.r 0) fun v7 =>
aOff v7 5 fun v8 =>
aLoad false 1 v8 h fun v9 =>
aBin prog .eql 3 v6 v9 fun v10 =>
cnd v10
(aNil (f.r 0) fun v11 =>
aOff v11 6 fun v12 =>
aLoad false 1 v12 h fun v13 =>
aBin prog .neq 3 v3 v13 fun v14 =>
Hold (W prog J 69 n0 64 (subC [1,1,1,0,0,1,1,0,0,1,0,1] (codeOf f64)) (RG.p (RG.p (RG.p (RG.p (RG.p (RG.p (RG.p (RG.p (RG.p (RG.p (RG.p (RG.p (RG.p (RG.p (RG.p (RG.p (RG.p (RG.p (RG.p (RG.p (RG.p (RG.p f 28 v1) 29 v2) 30 v3) 11 v3) 31 (f.r 0)) 32 v4) 33 v5) 34 v6) 35 (f.r 0)) 36 v7) 37 v8) 38 v9) 39 v10) 40 v10) 40 (Value.bool true)) 41 v3) 42 (f.r 0)) 43 v11) 44 v12) 45 v13) 46 v14) 47 v14) h (contX pl64 prog J 69 n0 64 ct64 [1,1,1,0,0,1,1,0,0,1,0,1] (codeOf f64) [nx0] (RetQ prog [] n0 K))))
(Hold (W prog J 69 n0 64 (subC [1,1,1,0,0,1,1,0,0,1,0,1] (codeOf f64)) (RG.p (RG.p (RG.p (RG.p (RG.p (RG.p (RG.p (RG.p (RG.p (RG.p (RG.p (RG.p (RG.p (RG.p (RG.p (RG.p (RG.p (RG.p (RG.p (RG.p (RG.p (RG.p f 28 v1) 29 v2) 30 v3) 11 v3) 31 (f.r 0)) 32 v4) 33 v5) 34 v6) 35 (f.r 0)) 36 v7) 37 v8) 38 v9) 39 v10) 40 v10) 40 (Value.bool false)) 41 undef) 42 undef) 43 undef) 44 undef) 45 undef) 46 undef) 47 (Value.bool false)) h (contX pl64 prog J 69 n0 64 ct64 [1,1,1,0,0,1,1,0,0,1,0,1] (codeOf f64) [nx0] (RetQ prog [] n0 K)))))
(retL n0 K f.ds [] h)) := sub_eq pok64 ct64 (by kernel_rfl)
theorem l64_1 (hJ : Closed prog main J) {S : Type} (μ : S → Nat) (I : S → RG → List AObj → Prop) (hI : ∀ s f h,I s f h → heapOk h → n0 ≤ h.length → W prog J 69 n0 64 (subC [1,1,1,0,0] (codeOf f64)) f h (thenK (Nx n0 μ I s) (contX pl64 prog J 69 n0 64 ct64 [1,1,1,0] (codeOf f64) [] (RetQ prog [] n0 K))))
 {s : S} {f : RG} (hi : Gets n0 I s f h) : Sem J 69 n0 64 (subC [1,1,1,0] (codeOf f64)) f h (contX pl64 prog J 69 n0 64 ct64 [1,1,1,0] (codeOf f64) [] (RetQ prog [] n0 K)) :=
 loop_rule hJ mixed (b := subC [1,1,1,0,0] (codeOf f64)) (by kernel_rfl) μ I hI hi
theorem s64_2 {f : RG} {nx0 : RG → List AObj → Prop} : W prog J 69 n0 64 (subC [1,1,1,0,0,1,1,0,0,1,0,1] (codeOf f64)) f h (contX pl64 prog J 69 n0 64 ct64 [1,1,1,0,0,1,1,0,0,1,0,1] (codeOf f64) [nx0] (RetQ prog [] n0 K)) =
(cnd (f.r 47)
(aBin prog .add 3 (f.r 27) (vint 1) fun v1 =>
nx0 (RG.p (RG.p f 68 v1) 27 v1) h)
(aLoad true 15 (f.r 5) h fun v2 =>
aOff (f.r 6) 1 fun v3 =>
aLoad false 1 v3 h fun v4 =>
Good prog J 66 [v2,v4,(f.r 11),(vint (-1))] h fun v5 h6 =>
aExt v5 0 fun v7 =>
aExt v5 1 fun v8 =>
aAlloc [(vint 0),(vint 0),(vint 0),(vint 0),(vint 0),(vint 0),(vint 0),(vint 0),(vint 0),(vint 0),(vint 0),(vint 0),(vint 0),(vint 0),(vint 0)] h6 fun v9 h10 =>
aStore 15 v9 v7 h10 fun h11 =>
cnd v8
(aLoad true 15 v9 h11 fun v12 =>
aOff (f.r 6) 4 fun v13 =>
aLoad false 1 v13 h11 fun v14 =>
Good prog J 66 [v12,v14,(f.r 11),(vint 1)] h11 fun v15 h16 =>
aExt v15 0 fun v17 =>
aExt v15 1 fun v18 =>
aStore 15 v9 v17 h16 fun h19 =>
aLoad true 15 v9 h19 fun v20 =>
callV prog (Good prog J) (f.r 3) [v20] h19 fun v21 h22 =>
aBin prog .add 3 (f.r 27) (vint 1) fun v23 =>
nx0 (RG.p (RG.p (RG.p (RG.p (RG.p (RG.p (RG.p (RG.p (RG.p (RG.p (RG.p (RG.p (RG.p (RG.p (RG.p (RG.p (RG.p (RG.p (RG.p (RG.p (RG.p (RG.p (RG.p (RG.p f 49 v2) 50 v3) 51 v4) 52 (f.r 11)) 53 v5) 48 v5) 54 v7) 55 v8) 12 v9) 13 v8) 56 v8) 58 v12) 59 v13) 60 v14) 61 (f.r 11)) 62 v15) 57 v15) 63 v17) 64 v18) 65 (f.r 3)) 66 v20) 67 v21) 68 v23) 27 v23) h22)
(aBin prog .add 3 (f.r 27) (vint 1) fun v24 =>
nx0 (RG.p (RG.p (RG.p (RG.p (RG.p (RG.p (RG.p (RG.p (RG.p (RG.p (RG.p (RG.p (RG.p f 49 v2) 50 v3) 51 v4) 52 (f.r 11)) 53 v5) 48 v5) 54 v7) 55 v8) 12 v9) 13 v8) 56 v8) 68 v24) 27 v24) h11))) := sub_eq pok64 ct64 (by kernel_rfl)
theorem at55 : prog.funcs[55]? = some f55 := by kernel_rfl
theorem body55 : f55.body = some (codeOf f55) := by kernel_rfl
def pl55 : Plans := []
def ct55 : Cuts := .go
theorem pok55 : plansOk prog pl55 (codeOf f55) = true := by kernel_rfl
theorem e55 {a0 : Value} : W prog J 17 h.length 55 (codeOf f55) (RG.mk (regs [a0]) []) h (RetQ prog [.tmp 2] h.length K) =
(aNewM h fun v1 h2 =>
aMkF 60 [a0] [] fun v3 =>
((VOk h2.length v3 ∧ one v3 = true) ∧ aUpdX prog 114 v1 (vint 1) v3 h2 fun h4 =>
aMkF 61 [a0] [] fun v5 =>
((VOk h4.length v5 ∧ one v5 = true) ∧ aUpdX prog 114 v1 (vint 2) v5 h4 fun h6 =>
aMkF 62 [a0] [] fun v7 =>
((VOk h6.length v7 ∧ one v7 = true) ∧ aUpdX prog 114 v1 (vint 3) v7 h6 fun h8 =>
aMkF 63 [a0] [] fun v9 =>
((VOk h8.length v9 ∧ one v9 = true) ∧ aUpdX prog 114 v1 (vint 4) v9 h8 fun h10 =>
aMkF 64 [a0] [] fun v11 =>
((VOk h10.length v11 ∧ one v11 = true) ∧ aUpdX prog 114 v1 (vint 5) v11 h10 fun h12 =>
aMkF 65 [a0] [] fun v13 =>
((VOk h12.length v13 ∧ one v13 = true) ∧ aUpdX prog 114 v1 (vint 6) v13 h12 fun h14 =>
retL h.length K [] [v1] h14))))))) := top_eq pok55 ct55 (by kernel_rfl)
theorem g55 (hJ : Closed prog main J) {a0 : Value} (hs : heapOk h → W prog J 17 h.length 55 (codeOf f55) (RG.mk (regs [a0]) []) h (RetQ prog [.tmp 2] h.length K)) : Good prog J 55 [a0] h K :=
 good_of_W hJ mixed at55 body55 (by kernel_rfl) (Nat.le_of_ble_eq_true rfl) hs
theorem at46 : prog.funcs[46]? = some f46 := by kernel_rfl
theorem body46 : f46.body = some (codeOf f46) := by kernel_rfl
def pl46 : Plans := []
def ct46 : Cuts := .go
theorem pok46 : plansOk prog pl46 (codeOf f46) = true := by kernel_rfl
theorem e46 {a0 : Value} : W prog J 4 h.length 46 (codeOf f46) (RG.mk (regs [a0]) []) h (RetQ prog [.tmp 2] h.length K) =
(aBox a0 h fun v1 h2 =>
aMkF 53 [] [v1] fun v3 =>
retL h.length K [] [v3] h2) := top_eq pok46 ct46 (by kernel_rfl)
theorem g46 (hJ : Closed prog main J) {a0 : Value} (hs : heapOk h → W prog J 4 h.length 46 (codeOf f46) (RG.mk (regs [a0]) []) h (RetQ prog [.tmp 2] h.length K)) : Good prog J 46 [a0] h K :=
 good_of_W hJ mixed at46 body46 (by kernel_rfl) (Nat.le_of_ble_eq_true rfl) hs
theorem at53 : prog.funcs[53]? = some f53 := by kernel_rfl
theorem body53 : f53.body = some (codeOf f53) := by kernel_rfl
def pl53 : Plans := [(0,false,.take 1 (.take 5 (.alt 0 true (.last 2 true (.alt 3 true (.take 4 (.last 6 true (.take 7 (.take 8 (.fin))))) (.last 6 true (.last 3 true (.take 4 (.take 7 (.take 8 (.fin)))))))) (.last 2 true (.alt 0 true (.alt 3 true (.take 4 (.last 6 true (.take 7 (.take 8 (.fin))))) (.last 6 true (.last 3 true (.take 4 (.take 7 (.take 8 (.fin))))))) (.last 6 true (.last 0 true (.last 3 true (.take 4 (.take 7 (.take 8 (.fin))))))))))))]
def ct53 : Cuts := .bin (.go) (.cut (.go))
theorem pok53 : plansOk prog pl53 (codeOf f53) = true := by kernel_rfl
theorem e53 {a0 a1 : Value} : W prog J 58 h.length 53 (codeOf f53) (RG.mk (regs [a0,a1]) []) h (RetQ prog [] h.length K) =
((∃ B,aLoad false 1 a1 h fun v1 =>
RdOk (some B) (ptrBlk a1) ∧ (aLoad false 1 a1 h fun v2 =>
RdOk (some B) (ptrBlk a1) ∧ ((aNewM h fun v3 h4 =>
SameB (some B) h h4 ∧ (Good prog J 54 [v1] h4 fun v5 h6 =>
SameB (some B) h h6 ∧ ((((VOk h6.length (Value.bool true) ∧ one (Value.bool true) = true) ∧ aUpdX prog 113 v3 v5 (Value.bool true) h6 fun h7 =>
SameB (some B) h h7 ∧ (Good prog J 55 [v2] h7 fun v8 h9 =>
SameB (some B) h h9 ∧ (Hold (W prog J 58 h.length 53 (subC [1] (codeOf f53)) (RG.p (RG.p (RG.p (RG.p (RG.p (RG.p (RG.p (RG.p (RG.mk (regs [a0,a1]) []) 11 v1) 14 v2) 10 v3) 12 v5) 13 v3) 15 v8) 3 v3) 4 v8) h9 (contX pl53 prog J 58 h.length 53 ct53 [1] (codeOf f53) [] (RetQ prog [] h.length K))))))) ∧ (Good prog J 55 [v2] h6 fun v10 h11 =>
SameB (some B) h h11 ∧ (((VOk h11.length (Value.bool true) ∧ one (Value.bool true) = true) ∧ aUpdX prog 113 v3 v5 (Value.bool true) h11 fun h12 =>
SameB (some B) h h12 ∧ (Hold (W prog J 58 h.length 53 (subC [1] (codeOf f53)) (RG.p (RG.p (RG.p (RG.p (RG.p (RG.p (RG.p (RG.p (RG.mk (regs [a0,a1]) []) 11 v1) 14 v2) 10 v3) 12 v5) 15 v10) 13 v3) 3 v3) 4 v10) h12 (contX pl53 prog J 58 h.length 53 ct53 [1] (codeOf f53) [] (RetQ prog [] h.length K)))))))))) ∧ (Good prog J 54 [v1] h fun v13 h14 =>
SameB (some B) h h14 ∧ ((aNewM h14 fun v15 h16 =>
SameB (some B) h h16 ∧ ((((VOk h16.length (Value.bool true) ∧ one (Value.bool true) = true) ∧ aUpdX prog 113 v15 v13 (Value.bool true) h16 fun h17 =>
SameB (some B) h h17 ∧ (Good prog J 55 [v2] h17 fun v18 h19 =>
SameB (some B) h h19 ∧ (Hold (W prog J 58 h.length 53 (subC [1] (codeOf f53)) (RG.p (RG.p (RG.p (RG.p (RG.p (RG.p (RG.p (RG.p (RG.mk (regs [a0,a1]) []) 11 v1) 14 v2) 12 v13) 10 v15) 13 v15) 15 v18) 3 v15) 4 v18) h19 (contX pl53 prog J 58 h.length 53 ct53 [1] (codeOf f53) [] (RetQ prog [] h.length K))))))) ∧ (Good prog J 55 [v2] h16 fun v20 h21 =>
SameB (some B) h h21 ∧ (((VOk h21.length (Value.bool true) ∧ one (Value.bool true) = true) ∧ aUpdX prog 113 v15 v13 (Value.bool true) h21 fun h22 =>
SameB (some B) h h22 ∧ (Hold (W prog J 58 h.length 53 (subC [1] (codeOf f53)) (RG.p (RG.p (RG.p (RG.p (RG.p (RG.p (RG.p (RG.p (RG.mk (regs [a0,a1]) []) 11 v1) 14 v2) 12 v13) 10 v15) 15 v20) 13 v15) 3 v15) 4 v20) h22 (contX pl53 prog J 58 h.length 53 ct53 [1] (codeOf f53) [] (RetQ prog [] h.length K))))))))) ∧ (Good prog J 55 [v2] h14 fun v23 h24 =>
SameB (some B) h h24 ∧ (aNewM h24 fun v25 h26 =>
SameB (some B) h h26 ∧ (((VOk h26.length (Value.bool true) ∧ one (Value.bool true) = true) ∧ aUpdX prog 113 v25 v13 (Value.bool true) h26 fun h27 =>
SameB (some B) h h27 ∧ (Hold (W prog J 58 h.length 53 (subC [1] (codeOf f53)) (RG.p (RG.p (RG.p (RG.p (RG.p (RG.p (RG.p (RG.p (RG.mk (regs [a0,a1]) []) 11 v1) 14 v2) 12 v13) 15 v23) 10 v25) 13 v25) 3 v25) 4 v23) h27 (contX pl53 prog J 58 h.length 53 ct53 [1] (codeOf f53) [] (RetQ prog [] h.length K)))))))))))))) := top_eq pok53 ct53 (by kernel_rfl)
theorem g53 (hJ : Closed prog main J) {a0 a1 : Value} (hs : heapOk h → W prog J 58 h.length 53 (codeOf f53) (RG.mk (regs [a0,a1]) []) h (RetQ prog [] h.length K)) : Good prog J 53 [a0,a1] h K :=
 good_of_W hJ mixed at53 body53 (by kernel_rfl) (Nat.le_of_ble_eq_true rfl) hs
theorem s53_1 {f : RG} : W prog J 58 n0 53 (subC [1] (codeOf f53)) f h (contX pl53 prog J 58 n0 53 ct53 [1] (codeOf f53) [] (RetQ prog [] n0 K)) =
(aLoad false 1 (f.r 1) h fun v1 =>
aNil v1 fun v2 =>
aOff v2 0 fun v3 =>
aOff v3 4 fun v4 =>
aLoad false 1 v4 h fun v5 =>
aLenS v5 fun v6 =>
Sem J 58 n0 53 (subC [1,0,1,0] (codeOf f53)) (RG.p (RG.p (RG.p (RG.p (RG.p (RG.p (RG.p f 16 v1) 17 v2) 18 v3) 19 v4) 20 v5) 21 v6) 22 (vint 0)) h (contX pl53 prog J 58 n0 53 ct53 [1,0,1,0] (codeOf f53) [] (RetQ prog [] n0 K))) := sub_eq pok53 ct53 (by kernel_rfl)
theorem s53_2 {f : RG} {nx0 : RG → List AObj → Prop} : W prog J 58 n0 53 (subC [1,0,1,0,0] (codeOf f53)) f h (thenK nx0 (contX pl53 prog J 58 n0 53 ct53 [1,0,1,0] (codeOf f53) [] (RetQ prog [] n0 K))) =
(aBin prog .lss 3 (f.r 22) (f.r 21) fun v1 =>
cnd v1
(aIdx 12 (f.r 20) (f.r 22) fun v2 =>
aLoad true 12 v2 h fun v3 =>
aAlloc [(vint 0),(vint 0),(vint 0),(vint 0),(vint 0),(vint 0),(vint 0),(vint 0),(Value.bool false),(Value.bool false),(vint 0),(vint 0)] h fun v4 h5 =>
aStore 12 v4 v3 h5 fun h6 =>
aLoad false 1 (f.r 1) h6 fun v7 =>
aNil v7 fun v8 =>
aOff v8 7 fun v9 =>
aStore 1 v9 (f.r 22) h6 fun h10 =>
aNewM h10 fun v11 h12 =>
aAlloc [(Value.map none)] h12 fun v13 h14 =>
aStore 1 v13 v11 h14 fun h15 =>
aRange prog 113 (f.r 3) h15 fun v16 h17 =>
Sem J 58 n0 53 (subC [1,0,1,0,0,1,1,0,0,1,1,1,0,1,0] (codeOf f53)) (RG.p (RG.p (RG.p (RG.p (RG.p (RG.p (RG.p (RG.p (RG.p (RG.p (RG.p (RG.p (RG.p (RG.p f 23 v1) 24 (f.r 22)) 25 v2) 26 v3) 6 v4) 5 (f.r 22)) 27 v7) 28 (f.r 22)) 29 v8) 30 v9) 31 v11) 7 v13) 32 (f.r 3)) 33 v16) h17 (contX pl53 prog J 58 n0 53 ct53 [1,0,1,0,0,1,1,0,0,1,1,1,0,1,0] (codeOf f53) [nx0] (RetQ prog [] n0 K)))
(aRange prog 113 (f.r 3) h fun v18 h19 =>
Sem J 58 n0 53 (subC [1,1,1,0] (codeOf f53)) (RG.p (RG.p (RG.p f 23 v1) 48 (f.r 3)) 49 v18) h19 (contX pl53 prog J 58 n0 53 ct53 [1,1,1,0] (codeOf f53) [] (RetQ prog [] n0 K)))) := sub_eq pok53 ct53 (by kernel_rfl)
theorem l53_2 (hJ : Closed prog main J) {S : Type} (μ : S → Nat) (I : S → RG → List AObj → Prop) (hI : ∀ s f h,I s f h → heapOk h → n0 ≤ h.length → W prog J 58 n0 53 (subC [1,0,1,0,0] (codeOf f53)) f h (thenK (Nx n0 μ I s) (contX pl53 prog J 58 n0 53 ct53 [1,0,1,0] (codeOf f53) [] (RetQ prog [] n0 K))))
 {s : S} {f : RG} (hi : Gets n0 I s f h) : Sem J 58 n0 53 (subC [1,0,1,0] (codeOf f53)) f h (contX pl53 prog J 58 n0 53 ct53 [1,0,1,0] (codeOf f53) [] (RetQ prog [] n0 K)) :=
 loop_rule hJ mixed (b := subC [1,0,1,0,0] (codeOf f53)) (by kernel_rfl) μ I hI hi
theorem s53_3 {f : RG} {nx0 nx1 : RG → List AObj → Prop} : W prog J 58 n0 53 (subC [1,0,1,0,0,1,1,0,0,1,1,1,0,1,0,0] (codeOf f53)) f h (thenK nx1 (contX pl53 prog J 58 n0 53 ct53 [1,0,1,0,0,1,1,0,0,1,1,1,0,1,0] (codeOf f53) [nx0] (RetQ prog [] n0 K))) =
(aNext (f.r 33) h fun v1 h2 =>
aExt v1 0 fun v3 =>
cnd v3
(aEntry (f.r 33) h2 fun v4 =>
aExt v4 0 fun v5 =>
aAlloc [(vint 0),(vint 0),(vint 0),(vint 0),(vint 0),(vint 0),(vint 0),(vint 0),(vint 0),(vint 0),(vint 0),(vint 0),(vint 0),(vint 0),(vint 0)] h2 fun v6 h7 =>
aStore 15 v6 v5 h7 fun h8 =>
aOff (f.r 6) 0 fun v9 =>
aLoad false 1 v9 h8 fun v10 =>
aLook prog 114 false (f.r 4) v10 h8 fun v11 =>
aLoad true 15 v6 h8 fun v12 =>
aLoad true 12 (f.r 6) h8 fun v13 =>
aMkF 56 [] [(f.r 7)] fun v14 =>
callV prog (Good prog J) v11 [v12,v13,v14] h8 fun v15 h16 =>
nx1 (RG.p (RG.p (RG.p (RG.p (RG.p (RG.p (RG.p (RG.p (RG.p (RG.p (RG.p (RG.p (RG.p f 34 v1) 35 v3) 36 v4) 37 v5) 8 v6) 38 (f.r 4)) 39 v9) 40 v10) 41 v11) 42 v12) 43 v13) 44 v14) 45 v15) h16)
(aLoad false 1 (f.r 7) h2 fun v17 =>
aBin prog .add 3 (f.r 22) (vint 1) fun v18 =>
nx0 (RG.p (RG.p (RG.p (RG.p (RG.p (RG.p f 34 v1) 35 v3) 46 v17) 3 v17) 47 v18) 22 v18) h2)) := sub_eq pok53 ct53 (by kernel_rfl)
theorem l53_3 (hJ : Closed prog main J) {nx0 : RG → List AObj → Prop} {S : Type} (μ : S → Nat) (I : S → RG → List AObj → Prop) (hI : ∀ s f h,I s f h → heapOk h → n0 ≤ h.length → W prog J 58 n0 53 (subC [1,0,1,0,0,1,1,0,0,1,1,1,0,1,0,0] (codeOf f53)) f h (thenK (Nx n0 μ I s) (contX pl53 prog J 58 n0 53 ct53 [1,0,1,0,0,1,1,0,0,1,1,1,0,1,0] (codeOf f53) [nx0] (RetQ prog [] n0 K))))
 {s : S} {f : RG} (hi : Gets n0 I s f h) : Sem J 58 n0 53 (subC [1,0,1,0,0,1,1,0,0,1,1,1,0,1,0] (codeOf f53)) f h (contX pl53 prog J 58 n0 53 ct53 [1,0,1,0,0,1,1,0,0,1,1,1,0,1,0] (codeOf f53) [nx0] (RetQ prog [] n0 K)) :=
 loop_rule hJ mixed (b := subC [1,0,1,0,0,1,1,0,0,1,1,1,0,1,0,0] (codeOf f53)) (by kernel_rfl) μ I hI hi
theorem s53_4 {f : RG} {nx0 : RG → List AObj → Prop} : W prog J 58 n0 53 (subC [1,1,1,0,0] (codeOf f53)) f h (thenK nx0 (contX pl53 prog J 58 n0 53 ct53 [1,1,1,0] (codeOf f53) [] (RetQ prog [] n0 K))) =
(aNext (f.r 49) h fun v1 h2 =>
aExt v1 0 fun v3 =>
cnd v3
(aEntry (f.r 49) h2 fun v4 =>
aExt v4 0 fun v5 =>
aAlloc [(vint 0),(vint 0),(vint 0),(vint 0),(vint 0),(vint 0),(vint 0),(vint 0),(vint 0),(vint 0),(vint 0),(vint 0),(vint 0),(vint 0),(vint 0)] h2 fun v6 h7 =>
aStore 15 v6 v5 h7 fun h8 =>
aLoad true 15 v6 h8 fun v9 =>
callV prog (Good prog J) (f.r 0) [v9] h8 fun v10 h11 =>
aUn .not v10 fun v12 =>
cnd v12
(retL n0 K f.ds [] h11)
(nx0 (RG.p (RG.p (RG.p (RG.p (RG.p (RG.p (RG.p (RG.p (RG.p f 50 v1) 51 v3) 52 v4) 53 v5) 9 v6) 54 (f.r 0)) 55 v9) 56 v10) 57 v12) h11))
(retL n0 K f.ds [] h2)) := sub_eq pok53 ct53 (by kernel_rfl)
theorem l53_4 (hJ : Closed prog main J) {S : Type} (μ : S → Nat) (I : S → RG → List AObj → Prop) (hI : ∀ s f h,I s f h → heapOk h → n0 ≤ h.length → W prog J 58 n0 53 (subC [1,1,1,0,0] (codeOf f53)) f h (thenK (Nx n0 μ I s) (contX pl53 prog J 58 n0 53 ct53 [1,1,1,0] (codeOf f53) [] (RetQ prog [] n0 K))))
 {s : S} {f : RG} (hi : Gets n0 I s f h) : Sem J 58 n0 53 (subC [1,1,1,0] (codeOf f53)) f h (contX pl53 prog J 58 n0 53 ct53 [1,1,1,0] (codeOf f53) [] (RetQ prog [] n0 K)) :=
 loop_rule hJ mixed (b := subC [1,1,1,0,0] (codeOf f53)) (by kernel_rfl) μ I hI hi
theorem at56 : prog.funcs[56]? = some f56 := by kernel_rfl
theorem body56 : f56.body = some (codeOf f56) := by kernel_rfl
def pl56 : Plans := []
def ct56 : Cuts := .go
theorem pok56 : plansOk prog pl56 (codeOf f56) = true := by kernel_rfl
theorem e56 {a0 a1 : Value} : W prog J 5 h.length 56 (codeOf f56) (RG.mk (regs [a0,a1]) []) h (RetQ prog [] h.length K) =
(aBox a0 h fun v1 h2 =>
aLoad false 1 a1 h2 fun v3 =>
aLoad true 15 v1 h2 fun v4 =>
((VOk h2.length (Value.bool true) ∧ one (Value.bool true) = true) ∧ aUpd prog 113 v3 v4 (Value.bool true) h2 fun h5 =>
retL h.length K [] [] h5)) := top_eq pok56 ct56 (by kernel_rfl)
theorem g56 (hJ : Closed prog main J) {a0 a1 : Value} (hs : heapOk h → W prog J 5 h.length 56 (codeOf f56) (RG.mk (regs [a0,a1]) []) h (RetQ prog [] h.length K)) : Good prog J 56 [a0,a1] h K :=
 good_of_W hJ mixed at56 body56 (by kernel_rfl) (Nat.le_of_ble_eq_true rfl) hs
theorem at26 : prog.funcs[26]? = some f26 := by kernel_rfl
theorem body26 : f26.body = some (codeOf f26) := by kernel_rfl
def pl26 : Plans := []
def ct26 : Cuts := .go
theorem pok26 : plansOk prog pl26 (codeOf f26) = true := by kernel_rfl
theorem e26 {a0 : Value} : W prog J 8 h.length 26 (codeOf f26) (RG.mk (regs [a0]) []) h (RetQ prog [.tmp 2] h.length K) =
(aAlloc [(Value.bool false)] h fun v1 h2 =>
aStore 1 v1 (Value.bool false) h2 fun h3 =>
Good prog J 46 [a0] h3 fun v4 h5 =>
Sem J 8 h.length 26 (subC [1,0,1,1,0,1,0] (codeOf f26)) (RG.p (RG.p (RG.p (RG.p (RG.mk (regs [a0]) []) 2 (Value.bool false)) 3 v1) 4 a0) 5 v4) h5 (contX pl26 prog J 8 h.length 26 ct26 [1,0,1,1,0,1,0] (codeOf f26) [] (RetQ prog [.tmp 2] h.length K))) := top_eq pok26 ct26 (by kernel_rfl)
theorem g26 (hJ : Closed prog main J) {a0 : Value} (hs : heapOk h → W prog J 8 h.length 26 (codeOf f26) (RG.mk (regs [a0]) []) h (RetQ prog [.tmp 2] h.length K)) : Good prog J 26 [a0] h K :=
 good_of_W hJ mixed at26 body26 (by kernel_rfl) (Nat.le_of_ble_eq_true rfl) hs
theorem a26_1 {f : RG} {fr : FuncId} {Q : QT} : W prog J 8 n0 fr (subC [1,0,1,1,0,1,0,0] (codeOf f26)) f h Q =
(Q .normal f h) := sub_eq pok26 ct26 (by kernel_rfl)
theorem b26_1 {f : RG} {fr : FuncId} {Q : QT} : W prog J 8 n0 fr (subC [1,0,1,1,0,1,0,1] (codeOf f26)) f h Q =
(aStore 1 (f.r 3) (Value.bool true) h fun h1 =>
Q (.exit 0) f h1) := sub_eq pok26 ct26 (by kernel_rfl)
theorem c26_1x0 {f : RG} : (contX pl26 prog J 8 n0 26 ct26 [1,0,1,1,0,1,0] (codeOf f26) [] (RetQ prog [.tmp 2] n0 K)) (.exit 0) f h =
(aLoad false 1 (f.r 3) h fun v1 =>
retL n0 K f.ds [v1] h) := by kernel_rfl
theorem c26_1 {f : RG} : (contX pl26 prog J 8 n0 26 ct26 [1,0,1,1,0,1,0] (codeOf f26) [] (RetQ prog [.tmp 2] n0 K)) .normal f h =
(aLoad false 1 (f.r 3) h fun v1 =>
retL n0 K f.ds [v1] h) := by kernel_rfl
theorem l26_1 (hJ : Closed prog main J) {f : RG} {g : FuncId} {first cap : List Value} (hx : ev f.r ((Go.Operand.tmp 5)) = .func (.func g) ⟨first⟩ ⟨cap⟩) (hg : g < prog.funcs.size)
 (hs : Good prog J g (first ++ [.func (.yield (h.length + 1)) ⟨[]⟩ ⟨[]⟩] ++ cap) (h ++ [.deferred] ++ [.loop .ready none 26 f.r 8 #[6] (subC [1,0,1,1,0,1,0,0] (codeOf f26)) (subC [1,0,1,1,0,1,0,1] (codeOf f26)) h.length]) (endQ h.length f (contX pl26 prog J 8 n0 26 ct26 [1,0,1,1,0,1,0] (codeOf f26) [] (RetQ prog [.tmp 2] n0 K)))) (hcall : callable prog g = true := by kernel_rfl) : Sem J 8 n0 26 (subC [1,0,1,1,0,1,0] (codeOf f26)) f h (contX pl26 prog J 8 n0 26 ct26 [1,0,1,1,0,1,0] (codeOf f26) [] (RetQ prog [.tmp 2] n0 K)) :=
 Sem_range hJ (by decide) (fop := (Go.Operand.tmp 5)) (params := #[6]) (assign := subC [1,0,1,1,0,1,0,0] (codeOf f26)) (body := subC [1,0,1,1,0,1,0,1] (codeOf f26)) hx hg hs hcall
theorem at47 : prog.funcs[47]? = some f47 := by kernel_rfl
theorem body47 : f47.body = some (codeOf f47) := by kernel_rfl
def pl47 : Plans := [(4,false,.take 0 (.take 1 (.take 2 (.last 3 true (.last 4 true (.last 5 false (.fin))))))),
 (5,false,.take 0 (.take 1 (.take 2 (.take 3 (.take 4 (.take 5 (.take 6 (.last 7 true (.take 8 (.fin))))))))))]
def ct47 : Cuts := .go
theorem pok47 : plansOk prog pl47 (codeOf f47) = true := by kernel_rfl
theorem e47 {a0 a1 : Value} : W prog J 23 h.length 47 (codeOf f47) (RG.mk (regs [a0,a1]) []) h (RetQ prog [.cell 4 53,.tmp 5] h.length K) =
(aBox a1 h fun v1 h2 =>
aAlloc [(vint 0),(vint 0)] h2 fun v3 h4 =>
aAlloc [(vint 0),(vint 0),(Value.bool false)] h4 fun v5 h6 =>
Good prog J 46 [a0] h6 fun v7 h8 =>
Sem J 23 h.length 47 (subC [1,1,0,1,0] (codeOf f47)) (RG.p (RG.p (RG.p (RG.p (RG.p (RG.p (RG.mk (regs [a0,a1]) []) 3 v1) 4 v3) 5 (Value.bool false)) 6 v5) 8 a0) 9 v7) h8 (contX pl47 prog J 23 h.length 47 ct47 [1,1,0,1,0] (codeOf f47) [] (RetQ prog [.cell 4 53,.tmp 5] h.length K))) := top_eq pok47 ct47 (by kernel_rfl)
theorem g47 (hJ : Closed prog main J) {a0 a1 : Value} (hs : heapOk h → W prog J 23 h.length 47 (codeOf f47) (RG.mk (regs [a0,a1]) []) h (RetQ prog [.cell 4 53,.tmp 5] h.length K)) : Good prog J 47 [a0,a1] h K :=
 good_of_W hJ mixed at47 body47 (by kernel_rfl) (Nat.le_of_ble_eq_true rfl) hs
theorem a47_1 {f : RG} {fr : FuncId} {Q : QT} : W prog J 23 n0 fr (subC [1,1,0,1,0,0] (codeOf f47)) f h Q =
(aAlloc [(vint 0),(vint 0),(vint 0),(vint 0),(vint 0),(vint 0),(vint 0),(vint 0),(vint 0),(vint 0),(vint 0),(vint 0),(vint 0),(vint 0),(vint 0)] h fun v1 h2 =>
aStore 15 v1 (f.r 10) h2 fun h3 =>
Q .normal (RG.p f 7 v1) h3) := sub_eq pok47 ct47 (by kernel_rfl)
theorem b47_1 {f : RG} {fr : FuncId} {Q : QT} : W prog J 23 n0 fr (subC [1,1,0,1,0,1] (codeOf f47)) f h Q =
((∃ B,aLoad true 3 (f.r 6) h fun v1 =>
RdOk (some B) (ptrBlk (f.r 6)) ∧ (aLoad false 1 (f.r 3) h fun v2 =>
RdOk (some B) (ptrBlk (f.r 3)) ∧ (aLoad true 15 (f.r 7) h fun v3 =>
RdOk (some B) (ptrBlk (f.r 7)) ∧ (callV prog (Good prog J) v2 [v3] h fun v4 h5 =>
SameB (some B) h h5 ∧ (Good prog J 57 [v1,v4] h5 fun v6 h7 =>
SameB (some B) h h7 ∧ (aStore 3 (f.r 6) v6 h7 fun h8 =>
Q .normal (RG.p (RG.p (RG.p (RG.p (RG.p f 11 v1) 12 v2) 13 v3) 14 v4) 15 v6) h8))))))) := sub_eq pok47 ct47 (by kernel_rfl)
theorem c47_1 {f : RG} : (contX pl47 prog J 23 n0 47 ct47 [1,1,0,1,0] (codeOf f47) [] (RetQ prog [.cell 4 53,.tmp 5] n0 K)) .normal f h =
((∃ B,aOff (f.r 6) 0 fun v1 =>
aLoad false 1 v1 h fun v2 =>
RdOk (some B) (ptrBlk v1) ∧ (aOff (f.r 6) 1 fun v3 =>
aLoad false 1 v3 h fun v4 =>
RdOk (some B) (ptrBlk v3) ∧ (aFill [(vint 0),(vint 0)] [(0,1,v2),(1,1,v4)] fun c5 =>
aOff (f.r 6) 2 fun v6 =>
aLoad false 1 v6 h fun v7 =>
RdOk (some B) (ptrBlk v6) ∧ (aStore 2 (f.r 4) (Value.agg ⟨c5⟩) h fun h8 =>
SameB (some B) h h8 ∧ (RetQ prog [.cell 4 53,.tmp 5] n0 K .ret (RG.p (RG.p (RG.p (RG.p (RG.p (RG.p (RG.p (RG.p f 16 v1) 17 v2) 18 v3) 19 v4) 20 (Value.agg ⟨c5⟩)) 21 v6) 22 v7) 5 v7) h8)))))) := by kernel_rfl
theorem l47_1 (hJ : Closed prog main J) {f : RG} {g : FuncId} {first cap : List Value} (hx : ev f.r ((Go.Operand.tmp 9)) = .func (.func g) ⟨first⟩ ⟨cap⟩) (hg : g < prog.funcs.size)
 (hs : Good prog J g (first ++ [.func (.yield (h.length + 1)) ⟨[]⟩ ⟨[]⟩] ++ cap) (h ++ [.deferred] ++ [.loop .ready none 47 f.r 23 #[10] (subC [1,1,0,1,0,0] (codeOf f47)) (subC [1,1,0,1,0,1] (codeOf f47)) h.length]) (endQ h.length f (contX pl47 prog J 23 n0 47 ct47 [1,1,0,1,0] (codeOf f47) [] (RetQ prog [.cell 4 53,.tmp 5] n0 K)))) (hcall : callable prog g = true := by kernel_rfl) : Sem J 23 n0 47 (subC [1,1,0,1,0] (codeOf f47)) f h (contX pl47 prog J 23 n0 47 ct47 [1,1,0,1,0] (codeOf f47) [] (RetQ prog [.cell 4 53,.tmp 5] n0 K)) :=
 Sem_range hJ (by decide) (fop := (Go.Operand.tmp 9)) (params := #[10]) (assign := subC [1,1,0,1,0,0] (codeOf f47)) (body := subC [1,1,0,1,0,1] (codeOf f47)) hx hg hs hcall
theorem at29 : prog.funcs[29]? = some f29 := by kernel_rfl
theorem body29 : f29.body = some (codeOf f29) := by kernel_rfl
def pl29 : Plans := []
def ct29 : Cuts := .go
theorem pok29 : plansOk prog pl29 (codeOf f29) = true := by kernel_rfl
theorem e29 {a0 a1 a2 : Value} : W prog J 30 h.length 29 (codeOf f29) (RG.mk (regs [a0,a1,a2]) []) h (RetQ prog [.tmp 6,.tmp 7] h.length K) =
(aBox a2 h fun v1 h2 =>
Sem J 30 h.length 29 (subC [1,1,0,1,0] (codeOf f29)) (RG.p (RG.p (RG.p (RG.p (RG.p (RG.p (RG.mk (regs [a0,a1,a2]) []) 5 v1) 6 (Value.slice none 0 0)) 7 (vint 0)) 8 (Value.slice none 0 0)) 12 a1) 13 (vint 0)) h2 (contX pl29 prog J 30 h.length 29 ct29 [1,1,0,1,0] (codeOf f29) [] (RetQ prog [.tmp 6,.tmp 7] h.length K))) := top_eq pok29 ct29 (by kernel_rfl)
theorem g29 (hJ : Closed prog main J) {a0 a1 a2 : Value} (hs : heapOk h → W prog J 30 h.length 29 (codeOf f29) (RG.mk (regs [a0,a1,a2]) []) h (RetQ prog [.tmp 6,.tmp 7] h.length K)) : Good prog J 29 [a0,a1,a2] h K :=
 good_of_W hJ mixed at29 body29 (by kernel_rfl) (Nat.le_of_ble_eq_true rfl) hs
theorem s29_1 {f : RG} {nx0 : RG → List AObj → Prop} : W prog J 30 n0 29 (subC [1,1,0,1,0,0] (codeOf f29)) f h (thenK nx0 (contX pl29 prog J 30 n0 29 ct29 [1,1,0,1,0] (codeOf f29) [] (RetQ prog [.tmp 6,.tmp 7] n0 K))) =
(aBin prog .lss 3 (f.r 13) (f.r 12) fun v1 =>
cnd v1
(aAlloc [(vint 0)] h fun v2 h3 =>
aStore 1 v2 (f.r 13) h3 fun h4 =>
aMkF 48 [] [(f.r 5),v2] fun v5 =>
Good prog J 47 [(f.r 0),v5] h4 fun v6 h7 =>
aExt v6 0 fun v8 =>
aExt v6 1 fun v9 =>
aAlloc [(vint 0),(vint 0)] h7 fun v10 h11 =>
aStore 2 v10 v8 h11 fun h12 =>
aUn .not v9 fun v13 =>
cnd v13
(retL n0 K f.ds [(Value.slice none 0 0),(vint 11)] h12)
(aLoad true 2 v10 h12 fun v14 =>
(((1 * 2 : Nat) ≤ 16777216 ∧ (1 : Nat) ≤ 16777216 ∧ List.length [(vint 0),(vint 0)] = 2) ∧ aFill (zrep [(vint 0),(vint 0)] 1) [(0,2,v14)] fun c15 =>
aNewS 1 c15 h12 fun v16 h17 =>
((List.length [(vint 0),(vint 0)] = 2 ∧ 0 < (2 : Nat) ∧ 0 < (16 : Nat) ∧ (16 : Nat) ≤ 1024) ∧ aApp 2 (f.r 8) v16 h17 fun v18 h19 =>
aBin prog .add 3 (f.r 13) (vint 1) fun v20 =>
nx0 (RG.p (RG.p (RG.p (RG.p (RG.p (RG.p (RG.p (RG.p (RG.p (RG.p (RG.p (RG.p (RG.p (RG.p (RG.p (RG.p (RG.p (RG.p (RG.p (RG.p f 14 v1) 15 (f.r 13)) 9 v2) 17 (f.r 0)) 18 v5) 19 v6) 16 v6) 20 v8) 21 v9) 10 v10) 11 v9) 22 v9) 23 v13) 24 (f.r 8)) 25 v14) 26 v16) 27 v18) 8 v18) 28 v20) 13 v20) h19))))
(retL n0 K f.ds [(f.r 8),(vint 0)] h)) := sub_eq pok29 ct29 (by kernel_rfl)
theorem l29_1 (hJ : Closed prog main J) {S : Type} (μ : S → Nat) (I : S → RG → List AObj → Prop) (hI : ∀ s f h,I s f h → heapOk h → n0 ≤ h.length → W prog J 30 n0 29 (subC [1,1,0,1,0,0] (codeOf f29)) f h (thenK (Nx n0 μ I s) (contX pl29 prog J 30 n0 29 ct29 [1,1,0,1,0] (codeOf f29) [] (RetQ prog [.tmp 6,.tmp 7] n0 K))))
 {s : S} {f : RG} (hi : Gets n0 I s f h) : Sem J 30 n0 29 (subC [1,1,0,1,0] (codeOf f29)) f h (contX pl29 prog J 30 n0 29 ct29 [1,1,0,1,0] (codeOf f29) [] (RetQ prog [.tmp 6,.tmp 7] n0 K)) :=
 loop_rule hJ mixed (b := subC [1,1,0,1,0,0] (codeOf f29)) (by kernel_rfl) μ I hI hi
theorem at48 : prog.funcs[48]? = some f48 := by kernel_rfl
theorem body48 : f48.body = some (codeOf f48) := by kernel_rfl
def pl48 : Plans := []
def ct48 : Cuts := .go
theorem pok48 : plansOk prog pl48 (codeOf f48) = true := by kernel_rfl
theorem e48 {a0 a1 a2 : Value} : W prog J 9 h.length 48 (codeOf f48) (RG.mk (regs [a0,a1,a2]) []) h (RetQ prog [.tmp 4] h.length K) =
(aBox a0 h fun v1 h2 =>
aLoad false 1 a1 h2 fun v3 =>
aLoad true 15 v1 h2 fun v4 =>
aLoad false 1 a2 h2 fun v5 =>
callV prog (Good prog J) v3 [v4,v5] h2 fun v6 h7 =>
retL h.length K [] [v6] h7) := top_eq pok48 ct48 (by kernel_rfl)
theorem g48 (hJ : Closed prog main J) {a0 a1 a2 : Value} (hs : heapOk h → W prog J 9 h.length 48 (codeOf f48) (RG.mk (regs [a0,a1,a2]) []) h (RetQ prog [.tmp 4] h.length K)) : Good prog J 48 [a0,a1,a2] h K :=
 good_of_W hJ mixed at48 body48 (by kernel_rfl) (Nat.le_of_ble_eq_true rfl) hs
theorem at9 : prog.funcs[9]? = some f9 := by kernel_rfl
theorem body9 : f9.body = some (codeOf f9) := by kernel_rfl
def pl9 : Plans := []
def ct9 : Cuts := .bin (.go) (.bin (.go) (.bin (.go) (.bin (.go) (.bin (.go) (.bin (.go) (.bin (.go) (.bin (.bin (.go) (.cut (.go))) (.go))))))))
theorem pok9 : plansOk prog pl9 (codeOf f9) = true := by kernel_rfl
theorem e9 {a0 a1 : Value} : W prog J 49 h.length 9 (codeOf f9) (RG.mk (regs [a0,a1]) []) h (RetQ prog [.cell 4 42,.tmp 5] h.length K) =
(aBox a0 h fun v1 h2 =>
aBox a1 h2 fun v3 h4 =>
aAlloc [(vint 0),(Value.slice none 0 0),(Value.slice none 0 0),(Value.slice none 0 0),(Value.slice none 0 0)] h4 fun v5 h6 =>
aLoad true 5 v1 h6 fun v7 =>
Good prog J 23 [v7] h6 fun v8 h9 =>
aExt v8 0 fun v10 =>
aExt v8 1 fun v11 =>
aBin prog .neq 33 v11 (vint 0) fun v12 =>
cnd v12
(aFill [(vint 0),(Value.slice none 0 0),(Value.slice none 0 0),(Value.slice none 0 0),(Value.slice none 0 0)] [] fun c13 =>
aStore 5 v5 (Value.agg ⟨c13⟩) h9 fun h14 =>
RetQ prog [.cell 4 42,.tmp 5] h.length K .ret (RG.p (RG.p (RG.p (RG.p (RG.p (RG.p (RG.p (RG.p (RG.p (RG.p (RG.p (RG.p (RG.p (RG.p (RG.p (RG.p (RG.mk (regs [a0,a1]) []) 2 v1) 3 v3) 4 v5) 5 (vint 0)) 11 v7) 12 v8) 10 v8) 13 v10) 14 v11) 6 v10) 7 v11) 15 v11) 16 v12) 17 (Value.agg ⟨c13⟩)) 18 v11) 5 v11) h14)
(aOff v1 4 fun v15 =>
aLoad false 1 v15 h9 fun v16 =>
aLenS v16 fun v17 =>
aBin prog .geq 3 v17 (vint 6) fun v18 =>
cnd v18
(aFill [(vint 0),(Value.slice none 0 0),(Value.slice none 0 0),(Value.slice none 0 0),(Value.slice none 0 0)] [] fun c19 =>
aStore 5 v5 (Value.agg ⟨c19⟩) h9 fun h20 =>
RetQ prog [.cell 4 42,.tmp 5] h.length K .ret (RG.p (RG.p (RG.p (RG.p (RG.p (RG.p (RG.p (RG.p (RG.p (RG.p (RG.p (RG.p (RG.p (RG.p (RG.p (RG.p (RG.p (RG.p (RG.p (RG.mk (regs [a0,a1]) []) 2 v1) 3 v3) 4 v5) 5 (vint 0)) 11 v7) 12 v8) 10 v8) 13 v10) 14 v11) 6 v10) 7 v11) 15 v11) 16 v12) 19 v15) 20 v16) 21 v17) 22 v18) 23 (Value.agg ⟨c19⟩)) 5 (vint 6)) h20)
(aLoad true 12 v3 h9 fun v21 =>
Good prog J 24 [v10,v21] h9 fun v22 h23 =>
aBin prog .neq 33 v22 (vint 0) fun v24 =>
cnd v24
(aFill [(vint 0),(Value.slice none 0 0),(Value.slice none 0 0),(Value.slice none 0 0),(Value.slice none 0 0)] [] fun c25 =>
aStore 5 v5 (Value.agg ⟨c25⟩) h23 fun h26 =>
RetQ prog [.cell 4 42,.tmp 5] h.length K .ret (RG.p (RG.p (RG.p (RG.p (RG.p (RG.p (RG.p (RG.p (RG.p (RG.p (RG.p (RG.p (RG.p (RG.p (RG.p (RG.p (RG.p (RG.p (RG.p (RG.p (RG.p (RG.p (RG.p (RG.p (RG.p (RG.p (RG.mk (regs [a0,a1]) []) 2 v1) 3 v3) 4 v5) 5 (vint 0)) 11 v7) 12 v8) 10 v8) 13 v10) 14 v11) 6 v10) 7 v11) 15 v11) 16 v12) 19 v15) 20 v16) 21 v17) 22 v18) 24 v10) 25 v21) 26 v22) 8 v22) 27 v22) 28 v24) 29 (Value.agg ⟨c25⟩)) 30 v22) 5 v22) h26)
(aLoad true 5 v1 h23 fun v27 =>
Good prog J 25 [v27] h23 fun v28 h29 =>
aAlloc [(vint 0),(Value.slice none 0 0),(Value.slice none 0 0),(Value.slice none 0 0),(Value.slice none 0 0)] h29 fun v30 h31 =>
aStore 5 v30 v28 h31 fun h32 =>
aOff v30 4 fun v33 =>
aLoad false 1 v33 h32 fun v34 =>
aLoad true 12 v3 h32 fun v35 =>
(((1 * 12 : Nat) ≤ 16777216 ∧ (1 : Nat) ≤ 16777216 ∧ List.length [(vint 0),(vint 0),(vint 0),(vint 0),(vint 0),(vint 0),(vint 0),(vint 0),(Value.bool false),(Value.bool false),(vint 0),(vint 0)] = 12) ∧ aFill (zrep [(vint 0),(vint 0),(vint 0),(vint 0),(vint 0),(vint 0),(vint 0),(vint 0),(Value.bool false),(Value.bool false),(vint 0),(vint 0)] 1) [(0,12,v35)] fun c36 =>
aNewS 1 c36 h32 fun v37 h38 =>
((List.length [(vint 0),(vint 0),(vint 0),(vint 0),(vint 0),(vint 0),(vint 0),(vint 0),(Value.bool false),(Value.bool false),(vint 0),(vint 0)] = 12 ∧ 0 < (12 : Nat) ∧ 0 < (88 : Nat) ∧ (88 : Nat) ≤ 1024) ∧ aApp 12 v34 v37 h38 fun v39 h40 =>
aOff v30 4 fun v41 =>
aStore 1 v41 v39 h40 fun h42 =>
Good prog J 26 [v10] h42 fun v43 h44 =>
cnd v43
(aLoad true 5 v30 h44 fun v45 =>
Good prog J 27 [v45] h44 fun v46 h47 =>
Good prog J 26 [v46] h47 fun v48 h49 =>
aUn .not v48 fun v50 =>
Hold (W prog J 49 h.length 9 (subC [1,1,1,1,1,1,1,0,1] (codeOf f9)) (RG.p (RG.p (RG.p (RG.p (RG.p (RG.p (RG.p (RG.p (RG.p (RG.p (RG.p (RG.p (RG.p (RG.p (RG.p (RG.p (RG.p (RG.p (RG.p (RG.p (RG.p (RG.p (RG.p (RG.p (RG.p (RG.p (RG.p (RG.p (RG.p (RG.p (RG.p (RG.p (RG.p (RG.p (RG.p (RG.p (RG.p (RG.p (RG.p (RG.p (RG.p (RG.mk (regs [a0,a1]) []) 2 v1) 3 v3) 4 v5) 5 (vint 0)) 11 v7) 12 v8) 10 v8) 13 v10) 14 v11) 6 v10) 7 v11) 15 v11) 16 v12) 19 v15) 20 v16) 21 v17) 22 v18) 24 v10) 25 v21) 26 v22) 8 v22) 27 v22) 28 v24) 31 v27) 32 v28) 9 v30) 33 v33) 34 v34) 35 v35) 36 v37) 37 v39) 38 v41) 39 v10) 40 v43) 41 v43) 41 (Value.bool true)) 42 v45) 43 v46) 44 v48) 45 v50) 46 v50) h49 (contX pl9 prog J 49 h.length 9 ct9 [1,1,1,1,1,1,1,0,1] (codeOf f9) [] (RetQ prog [.cell 4 42,.tmp 5] h.length K))))
(Hold (W prog J 49 h.length 9 (subC [1,1,1,1,1,1,1,0,1] (codeOf f9)) (RG.p (RG.p (RG.p (RG.p (RG.p (RG.p (RG.p (RG.p (RG.p (RG.p (RG.p (RG.p (RG.p (RG.p (RG.p (RG.p (RG.p (RG.p (RG.p (RG.p (RG.p (RG.p (RG.p (RG.p (RG.p (RG.p (RG.p (RG.p (RG.p (RG.p (RG.p (RG.p (RG.p (RG.p (RG.p (RG.p (RG.p (RG.p (RG.p (RG.p (RG.p (RG.mk (regs [a0,a1]) []) 2 v1) 3 v3) 4 v5) 5 (vint 0)) 11 v7) 12 v8) 10 v8) 13 v10) 14 v11) 6 v10) 7 v11) 15 v11) 16 v12) 19 v15) 20 v16) 21 v17) 22 v18) 24 v10) 25 v21) 26 v22) 8 v22) 27 v22) 28 v24) 31 v27) 32 v28) 9 v30) 33 v33) 34 v34) 35 v35) 36 v37) 37 v39) 38 v41) 39 v10) 40 v43) 41 v43) 41 (Value.bool false)) 42 undef) 43 undef) 44 undef) 45 undef) 46 (Value.bool false)) h44 (contX pl9 prog J 49 h.length 9 ct9 [1,1,1,1,1,1,1,0,1] (codeOf f9) [] (RetQ prog [.cell 4 42,.tmp 5] h.length K)))))))))) := top_eq pok9 ct9 (by kernel_rfl)
theorem g9 (hJ : Closed prog main J) {a0 a1 : Value} (hs : heapOk h → W prog J 49 h.length 9 (codeOf f9) (RG.mk (regs [a0,a1]) []) h (RetQ prog [.cell 4 42,.tmp 5] h.length K)) : Good prog J 9 [a0,a1] h K :=
 good_of_W hJ mixed at9 body9 (by kernel_rfl) (Nat.le_of_ble_eq_true rfl) hs
theorem s9_1 {f : RG} : W prog J 49 n0 9 (subC [1,1,1,1,1,1,1,0,1] (codeOf f9)) f h (contX pl9 prog J 49 n0 9 ct9 [1,1,1,1,1,1,1,0,1] (codeOf f9) [] (RetQ prog [.cell 4 42,.tmp 5] n0 K)) =
(cnd (f.r 46)
(aFill [(vint 0),(Value.slice none 0 0),(Value.slice none 0 0),(Value.slice none 0 0),(Value.slice none 0 0)] [] fun c1 =>
aStore 5 (f.r 4) (Value.agg ⟨c1⟩) h fun h2 =>
RetQ prog [.cell 4 42,.tmp 5] n0 K .ret (RG.p (RG.p f 47 (Value.agg ⟨c1⟩)) 5 (vint 12)) h2)
(aLoad true 5 (f.r 9) h fun v3 =>
aStore 5 (f.r 4) v3 h fun h4 =>
RetQ prog [.cell 4 42,.tmp 5] n0 K .ret (RG.p (RG.p f 48 v3) 5 (vint 0)) h4)) := sub_eq pok9 ct9 (by kernel_rfl)
theorem at10 : prog.funcs[10]? = some f10 := by kernel_rfl
theorem body10 : f10.body = some (codeOf f10) := by kernel_rfl
def pl10 : Plans := []
def ct10 : Cuts := .go
theorem pok10 : plansOk prog pl10 (codeOf f10) = true := by kernel_rfl
theorem e10 {a0 a1 : Value} : W prog J 58 h.length 10 (codeOf f10) (RG.mk (regs [a0,a1]) []) h (RetQ prog [.tmp 4,.tmp 5] h.length K) =
(aBox a0 h fun v1 h2 =>
aLoad true 5 v1 h2 fun v3 =>
Good prog J 23 [v3] h2 fun v4 h5 =>
aExt v4 0 fun v6 =>
aExt v4 1 fun v7 =>
aBin prog .neq 33 v7 (vint 0) fun v8 =>
cnd v8
(retL h.length K [] [(Value.slice none 0 0),v7] h5)
(aOff v1 4 fun v9 =>
aLoad false 1 v9 h5 fun v10 =>
aLenS v10 fun v11 =>
aBin prog .sub 3 v11 (vint 1) fun v12 =>
Good prog J 28 [a1,(vint 0),v12] h5 fun v13 h14 =>
aUn .not v13 fun v15 =>
cnd v15
(retL h.length K [] [(Value.slice none 0 0),(vint 3)] h14)
(aOff v1 4 fun v16 =>
aLoad false 1 v16 h14 fun v17 =>
aIdx 12 v17 a1 fun v18 =>
aOff v18 0 fun v19 =>
aLoad false 1 v19 h14 fun v20 =>
aBin prog .neq 3 v20 (vint 5) fun v21 =>
cnd v21
(retL h.length K [] [(Value.slice none 0 0),(vint 8)] h14)
(aOff v1 0 fun v22 =>
aOff v22 1 fun v23 =>
aLoad false 1 v23 h14 fun v24 =>
aLenS v24 fun v25 =>
Sem J 58 h.length 10 (subC [1,1,1,1,1,1,0,1,0] (codeOf f10)) (RG.p (RG.p (RG.p (RG.p (RG.p (RG.p (RG.p (RG.p (RG.p (RG.p (RG.p (RG.p (RG.p (RG.p (RG.p (RG.p (RG.p (RG.p (RG.p (RG.p (RG.p (RG.p (RG.p (RG.p (RG.p (RG.p (RG.p (RG.p (RG.p (RG.p (RG.p (RG.p (RG.mk (regs [a0,a1]) []) 2 v1) 4 (Value.slice none 0 0)) 5 (vint 0)) 11 v3) 12 v4) 10 v4) 13 v6) 14 v7) 6 v6) 7 v7) 15 v7) 16 v8) 18 a1) 19 v9) 20 v10) 21 v11) 22 v12) 23 v13) 24 v15) 25 v16) 26 v17) 27 a1) 28 v18) 29 v19) 30 v20) 31 v21) 8 (Value.slice none 0 0)) 32 v22) 33 v23) 34 v24) 35 v25) 36 (vint 0)) h14 (contX pl10 prog J 58 h.length 10 ct10 [1,1,1,1,1,1,0,1,0] (codeOf f10) [] (RetQ prog [.tmp 4,.tmp 5] h.length K)))))) := top_eq pok10 ct10 (by kernel_rfl)
theorem g10 (hJ : Closed prog main J) {a0 a1 : Value} (hs : heapOk h → W prog J 58 h.length 10 (codeOf f10) (RG.mk (regs [a0,a1]) []) h (RetQ prog [.tmp 4,.tmp 5] h.length K)) : Good prog J 10 [a0,a1] h K :=
 good_of_W hJ mixed at10 body10 (by kernel_rfl) (Nat.le_of_ble_eq_true rfl) hs
theorem s10_1 {f : RG} {nx0 : RG → List AObj → Prop} : W prog J 58 n0 10 (subC [1,1,1,1,1,1,0,1,0,0] (codeOf f10)) f h (thenK nx0 (contX pl10 prog J 58 n0 10 ct10 [1,1,1,1,1,1,0,1,0] (codeOf f10) [] (RetQ prog [.tmp 4,.tmp 5] n0 K))) =
(aBin prog .lss 3 (f.r 36) (f.r 35) fun v1 =>
cnd v1
(aNil (f.r 6) fun v2 =>
aOff v2 5 fun v3 =>
aStore 1 v3 (f.r 1) h fun h4 =>
aNil (f.r 6) fun v5 =>
aOff v5 6 fun v6 =>
aStore 1 v6 (f.r 36) h4 fun h7 =>
Good prog J 26 [(f.r 6)] h7 fun v8 h9 =>
cnd v8
((((1 * 1 : Nat) ≤ 16777216 ∧ (1 : Nat) ≤ 16777216 ∧ List.length [(vint 0)] = 1) ∧ aFill (zrep [(vint 0)] 1) [(0,1,(f.r 36))] fun c10 =>
aNewS 1 c10 h9 fun v11 h12 =>
((List.length [(vint 0)] = 1 ∧ 0 < (1 : Nat) ∧ 0 < (8 : Nat) ∧ (8 : Nat) ≤ 1024) ∧ aApp 1 (f.r 8) v11 h12 fun v13 h14 =>
aBin prog .add 3 (f.r 36) (vint 1) fun v15 =>
nx0 (RG.p (RG.p (RG.p (RG.p (RG.p (RG.p (RG.p (RG.p (RG.p (RG.p (RG.p (RG.p (RG.p (RG.p (RG.p (RG.p (RG.p (RG.p (RG.p (RG.p f 37 v1) 38 (f.r 36)) 9 (f.r 36)) 39 (f.r 6)) 40 (f.r 6)) 41 (f.r 1)) 42 (f.r 36)) 43 v2) 44 v3) 45 v5) 46 v6) 47 (f.r 6)) 48 v8) 49 (f.r 8)) 50 (f.r 36)) 51 v11) 52 v13) 8 v13) 53 v15) 36 v15) h14)))
(aBin prog .add 3 (f.r 36) (vint 1) fun v16 =>
nx0 (RG.p (RG.p (RG.p (RG.p (RG.p (RG.p (RG.p (RG.p (RG.p (RG.p (RG.p (RG.p (RG.p (RG.p (RG.p f 37 v1) 38 (f.r 36)) 9 (f.r 36)) 39 (f.r 6)) 40 (f.r 6)) 41 (f.r 1)) 42 (f.r 36)) 43 v2) 44 v3) 45 v5) 46 v6) 47 (f.r 6)) 48 v8) 53 v16) 36 v16) h9))
(aLenS (f.r 8) fun v17 =>
aBin prog .eql 3 v17 (vint 0) fun v18 =>
cnd v18
(retL n0 K f.ds [(Value.slice none 0 0),(vint 11)] h)
(retL n0 K f.ds [(f.r 8),(vint 0)] h))) := sub_eq pok10 ct10 (by kernel_rfl)
theorem l10_1 (hJ : Closed prog main J) {S : Type} (μ : S → Nat) (I : S → RG → List AObj → Prop) (hI : ∀ s f h,I s f h → heapOk h → n0 ≤ h.length → W prog J 58 n0 10 (subC [1,1,1,1,1,1,0,1,0,0] (codeOf f10)) f h (thenK (Nx n0 μ I s) (contX pl10 prog J 58 n0 10 ct10 [1,1,1,1,1,1,0,1,0] (codeOf f10) [] (RetQ prog [.tmp 4,.tmp 5] n0 K))))
 {s : S} {f : RG} (hi : Gets n0 I s f h) : Sem J 58 n0 10 (subC [1,1,1,1,1,1,0,1,0] (codeOf f10)) f h (contX pl10 prog J 58 n0 10 ct10 [1,1,1,1,1,1,0,1,0] (codeOf f10) [] (RetQ prog [.tmp 4,.tmp 5] n0 K)) :=
 loop_rule hJ mixed (b := subC [1,1,1,1,1,1,0,1,0,0] (codeOf f10)) (by kernel_rfl) μ I hI hi
theorem at11 : prog.funcs[11]? = some f11 := by kernel_rfl
theorem body11 : f11.body = some (codeOf f11) := by kernel_rfl
def pl11 : Plans := []
def ct11 : Cuts := .go
theorem pok11 : plansOk prog pl11 (codeOf f11) = true := by kernel_rfl
theorem e11 {a0 : Value} : W prog J 22 h.length 11 (codeOf f11) (RG.mk (regs [a0]) []) h (RetQ prog [.tmp 2,.tmp 3] h.length K) =
(aBox a0 h fun v1 h2 =>
aLoad true 5 v1 h2 fun v3 =>
Good prog J 23 [v3] h2 fun v4 h5 =>
aExt v4 0 fun v6 =>
aExt v4 1 fun v7 =>
aBin prog .neq 33 v7 (vint 0) fun v8 =>
cnd v8
(retL h.length K [] [(Value.slice none 0 0),v7] h5)
(aOff v1 0 fun v9 =>
aOff v9 1 fun v10 =>
aLoad false 1 v10 h5 fun v11 =>
aLenS v11 fun v12 =>
Good prog J 29 [v6,v12,(Value.func (.func 30) #[] #[])] h5 fun v13 h14 =>
aExt v13 0 fun v15 =>
aExt v13 1 fun v16 =>
retL h.length K [] [v15,v16] h14)) := top_eq pok11 ct11 (by kernel_rfl)
theorem g11 (hJ : Closed prog main J) {a0 : Value} (hs : heapOk h → W prog J 22 h.length 11 (codeOf f11) (RG.mk (regs [a0]) []) h (RetQ prog [.tmp 2,.tmp 3] h.length K)) : Good prog J 11 [a0] h K :=
 good_of_W hJ mixed at11 body11 (by kernel_rfl) (Nat.le_of_ble_eq_true rfl) hs
theorem at43 : prog.funcs[43]? = some f43 := by kernel_rfl
theorem body43 : f43.body = some (codeOf f43) := by kernel_rfl
def pl43 : Plans := []
def ct43 : Cuts := .go
theorem pok43 : plansOk prog pl43 (codeOf f43) = true := by kernel_rfl
theorem e43 {a0 : Value} : W prog J 8 h.length 43 (codeOf f43) (RG.mk (regs [a0]) []) h (RetQ prog [.tmp 2] h.length K) =
(aBin prog .eql 25 a0 (Value.slice none 0 0) fun v1 =>
cnd v1
(retL h.length K [] [(Value.slice none 0 0)] h)
((((0 * 3 : Nat) ≤ 16777216 ∧ (0 : Nat) ≤ 16777216 ∧ List.length [(vint 0),(vint 0),(vint 0)] = 3) ∧ aFill (zrep [(vint 0),(vint 0),(vint 0)] 0) [] fun c2 =>
aNewS 0 c2 h fun v3 h4 =>
((List.length [(vint 0),(vint 0),(vint 0)] = 3 ∧ 0 < (3 : Nat) ∧ 0 < (24 : Nat) ∧ (24 : Nat) ≤ 1024) ∧ aApp 3 v3 a0 h4 fun v5 h6 =>
retL h.length K [] [v5] h6)))) := top_eq pok43 ct43 (by kernel_rfl)
theorem g43 (hJ : Closed prog main J) {a0 : Value} (hs : heapOk h → W prog J 8 h.length 43 (codeOf f43) (RG.mk (regs [a0]) []) h (RetQ prog [.tmp 2] h.length K)) : Good prog J 43 [a0] h K :=
 good_of_W hJ mixed at43 body43 (by kernel_rfl) (Nat.le_of_ble_eq_true rfl) hs
theorem at44 : prog.funcs[44]? = some f44 := by kernel_rfl
theorem body44 : f44.body = some (codeOf f44) := by kernel_rfl
def pl44 : Plans := []
def ct44 : Cuts := .go
theorem pok44 : plansOk prog pl44 (codeOf f44) = true := by kernel_rfl
theorem e44 {a0 : Value} : W prog J 8 h.length 44 (codeOf f44) (RG.mk (regs [a0]) []) h (RetQ prog [.tmp 2] h.length K) =
(aBin prog .eql 22 a0 (Value.slice none 0 0) fun v1 =>
cnd v1
(retL h.length K [] [(Value.slice none 0 0)] h)
((((0 * 1 : Nat) ≤ 16777216 ∧ (0 : Nat) ≤ 16777216 ∧ List.length [(vint 0)] = 1) ∧ aFill (zrep [(vint 0)] 0) [] fun c2 =>
aNewS 0 c2 h fun v3 h4 =>
((List.length [(vint 0)] = 1 ∧ 0 < (1 : Nat) ∧ 0 < (8 : Nat) ∧ (8 : Nat) ≤ 1024) ∧ aApp 1 v3 a0 h4 fun v5 h6 =>
retL h.length K [] [v5] h6)))) := top_eq pok44 ct44 (by kernel_rfl)
theorem g44 (hJ : Closed prog main J) {a0 : Value} (hs : heapOk h → W prog J 8 h.length 44 (codeOf f44) (RG.mk (regs [a0]) []) h (RetQ prog [.tmp 2] h.length K)) : Good prog J 44 [a0] h K :=
 good_of_W hJ mixed at44 body44 (by kernel_rfl) (Nat.le_of_ble_eq_true rfl) hs
theorem at45 : prog.funcs[45]? = some f45 := by kernel_rfl
theorem body45 : f45.body = some (codeOf f45) := by kernel_rfl
def pl45 : Plans := []
def ct45 : Cuts := .go
theorem pok45 : plansOk prog pl45 (codeOf f45) = true := by kernel_rfl
theorem e45 {a0 : Value} : W prog J 8 h.length 45 (codeOf f45) (RG.mk (regs [a0]) []) h (RetQ prog [.tmp 2] h.length K) =
(aBin prog .eql 40 a0 (Value.slice none 0 0) fun v1 =>
cnd v1
(retL h.length K [] [(Value.slice none 0 0)] h)
((((0 * 12 : Nat) ≤ 16777216 ∧ (0 : Nat) ≤ 16777216 ∧ List.length [(vint 0),(vint 0),(vint 0),(vint 0),(vint 0),(vint 0),(vint 0),(vint 0),(Value.bool false),(Value.bool false),(vint 0),(vint 0)] = 12) ∧ aFill (zrep [(vint 0),(vint 0),(vint 0),(vint 0),(vint 0),(vint 0),(vint 0),(vint 0),(Value.bool false),(Value.bool false),(vint 0),(vint 0)] 0) [] fun c2 =>
aNewS 0 c2 h fun v3 h4 =>
((List.length [(vint 0),(vint 0),(vint 0),(vint 0),(vint 0),(vint 0),(vint 0),(vint 0),(Value.bool false),(Value.bool false),(vint 0),(vint 0)] = 12 ∧ 0 < (12 : Nat) ∧ 0 < (88 : Nat) ∧ (88 : Nat) ≤ 1024) ∧ aApp 12 v3 a0 h4 fun v5 h6 =>
retL h.length K [] [v5] h6)))) := top_eq pok45 ct45 (by kernel_rfl)
theorem g45 (hJ : Closed prog main J) {a0 : Value} (hs : heapOk h → W prog J 8 h.length 45 (codeOf f45) (RG.mk (regs [a0]) []) h (RetQ prog [.tmp 2] h.length K)) : Good prog J 45 [a0] h K :=
 good_of_W hJ mixed at45 body45 (by kernel_rfl) (Nat.le_of_ble_eq_true rfl) hs
end
section
variable {main : Bool} {J : JT} {n0 : Nat} {h : List AObj} {K : Value → List AObj → Prop}
theorem at28 : prog.funcs[28]? = some f28 := by kernel_rfl
theorem body28 : f28.body = some (codeOf f28) := by kernel_rfl
def pl28 : Plans := []
def ct28 : Cuts := .go
theorem pok28 : plansOk prog pl28 (codeOf f28) = true := by kernel_rfl
theorem e28 {a0 a1 a2 : Value} : W prog J 15 h.length 28 (codeOf f28) (RG.mk (regs [a0,a1,a2]) []) h (RetQ prog [.tmp 6] h.length K) =
(aBin prog .leq 3 a1 a0 fun v1 =>
cnd v1
(aBin prog .leq 3 a0 a2 fun v2 =>
retL h.length K [] [v2] h)
(retL h.length K [] [(Value.bool false)] h)) := top_eq pok28 ct28 (by kernel_rfl)
theorem g28 (hJ : Closed prog main J) {a0 a1 a2 : Value} (hs : heapOk h → W prog J 15 h.length 28 (codeOf f28) (RG.mk (regs [a0,a1,a2]) []) h (RetQ prog [.tmp 6] h.length K)) : Good prog J 28 [a0,a1,a2] h K :=
 good_of_W hJ mixed at28 body28 (by kernel_rfl) (Nat.le_of_ble_eq_true rfl) hs
theorem at27 : prog.funcs[27]? = some f27 := by kernel_rfl
theorem body27 : f27.body = some (codeOf f27) := by kernel_rfl
def pl27 : Plans := []
def ct27 : Cuts := .go
theorem pok27 : plansOk prog pl27 (codeOf f27) = true := by kernel_rfl
theorem e27 {a0 : Value} : W prog J 6 h.length 27 (codeOf f27) (RG.mk (regs [a0]) []) h (RetQ prog [.tmp 2] h.length K) =
(aBox a0 h fun v1 h2 =>
aLoad true 5 v1 h2 fun v3 =>
aFill [(vint 0),(Value.slice none 0 0),(Value.slice none 0 0),(Value.slice none 0 0),(Value.slice none 0 0),(vint 0),(vint 0),(vint 0)] [(0,5,v3),(5,1,(vint (-1)))] fun c4 =>
aBox (Value.agg ⟨c4⟩) h2 fun v5 h6 =>
retL h.length K [] [v5] h6) := top_eq pok27 ct27 (by kernel_rfl)
theorem g27 (hJ : Closed prog main J) {a0 : Value} (hs : heapOk h → W prog J 6 h.length 27 (codeOf f27) (RG.mk (regs [a0]) []) h (RetQ prog [.tmp 2] h.length K)) : Good prog J 27 [a0] h K :=
 good_of_W hJ mixed at27 body27 (by kernel_rfl) (Nat.le_of_ble_eq_true rfl) hs
theorem at52 : prog.funcs[52]? = some f52 := by kernel_rfl
theorem body52 : f52.body = some (codeOf f52) := by kernel_rfl
def pl52 : Plans := []
def ct52 : Cuts := .go
theorem pok52 : plansOk prog pl52 (codeOf f52) = true := by kernel_rfl
theorem e52 {a0 a1 : Value} : W prog J 25 h.length 52 (codeOf f52) (RG.mk (regs [a0,a1]) []) h (RetQ prog [.tmp 4] h.length K) =
(aLenS a1 fun v1 =>
Sem J 25 h.length 52 (subC [1,0,1,0] (codeOf f52)) (RG.p (RG.p (RG.p (RG.p (RG.mk (regs [a0,a1]) []) 4 (Value.bool false)) 7 a1) 8 v1) 9 (vint 0)) h (contX pl52 prog J 25 h.length 52 ct52 [1,0,1,0] (codeOf f52) [] (RetQ prog [.tmp 4] h.length K))) := top_eq pok52 ct52 (by kernel_rfl)
theorem g52 (hJ : Closed prog main J) {a0 a1 : Value} (hs : heapOk h → W prog J 25 h.length 52 (codeOf f52) (RG.mk (regs [a0,a1]) []) h (RetQ prog [.tmp 4] h.length K)) : Good prog J 52 [a0,a1] h K :=
 good_of_W hJ mixed at52 body52 (by kernel_rfl) (Nat.le_of_ble_eq_true rfl) hs
theorem s52_1 {f : RG} {nx0 : RG → List AObj → Prop} : W prog J 25 n0 52 (subC [1,0,1,0,0] (codeOf f52)) f h (thenK nx0 (contX pl52 prog J 25 n0 52 ct52 [1,0,1,0] (codeOf f52) [] (RetQ prog [.tmp 4] n0 K))) =
(aBin prog .lss 3 (f.r 9) (f.r 8) fun v1 =>
cnd v1
(aIdx 1 (f.r 7) (f.r 9) fun v2 =>
aLoad false 1 v2 h fun v3 =>
aNil (f.r 0) fun v4 =>
aOff v4 0 fun v5 =>
aOff v5 0 fun v6 =>
aOff v6 1 fun v7 =>
aLoad false 1 v7 h fun v8 =>
aLenS v8 fun v9 =>
aBin prog .sub 3 v9 (vint 1) fun v10 =>
Good prog J 28 [v3,(vint 0),v10] h fun v11 h12 =>
aUn .not v11 fun v13 =>
cnd v13
(retL n0 K f.ds [(Value.bool false)] h12)
(aBin prog .add 3 (f.r 9) (vint 1) fun v14 =>
nx0 (RG.p (RG.p (RG.p (RG.p (RG.p (RG.p (RG.p (RG.p (RG.p (RG.p (RG.p (RG.p (RG.p (RG.p (RG.p (RG.p (RG.p f 10 v1) 11 v2) 12 v3) 6 v3) 13 v3) 14 (f.r 0)) 15 v4) 16 v5) 17 v6) 18 v7) 19 v8) 20 v9) 21 v10) 22 v11) 23 v13) 24 v14) 9 v14) h12))
(retL n0 K f.ds [(Value.bool true)] h)) := sub_eq pok52 ct52 (by kernel_rfl)
theorem l52_1 (hJ : Closed prog main J) {S : Type} (μ : S → Nat) (I : S → RG → List AObj → Prop) (hI : ∀ s f h,I s f h → heapOk h → n0 ≤ h.length → W prog J 25 n0 52 (subC [1,0,1,0,0] (codeOf f52)) f h (thenK (Nx n0 μ I s) (contX pl52 prog J 25 n0 52 ct52 [1,0,1,0] (codeOf f52) [] (RetQ prog [.tmp 4] n0 K))))
 {s : S} {f : RG} (hi : Gets n0 I s f h) : Sem J 25 n0 52 (subC [1,0,1,0] (codeOf f52)) f h (contX pl52 prog J 25 n0 52 ct52 [1,0,1,0] (codeOf f52) [] (RetQ prog [.tmp 4] n0 K)) :=
 loop_rule hJ mixed (b := subC [1,0,1,0,0] (codeOf f52)) (by kernel_rfl) μ I hI hi
theorem at41 : prog.funcs[41]? = some f41 := by kernel_rfl
theorem body41 : f41.body = some (codeOf f41) := by kernel_rfl
def pl41 : Plans := []
def ct41 : Cuts := .go
theorem pok41 : plansOk prog pl41 (codeOf f41) = true := by kernel_rfl
theorem e41 {a0 a1 : Value} : W prog J 14 h.length 41 (codeOf f41) (RG.mk (regs [a0,a1]) []) h (RetQ prog [.tmp 4] h.length K) =
(aNil a0 fun v1 =>
aOff v1 0 fun v2 =>
aOff v2 2 fun v3 =>
aLoad false 1 v3 h fun v4 =>
aLenS v4 fun v5 =>
aBin prog .sub 3 v5 (vint 1) fun v6 =>
Good prog J 28 [a1,(vint 0),v6] h fun v7 h8 =>
retL h.length K [] [v7] h8) := top_eq pok41 ct41 (by kernel_rfl)
theorem g41 (hJ : Closed prog main J) {a0 a1 : Value} (hs : heapOk h → W prog J 14 h.length 41 (codeOf f41) (RG.mk (regs [a0,a1]) []) h (RetQ prog [.tmp 4] h.length K)) : Good prog J 41 [a0,a1] h K :=
 good_of_W hJ mixed at41 body41 (by kernel_rfl) (Nat.le_of_ble_eq_true rfl) hs
theorem at42 : prog.funcs[42]? = some f42 := by kernel_rfl
theorem body42 : f42.body = some (codeOf f42) := by kernel_rfl
def pl42 : Plans := [(11,true,.take 0 (.take 1 (.last 2 false (.fin)))),
 (13,true,.take 0 (.take 1 (.last 2 false (.fin)))),
 (16,true,.take 0 (.take 1 (.last 2 false (.fin)))),
 (18,false,.take 0 (.take 1 (.take 2 (.take 3 (.take 4 (.last 5 true (.take 6 (.last 7 false (.take 8 (.last 9 false (.fin))))))))))),
 (20,true,.take 0 (.take 1 (.last 2 false (.fin)))),
 (22,true,.take 0 (.take 1 (.last 2 false (.fin)))),
 (23,true,.take 0 (.take 1 (.take 2 (.take 3 (.take 4 (.take 5 (.take 6 (.last 7 false (.take 8 (.take 9 (.take 10 (.take 11 (.fin))))))))))))),
 (24,true,.take 0 (.take 1 (.take 2 (.last 3 false (.fin))))),
 (32,true,.take 0 (.take 1 (.take 2 (.last 3 false (.fin)))))]
def ct42 : Cuts := .bin (.go) (.bin (.go) (.bin (.go) (.bin (.bin (.go) (.un (.bin (.un (.bin (.un (.bin (.un (.bin (.un (.bin (.un (.bin (.bin (.go) (.bin (.bin (.go) (.cut (.go))) (.go))) (.go))) (.go))) (.cut (.go)))) (.go))) (.go))) (.go)))) (.cut (.bin (.go) (.bin (.go) (.cut (.go))))))))
theorem pok42 : plansOk prog pl42 (codeOf f42) = true := by kernel_rfl
theorem e42 {a0 a1 : Value} : W prog J 104 h.length 42 (codeOf f42) (RG.mk (regs [a0,a1]) []) h (RetQ prog [.tmp 4,.cell 5 46] h.length K) =
(aBox a1 h fun v1 h2 =>
aAlloc [(vint 0),(vint 0),(vint 0),(vint 0),(vint 0),(vint 0),(vint 0),(vint 0),(Value.bool false),(Value.bool false),(vint 0),(vint 0)] h2 fun v3 h4 =>
aOff v1 0 fun v5 =>
aLoad false 1 v5 h4 fun v6 =>
aOff v1 1 fun v7 =>
aLoad false 1 v7 h4 fun v8 =>
aFill [(vint 0),(vint 0),(vint 0),(vint 0),(vint 0),(vint 0),(vint 0),(vint 0),(Value.bool false),(Value.bool false),(vint 0),(vint 0)] [(0,1,v6),(1,1,v8)] fun c9 =>
aAlloc [(vint 0),(vint 0),(vint 0),(vint 0),(vint 0),(vint 0),(vint 0),(vint 0),(Value.bool false),(Value.bool false),(vint 0),(vint 0)] h4 fun v10 h11 =>
aStore 12 v10 (Value.agg ⟨c9⟩) h11 fun h12 =>
aOff v1 0 fun v13 =>
aLoad false 1 v13 h12 fun v14 =>
aBin prog .eql 3 v14 (vint 2) fun v15 =>
cnd v15
(aOff v1 3 fun v16 =>
aLoad false 1 v16 h12 fun v17 =>
aOff v10 3 fun v18 =>
aStore 1 v18 v17 h12 fun h19 =>
aOff v1 2 fun v20 =>
aLoad false 1 v20 h19 fun v21 =>
aOff v1 3 fun v22 =>
aLoad false 1 v22 h19 fun v23 =>
(((2 * 1 : Nat) ≤ 16777216 ∧ (2 : Nat) ≤ 16777216 ∧ List.length [(vint 0)] = 1) ∧ aFill (zrep [(vint 0)] 2) [(0,1,v21),(1,1,v23)] fun c24 =>
aNewS 2 c24 h19 fun v25 h26 =>
Good prog J 52 [a0,v25] h26 fun v27 h28 =>
aUn .not v27 fun v29 =>
cnd v29
(aLoad true 12 v10 h28 fun v30 =>
aStore 12 v3 v30 h28 fun h31 =>
RetQ prog [.tmp 4,.cell 5 46] h.length K .ret (RG.p (RG.p (RG.p (RG.p (RG.p (RG.p (RG.p (RG.p (RG.p (RG.p (RG.p (RG.p (RG.p (RG.p (RG.p (RG.p (RG.p (RG.p (RG.p (RG.p (RG.p (RG.p (RG.p (RG.p (RG.p (RG.p (RG.p (RG.p (RG.p (RG.mk (regs [a0,a1]) []) 3 v1) 4 (vint 0)) 5 v3) 10 v5) 11 v6) 12 v7) 13 v8) 14 (Value.agg ⟨c9⟩)) 6 v10) 7 (vint 0)) 8 (vint 1)) 9 (vint 20)) 15 v13) 16 v14) 18 v15) 17 v15) 26 v16) 27 v17) 28 v18) 29 a0) 30 v20) 31 v21) 32 v22) 33 v23) 34 v25) 35 v27) 36 v29) 37 v30) 4 (vint 3)) h31)
(aOff v1 2 fun v32 =>
aLoad false 1 v32 h28 fun v33 =>
aOff v1 3 fun v34 =>
aLoad false 1 v34 h28 fun v35 =>
aBin prog .eql 3 v33 v35 fun v36 =>
cnd v36
(aLoad true 12 v10 h28 fun v37 =>
aStore 12 v3 v37 h28 fun h38 =>
RetQ prog [.tmp 4,.cell 5 46] h.length K .ret (RG.p (RG.p (RG.p (RG.p (RG.p (RG.p (RG.p (RG.p (RG.p (RG.p (RG.p (RG.p (RG.p (RG.p (RG.p (RG.p (RG.p (RG.p (RG.p (RG.p (RG.p (RG.p (RG.p (RG.p (RG.p (RG.p (RG.p (RG.p (RG.p (RG.p (RG.p (RG.p (RG.p (RG.p (RG.mk (regs [a0,a1]) []) 3 v1) 4 (vint 0)) 5 v3) 10 v5) 11 v6) 12 v7) 13 v8) 14 (Value.agg ⟨c9⟩)) 6 v10) 7 (vint 0)) 8 (vint 1)) 9 (vint 20)) 15 v13) 16 v14) 18 v15) 17 v15) 26 v16) 27 v17) 28 v18) 29 a0) 30 v20) 31 v21) 32 v22) 33 v23) 34 v25) 35 v27) 36 v29) 38 v32) 39 v33) 40 v34) 41 v35) 42 v36) 43 v37) 4 (vint 4)) h38)
(Hold (W prog J 104 h.length 42 (subC [1,1,1,0,1,0,0,0,0,0,0,0,1] (codeOf f42)) (RG.p (RG.p (RG.p (RG.p (RG.p (RG.p (RG.p (RG.p (RG.p (RG.p (RG.p (RG.p (RG.p (RG.p (RG.p (RG.p (RG.p (RG.p (RG.p (RG.p (RG.p (RG.p (RG.p (RG.p (RG.p (RG.p (RG.p (RG.p (RG.p (RG.p (RG.p (RG.p (RG.mk (regs [a0,a1]) []) 3 v1) 4 (vint 0)) 5 v3) 10 v5) 11 v6) 12 v7) 13 v8) 14 (Value.agg ⟨c9⟩)) 6 v10) 7 (vint 0)) 8 (vint 1)) 9 (vint 20)) 15 v13) 16 v14) 18 v15) 17 v15) 26 v16) 27 v17) 28 v18) 29 a0) 30 v20) 31 v21) 32 v22) 33 v23) 34 v25) 35 v27) 36 v29) 38 v32) 39 v33) 40 v34) 41 v35) 42 v36) h28 (contX pl42 prog J 104 h.length 42 ct42 [1,1,1,0,1,0,0,0,0,0,0,0,1] (codeOf f42) [] (RetQ prog [.tmp 4,.cell 5 46] h.length K)))))))
(aBin prog .eql 3 v14 (vint 1) fun v39 =>
cnd v39
(Hold (W prog J 104 h.length 42 (subC [1,1,1,0,1,0,0,0,0,0,0,0,0,0,0,0,0,1,0,1] (codeOf f42)) (RG.p (RG.p (RG.p (RG.p (RG.p (RG.p (RG.p (RG.p (RG.p (RG.p (RG.p (RG.p (RG.p (RG.p (RG.p (RG.p (RG.p (RG.p (RG.mk (regs [a0,a1]) []) 3 v1) 4 (vint 0)) 5 v3) 10 v5) 11 v6) 12 v7) 13 v8) 14 (Value.agg ⟨c9⟩)) 6 v10) 7 (vint 0)) 8 (vint 1)) 9 (vint 20)) 15 v13) 16 v14) 18 v15) 17 v15) 20 v39) 19 v39) h12 (contX pl42 prog J 104 h.length 42 ct42 [1,1,1,0,1,0,0,0,0,0,0,0,0,0,0,0,0,1,0,1] (codeOf f42) [] (RetQ prog [.tmp 4,.cell 5 46] h.length K))))
(aBin prog .eql 3 v14 (vint 3) fun v40 =>
Hold (W prog J 104 h.length 42 (subC [1,1,1,0,1,0,0,0,0,0,0,0,0,0,0,0,0,1,0,1] (codeOf f42)) (RG.p (RG.p (RG.p (RG.p (RG.p (RG.p (RG.p (RG.p (RG.p (RG.p (RG.p (RG.p (RG.p (RG.p (RG.p (RG.p (RG.p (RG.p (RG.p (RG.p (RG.mk (regs [a0,a1]) []) 3 v1) 4 (vint 0)) 5 v3) 10 v5) 11 v6) 12 v7) 13 v8) 14 (Value.agg ⟨c9⟩)) 6 v10) 7 (vint 0)) 8 (vint 1)) 9 (vint 20)) 15 v13) 16 v14) 18 v15) 17 v15) 20 v39) 19 v39) 21 v40) 19 v40) h12 (contX pl42 prog J 104 h.length 42 ct42 [1,1,1,0,1,0,0,0,0,0,0,0,0,0,0,0,0,1,0,1] (codeOf f42) [] (RetQ prog [.tmp 4,.cell 5 46] h.length K)))))) := top_eq pok42 ct42 (by kernel_rfl)
theorem g42 (hJ : Closed prog main J) {a0 a1 : Value} (hs : heapOk h → W prog J 104 h.length 42 (codeOf f42) (RG.mk (regs [a0,a1]) []) h (RetQ prog [.tmp 4,.cell 5 46] h.length K)) : Good prog J 42 [a0,a1] h K :=
 good_of_W hJ mixed at42 body42 (by kernel_rfl) (Nat.le_of_ble_eq_true rfl) hs
theorem s42_2 {f : RG} : W prog J 104 n0 42 (subC [1,1,1,0,1,0,0,0,0,0,0,0,0,0,0,0,0,1,0,1] (codeOf f42)) f h (contX pl42 prog J 104 n0 42 ct42 [1,1,1,0,1,0,0,0,0,0,0,0,0,0,0,0,0,1,0,1] (codeOf f42) [] (RetQ prog [.tmp 4,.cell 5 46] n0 K)) =
(cnd (f.r 19)
(Hold (W prog J 104 n0 42 (subC [1,1,1,0,1,0,0,0,0,0,0,0,1] (codeOf f42)) f h (contX pl42 prog J 104 n0 42 ct42 [1,1,1,0,1,0,0,0,0,0,0,0,1] (codeOf f42) [] (RetQ prog [.tmp 4,.cell 5 46] n0 K))))
(aBin prog .eql 3 (f.r 16) (vint 4) fun v1 =>
cnd v1
(Hold (W prog J 104 n0 42 (subC [1,1,1,1] (codeOf f42)) (RG.p (RG.p (RG.p f 23 v1) 22 v1) 9 (vint 3)) h (contX pl42 prog J 104 n0 42 ct42 [1,1,1,1] (codeOf f42) [] (RetQ prog [.tmp 4,.cell 5 46] n0 K))))
(aBin prog .eql 3 (f.r 16) (vint 5) fun v2 =>
cnd v2
((∃ B,aOff (f.r 3) 4 fun v3 =>
aLoad false 1 v3 h fun v4 =>
RdOk (some B) (ptrBlk v3) ∧ (aOff (f.r 3) 7 fun v5 =>
aLoad true 5 v5 h fun v6 =>
RdOk (some B) (ptrBlk v5) ∧ (aOff (f.r 6) 4 fun v7 =>
aStore 1 v7 v4 h fun h8 =>
SameB (some B) h h8 ∧ (aOff (f.r 6) 7 fun v9 =>
aStore 5 v9 v6 h8 fun h10 =>
aOff (f.r 6) 5 fun v11 =>
aStore 1 v11 (vint 0) h10 fun h12 =>
aOff (f.r 3) 4 fun v13 =>
aLoad false 1 v13 h12 fun v14 =>
Good prog J 41 [(f.r 0),v14] h12 fun v15 h16 =>
aUn .not v15 fun v17 =>
cnd v17
(aLoad true 12 (f.r 6) h16 fun v18 =>
aStore 12 (f.r 5) v18 h16 fun h19 =>
RetQ prog [.tmp 4,.cell 5 46] n0 K .ret (RG.p (RG.p (RG.p (RG.p (RG.p (RG.p (RG.p (RG.p (RG.p (RG.p (RG.p (RG.p (RG.p (RG.p (RG.p (RG.p (RG.p (RG.p f 23 v1) 22 v1) 25 v2) 24 v2) 54 v3) 55 v4) 56 v5) 57 v6) 58 v7) 59 v9) 60 v11) 61 (f.r 0)) 62 v13) 63 v14) 64 v15) 65 v17) 66 v18) 4 (vint 3)) h19)
(aOff (f.r 3) 4 fun v20 =>
aLoad false 1 v20 h16 fun v21 =>
aOff (f.r 3) 1 fun v22 =>
aLoad false 1 v22 h16 fun v23 =>
aBin prog .eql 3 v21 v23 fun v24 =>
cnd v24
(aLoad true 12 (f.r 6) h16 fun v25 =>
aStore 12 (f.r 5) v25 h16 fun h26 =>
RetQ prog [.tmp 4,.cell 5 46] n0 K .ret (RG.p (RG.p (RG.p (RG.p (RG.p (RG.p (RG.p (RG.p (RG.p (RG.p (RG.p (RG.p (RG.p (RG.p (RG.p (RG.p (RG.p (RG.p (RG.p (RG.p (RG.p (RG.p (RG.p f 23 v1) 22 v1) 25 v2) 24 v2) 54 v3) 55 v4) 56 v5) 57 v6) 58 v7) 59 v9) 60 v11) 61 (f.r 0)) 62 v13) 63 v14) 64 v15) 65 v17) 67 v20) 68 v21) 69 v22) 70 v23) 71 v24) 72 v25) 4 (vint 4)) h26)
(aNil (f.r 0) fun v27 =>
aOff v27 0 fun v28 =>
aOff v28 0 fun v29 =>
aLoad true 2 v29 h16 fun v30 =>
aOff (f.r 3) 7 fun v31 =>
aLoad true 5 v31 h16 fun v32 =>
Good prog J 6 [v30,v32] h16 fun v33 h34 =>
aExt v33 0 fun v35 =>
aExt v33 1 fun v36 =>
aLoad true 12 (f.r 6) h34 fun v37 =>
aStore 12 (f.r 5) v37 h34 fun h38 =>
RetQ prog [.tmp 4,.cell 5 46] n0 K .ret (RG.p (RG.p (RG.p (RG.p (RG.p (RG.p (RG.p (RG.p (RG.p (RG.p (RG.p (RG.p (RG.p (RG.p (RG.p (RG.p (RG.p (RG.p (RG.p (RG.p (RG.p (RG.p (RG.p (RG.p (RG.p (RG.p (RG.p (RG.p (RG.p (RG.p (RG.p (RG.p (RG.p (RG.p (RG.p (RG.p f 23 v1) 22 v1) 25 v2) 24 v2) 54 v3) 55 v4) 56 v5) 57 v6) 58 v7) 59 v9) 60 v11) 61 (f.r 0)) 62 v13) 63 v14) 64 v15) 65 v17) 67 v20) 68 v21) 69 v22) 70 v23) 71 v24) 74 (f.r 0)) 75 v27) 76 v28) 77 v29) 78 v30) 79 v31) 80 v32) 81 v33) 73 v33) 82 v35) 83 v36) 7 v36) 84 v36) 85 v37) 4 v36) h38)))))))
(aOff (f.r 3) 6 fun v39 =>
aLoad false 1 v39 h fun v40 =>
aOff (f.r 6) 6 fun v41 =>
aStore 1 v41 v40 h fun h42 =>
aOff (f.r 3) 6 fun v43 =>
aLoad false 1 v43 h42 fun v44 =>
Good prog J 28 [v44,(vint 0),(vint 20)] h42 fun v45 h46 =>
aUn .not v45 fun v47 =>
cnd v47
(Hold (W prog J 104 n0 42 (subC [1,1,1,1] (codeOf f42)) (RG.p (RG.p (RG.p (RG.p (RG.p (RG.p (RG.p (RG.p (RG.p (RG.p (RG.p (RG.p (RG.p (RG.p f 23 v1) 22 v1) 25 v2) 24 v2) 86 v39) 87 v40) 88 v41) 8 (vint 0)) 9 (vint 300)) 89 v43) 90 v44) 91 v45) 92 v47) 7 (vint 1)) h46 (contX pl42 prog J 104 n0 42 ct42 [1,1,1,1] (codeOf f42) [] (RetQ prog [.tmp 4,.cell 5 46] n0 K))))
(Hold (W prog J 104 n0 42 (subC [1,1,1,1] (codeOf f42)) (RG.p (RG.p (RG.p (RG.p (RG.p (RG.p (RG.p (RG.p (RG.p (RG.p (RG.p (RG.p (RG.p f 23 v1) 22 v1) 25 v2) 24 v2) 86 v39) 87 v40) 88 v41) 8 (vint 0)) 9 (vint 300)) 89 v43) 90 v44) 91 v45) 92 v47) h46 (contX pl42 prog J 104 n0 42 ct42 [1,1,1,1] (codeOf f42) [] (RetQ prog [.tmp 4,.cell 5 46] n0 K)))))))) := sub_eq pok42 ct42 (by kernel_rfl)
theorem at24 : prog.funcs[24]? = some f24 := by kernel_rfl
theorem body24 : f24.body = some (codeOf f24) := by kernel_rfl
def pl24 : Plans := []
def ct24 : Cuts := .bin (.go) (.bin (.go) (.bin (.go) (.bin (.go) (.bin (.bin (.go) (.cut (.go))) (.go)))))
theorem pok24 : plansOk prog pl24 (codeOf f24) = true := by kernel_rfl
theorem e24 {a0 a1 : Value} : W prog J 30 h.length 24 (codeOf f24) (RG.mk (regs [a0,a1]) []) h (RetQ prog [.tmp 4] h.length K) =
(aBox a1 h fun v1 h2 =>
aOff v1 0 fun v3 =>
aLoad false 1 v3 h2 fun v4 =>
Good prog J 28 [v4,(vint 1),(vint 6)] h2 fun v5 h6 =>
aUn .not v5 fun v7 =>
cnd v7
(retL h.length K [] [(vint 8)] h6)
(aOff v1 1 fun v8 =>
aLoad false 1 v8 h6 fun v9 =>
Good prog J 41 [a0,v9] h6 fun v10 h11 =>
aUn .not v10 fun v12 =>
cnd v12
(retL h.length K [] [(vint 3)] h11)
(aLoad true 12 v1 h11 fun v13 =>
Good prog J 42 [a0,v13] h11 fun v14 h15 =>
aExt v14 0 fun v16 =>
aExt v14 1 fun v17 =>
aAlloc [(vint 0),(vint 0),(vint 0),(vint 0),(vint 0),(vint 0),(vint 0),(vint 0),(Value.bool false),(Value.bool false),(vint 0),(vint 0)] h15 fun v18 h19 =>
aStore 12 v18 v17 h19 fun h20 =>
aBin prog .eql 33 v16 (vint 0) fun v21 =>
cnd v21
(aLoad true 12 v1 h20 fun v22 =>
aLoad true 12 v18 h20 fun v23 =>
aBin prog .neq 46 v22 v23 fun v24 =>
Hold (W prog J 30 h.length 24 (subC [1,1,1,1,0,1] (codeOf f24)) (RG.p (RG.p (RG.p (RG.p (RG.p (RG.p (RG.p (RG.p (RG.p (RG.p (RG.p (RG.p (RG.p (RG.p (RG.p (RG.p (RG.p (RG.p (RG.p (RG.p (RG.p (RG.p (RG.p (RG.p (RG.p (RG.p (RG.p (RG.mk (regs [a0,a1]) []) 3 v1) 4 (vint 0)) 7 v3) 8 v4) 9 v5) 10 v7) 11 a0) 12 v8) 13 v9) 14 v10) 15 v12) 17 a0) 18 v13) 19 v14) 16 v14) 20 v16) 21 v17) 6 v18) 5 v16) 22 v16) 23 v21) 24 v21) 24 (Value.bool true)) 25 v22) 26 v23) 27 v24) 28 v24) h20 (contX pl24 prog J 30 h.length 24 ct24 [1,1,1,1,0,1] (codeOf f24) [] (RetQ prog [.tmp 4] h.length K))))
(Hold (W prog J 30 h.length 24 (subC [1,1,1,1,0,1] (codeOf f24)) (RG.p (RG.p (RG.p (RG.p (RG.p (RG.p (RG.p (RG.p (RG.p (RG.p (RG.p (RG.p (RG.p (RG.p (RG.p (RG.p (RG.p (RG.p (RG.p (RG.p (RG.p (RG.p (RG.p (RG.p (RG.p (RG.p (RG.p (RG.mk (regs [a0,a1]) []) 3 v1) 4 (vint 0)) 7 v3) 8 v4) 9 v5) 10 v7) 11 a0) 12 v8) 13 v9) 14 v10) 15 v12) 17 a0) 18 v13) 19 v14) 16 v14) 20 v16) 21 v17) 6 v18) 5 v16) 22 v16) 23 v21) 24 v21) 24 (Value.bool false)) 25 undef) 26 undef) 27 undef) 28 (Value.bool false)) h20 (contX pl24 prog J 30 h.length 24 ct24 [1,1,1,1,0,1] (codeOf f24) [] (RetQ prog [.tmp 4] h.length K))))))) := top_eq pok24 ct24 (by kernel_rfl)
theorem g24 (hJ : Closed prog main J) {a0 a1 : Value} (hs : heapOk h → W prog J 30 h.length 24 (codeOf f24) (RG.mk (regs [a0,a1]) []) h (RetQ prog [.tmp 4] h.length K)) : Good prog J 24 [a0,a1] h K :=
 good_of_W hJ mixed at24 body24 (by kernel_rfl) (Nat.le_of_ble_eq_true rfl) hs
theorem s24_1 {f : RG} : W prog J 30 n0 24 (subC [1,1,1,1,0,1] (codeOf f24)) f h (contX pl24 prog J 30 n0 24 ct24 [1,1,1,1,0,1] (codeOf f24) [] (RetQ prog [.tmp 4] n0 K)) =
(cnd (f.r 28)
(retL n0 K f.ds [(vint 1)] h)
(retL n0 K f.ds [(f.r 5)] h)) := sub_eq pok24 ct24 (by kernel_rfl)
theorem at51 : prog.funcs[51]? = some f51 := by kernel_rfl
theorem body51 : f51.body = some (codeOf f51) := by kernel_rfl
def pl51 : Plans := []
def ct51 : Cuts := .go
theorem pok51 : plansOk prog pl51 (codeOf f51) = true := by kernel_rfl
theorem e51 {a0 : Value} : W prog J 82 h.length 51 (codeOf f51) (RG.mk (regs [a0]) []) h (RetQ prog [.tmp 2] h.length K) =
(aNil a0 fun v1 =>
aOff v1 0 fun v2 =>
aOff v2 2 fun v3 =>
aLoad false 1 v3 h fun v4 =>
aLenS v4 fun v5 =>
aBin prog .eql 3 v5 (vint 0) fun v6 =>
cnd v6
(retL h.length K [] [(vint 7)] h)
(aBin prog .gtr 3 v5 (vint 3) fun v7 =>
cnd v7
(retL h.length K [] [(vint 6)] h)
(aNil a0 fun v8 =>
aOff v8 0 fun v9 =>
aOff v9 2 fun v10 =>
aLoad false 1 v10 h fun v11 =>
Good prog J 52 [a0,v11] h fun v12 h13 =>
aUn .not v12 fun v14 =>
cnd v14
(retL h.length K [] [(vint 3)] h13)
(aNil a0 fun v15 =>
aOff v15 0 fun v16 =>
aOff v16 3 fun v17 =>
aLoad false 1 v17 h13 fun v18 =>
aLenS v18 fun v19 =>
aBin prog .neq 3 v19 v5 fun v20 =>
cnd v20
(retL h.length K [] [(vint 2)] h13)
(aNil a0 fun v21 =>
aOff v21 0 fun v22 =>
aOff v22 3 fun v23 =>
aLoad false 1 v23 h13 fun v24 =>
aLenS v24 fun v25 =>
Sem J 82 h.length 51 (subC [1,1,0,1,0] (codeOf f51)) (RG.p (RG.p (RG.p (RG.p (RG.p (RG.p (RG.p (RG.p (RG.p (RG.p (RG.p (RG.p (RG.p (RG.p (RG.p (RG.p (RG.p (RG.p (RG.p (RG.p (RG.p (RG.p (RG.p (RG.p (RG.p (RG.p (RG.p (RG.p (RG.p (RG.p (RG.p (RG.p (RG.p (RG.p (RG.p (RG.p (RG.p (RG.p (RG.p (RG.mk (regs [a0]) []) 2 (vint 0)) 10 a0) 11 v1) 12 v2) 13 v3) 14 v4) 15 v5) 3 v5) 17 v5) 18 v6) 16 v6) 20 v5) 21 v7) 19 v7) 23 a0) 24 a0) 25 v8) 26 v9) 27 v10) 28 v11) 29 v12) 30 v14) 22 v14) 32 a0) 33 v15) 34 v16) 35 v17) 36 v18) 37 v19) 38 v5) 39 v20) 31 v20) 40 a0) 41 v21) 42 v22) 43 v23) 44 v24) 45 v25) 46 (vint 0)) h13 (contX pl51 prog J 82 h.length 51 ct51 [1,1,0,1,0] (codeOf f51) [] (RetQ prog [.tmp 2] h.length K))))))) := top_eq pok51 ct51 (by kernel_rfl)
theorem g51 (hJ : Closed prog main J) {a0 : Value} (hs : heapOk h → W prog J 82 h.length 51 (codeOf f51) (RG.mk (regs [a0]) []) h (RetQ prog [.tmp 2] h.length K)) : Good prog J 51 [a0] h K :=
 good_of_W hJ mixed at51 body51 (by kernel_rfl) (Nat.le_of_ble_eq_true rfl) hs
theorem s51_1 {f : RG} {nx0 : RG → List AObj → Prop} : W prog J 82 n0 51 (subC [1,1,0,1,0,0] (codeOf f51)) f h (thenK nx0 (contX pl51 prog J 82 n0 51 ct51 [1,1,0,1,0] (codeOf f51) [] (RetQ prog [.tmp 2] n0 K))) =
(aBin prog .lss 3 (f.r 46) (f.r 45) fun v1 =>
cnd v1
(aIdx 1 (f.r 44) (f.r 46) fun v2 =>
aLoad false 1 v2 h fun v3 =>
aLenS v3 fun v4 =>
aNil (f.r 0) fun v5 =>
aOff v5 0 fun v6 =>
aOff v6 0 fun v7 =>
aOff v7 1 fun v8 =>
aLoad false 1 v8 h fun v9 =>
aLenS v9 fun v10 =>
aBin prog .neq 3 v4 v10 fun v11 =>
cnd v11
(retL n0 K f.ds [(vint 2)] h)
(aBin prog .add 3 (f.r 46) (vint 1) fun v12 =>
nx0 (RG.p (RG.p (RG.p (RG.p (RG.p (RG.p (RG.p (RG.p (RG.p (RG.p (RG.p (RG.p (RG.p (RG.p (RG.p (RG.p f 47 v1) 48 v2) 49 v3) 5 v3) 50 v3) 51 v4) 52 (f.r 0)) 53 v5) 54 v6) 55 v7) 56 v8) 57 v9) 58 v10) 59 v11) 60 v12) 46 v12) h))
(aNil (f.r 0) fun v13 =>
aOff v13 0 fun v14 =>
aOff v14 3 fun v15 =>
aLoad false 1 v15 h fun v16 =>
aLenS v16 fun v17 =>
Sem J 82 n0 51 (subC [1,1,1,0,1,0] (codeOf f51)) (RG.p (RG.p (RG.p (RG.p (RG.p (RG.p (RG.p (RG.p f 47 v1) 61 (f.r 0)) 62 v13) 63 v14) 64 v15) 65 v16) 66 v17) 67 (vint 0)) h (contX pl51 prog J 82 n0 51 ct51 [1,1,1,0,1,0] (codeOf f51) [] (RetQ prog [.tmp 2] n0 K)))) := sub_eq pok51 ct51 (by kernel_rfl)
theorem l51_1 (hJ : Closed prog main J) {S : Type} (μ : S → Nat) (I : S → RG → List AObj → Prop) (hI : ∀ s f h,I s f h → heapOk h → n0 ≤ h.length → W prog J 82 n0 51 (subC [1,1,0,1,0,0] (codeOf f51)) f h (thenK (Nx n0 μ I s) (contX pl51 prog J 82 n0 51 ct51 [1,1,0,1,0] (codeOf f51) [] (RetQ prog [.tmp 2] n0 K))))
 {s : S} {f : RG} (hi : Gets n0 I s f h) : Sem J 82 n0 51 (subC [1,1,0,1,0] (codeOf f51)) f h (contX pl51 prog J 82 n0 51 ct51 [1,1,0,1,0] (codeOf f51) [] (RetQ prog [.tmp 2] n0 K)) :=
 loop_rule hJ mixed (b := subC [1,1,0,1,0,0] (codeOf f51)) (by kernel_rfl) μ I hI hi
theorem s51_2 {f : RG} {nx0 : RG → List AObj → Prop} : W prog J 82 n0 51 (subC [1,1,1,0,1,0,0] (codeOf f51)) f h (thenK nx0 (contX pl51 prog J 82 n0 51 ct51 [1,1,1,0,1,0] (codeOf f51) [] (RetQ prog [.tmp 2] n0 K))) =
(aBin prog .lss 3 (f.r 67) (f.r 66) fun v1 =>
cnd v1
(aIdx 1 (f.r 65) (f.r 67) fun v2 =>
aLoad false 1 v2 h fun v3 =>
aLenS v3 fun v4 =>
Sem J 82 n0 51 (subC [1,1,1,0,1,0,0,1,1,0,0,1,1,0] (codeOf f51)) (RG.p (RG.p (RG.p (RG.p (RG.p (RG.p (RG.p f 68 v1) 69 v2) 70 v3) 7 v3) 71 v3) 72 v4) 73 (vint 0)) h (contX pl51 prog J 82 n0 51 ct51 [1,1,1,0,1,0,0,1,1,0,0,1,1,0] (codeOf f51) [nx0] (RetQ prog [.tmp 2] n0 K)))
(retL n0 K f.ds [(vint 0)] h)) := sub_eq pok51 ct51 (by kernel_rfl)
theorem l51_2 (hJ : Closed prog main J) {S : Type} (μ : S → Nat) (I : S → RG → List AObj → Prop) (hI : ∀ s f h,I s f h → heapOk h → n0 ≤ h.length → W prog J 82 n0 51 (subC [1,1,1,0,1,0,0] (codeOf f51)) f h (thenK (Nx n0 μ I s) (contX pl51 prog J 82 n0 51 ct51 [1,1,1,0,1,0] (codeOf f51) [] (RetQ prog [.tmp 2] n0 K))))
 {s : S} {f : RG} (hi : Gets n0 I s f h) : Sem J 82 n0 51 (subC [1,1,1,0,1,0] (codeOf f51)) f h (contX pl51 prog J 82 n0 51 ct51 [1,1,1,0,1,0] (codeOf f51) [] (RetQ prog [.tmp 2] n0 K)) :=
 loop_rule hJ mixed (b := subC [1,1,1,0,1,0,0] (codeOf f51)) (by kernel_rfl) μ I hI hi
theorem s51_3 {f : RG} {nx0 nx1 : RG → List AObj → Prop} : W prog J 82 n0 51 (subC [1,1,1,0,1,0,0,1,1,0,0,1,1,0,0] (codeOf f51)) f h (thenK nx1 (contX pl51 prog J 82 n0 51 ct51 [1,1,1,0,1,0,0,1,1,0,0,1,1,0] (codeOf f51) [nx0] (RetQ prog [.tmp 2] n0 K))) =
(aBin prog .lss 3 (f.r 73) (f.r 72) fun v1 =>
cnd v1
(aIdx 1 (f.r 71) (f.r 73) fun v2 =>
aLoad false 1 v2 h fun v3 =>
Good prog J 28 [v3,(vint 0),(vint 20)] h fun v4 h5 =>
aUn .not v4 fun v6 =>
cnd v6
(retL n0 K f.ds [(vint 1)] h5)
(aBin prog .add 3 (f.r 73) (vint 1) fun v7 =>
nx1 (RG.p (RG.p (RG.p (RG.p (RG.p (RG.p (RG.p (RG.p (RG.p f 74 v1) 75 v2) 76 v3) 9 v3) 77 v3) 78 v4) 79 v6) 80 v7) 73 v7) h5))
(aBin prog .add 3 (f.r 67) (vint 1) fun v8 =>
nx0 (RG.p (RG.p (RG.p f 74 v1) 81 v8) 67 v8) h)) := sub_eq pok51 ct51 (by kernel_rfl)
theorem l51_3 (hJ : Closed prog main J) {nx0 : RG → List AObj → Prop} {S : Type} (μ : S → Nat) (I : S → RG → List AObj → Prop) (hI : ∀ s f h,I s f h → heapOk h → n0 ≤ h.length → W prog J 82 n0 51 (subC [1,1,1,0,1,0,0,1,1,0,0,1,1,0,0] (codeOf f51)) f h (thenK (Nx n0 μ I s) (contX pl51 prog J 82 n0 51 ct51 [1,1,1,0,1,0,0,1,1,0,0,1,1,0] (codeOf f51) [nx0] (RetQ prog [.tmp 2] n0 K))))
 {s : S} {f : RG} (hi : Gets n0 I s f h) : Sem J 82 n0 51 (subC [1,1,1,0,1,0,0,1,1,0,0,1,1,0] (codeOf f51)) f h (contX pl51 prog J 82 n0 51 ct51 [1,1,1,0,1,0,0,1,1,0,0,1,1,0] (codeOf f51) [nx0] (RetQ prog [.tmp 2] n0 K)) :=
 loop_rule hJ mixed (b := subC [1,1,1,0,1,0,0,1,1,0,0,1,1,0,0] (codeOf f51)) (by kernel_rfl) μ I hI hi
theorem at40 : prog.funcs[40]? = some f40 := by kernel_rfl
theorem body40 : f40.body = some (codeOf f40) := by kernel_rfl
def pl40 : Plans := []
def ct40 : Cuts := .go
theorem pok40 : plansOk prog pl40 (codeOf f40) = true := by kernel_rfl
theorem e40 {a0 : Value} : W prog J 40 h.length 40 (codeOf f40) (RG.mk (regs [a0]) []) h (RetQ prog [.tmp 2] h.length K) =
(aBox a0 h fun v1 h2 =>
aOff v1 0 fun v3 =>
aLoad true 2 v3 h2 fun v4 =>
Good prog J 18 [v4] h2 fun v5 h6 =>
aBin prog .neq 33 v5 (vint 0) fun v7 =>
cnd v7
(retL h.length K [] [v5] h6)
(aLoad true 5 v1 h6 fun v8 =>
Good prog J 27 [v8] h6 fun v9 h10 =>
Good prog J 51 [v9] h10 fun v11 h12 =>
aBin prog .neq 33 v11 (vint 0) fun v13 =>
cnd v13
(retL h.length K [] [v11] h12)
(aOff v1 4 fun v14 =>
aLoad false 1 v14 h12 fun v15 =>
aLenS v15 fun v16 =>
aBin prog .gtr 3 v16 (vint 6) fun v17 =>
cnd v17
(retL h.length K [] [(vint 6)] h12)
(aOff v1 4 fun v18 =>
aLoad false 1 v18 h12 fun v19 =>
aLenS v19 fun v20 =>
Sem J 40 h.length 40 (subC [1,1,1,1,1,0,1,0] (codeOf f40)) (RG.p (RG.p (RG.p (RG.p (RG.p (RG.p (RG.p (RG.p (RG.p (RG.p (RG.p (RG.p (RG.p (RG.p (RG.p (RG.p (RG.p (RG.p (RG.p (RG.p (RG.p (RG.p (RG.p (RG.p (RG.mk (regs [a0]) []) 1 v1) 2 (vint 0)) 9 v3) 10 v4) 11 v5) 3 v5) 12 v5) 13 v7) 15 v8) 16 v9) 4 v9) 17 v9) 18 v11) 5 v11) 19 v11) 20 v13) 22 v14) 23 v15) 24 v16) 25 v17) 26 v18) 27 v19) 28 v20) 29 (vint 0)) h12 (contX pl40 prog J 40 h.length 40 ct40 [1,1,1,1,1,0,1,0] (codeOf f40) [] (RetQ prog [.tmp 2] h.length K)))))) := top_eq pok40 ct40 (by kernel_rfl)
theorem g40 (hJ : Closed prog main J) {a0 : Value} (hs : heapOk h → W prog J 40 h.length 40 (codeOf f40) (RG.mk (regs [a0]) []) h (RetQ prog [.tmp 2] h.length K)) : Good prog J 40 [a0] h K :=
 good_of_W hJ mixed at40 body40 (by kernel_rfl) (Nat.le_of_ble_eq_true rfl) hs
theorem s40_1 {f : RG} {nx0 : RG → List AObj → Prop} : W prog J 40 n0 40 (subC [1,1,1,1,1,0,1,0,0] (codeOf f40)) f h (thenK nx0 (contX pl40 prog J 40 n0 40 ct40 [1,1,1,1,1,0,1,0] (codeOf f40) [] (RetQ prog [.tmp 2] n0 K))) =
(aBin prog .lss 3 (f.r 29) (f.r 28) fun v1 =>
cnd v1
(aIdx 12 (f.r 27) (f.r 29) fun v2 =>
aLoad true 12 v2 h fun v3 =>
aAlloc [(vint 0),(vint 0),(vint 0),(vint 0),(vint 0),(vint 0),(vint 0),(vint 0),(Value.bool false),(Value.bool false),(vint 0),(vint 0)] h fun v4 h5 =>
aStore 12 v4 v3 h5 fun h6 =>
aLoad true 12 v4 h6 fun v7 =>
Good prog J 24 [(f.r 4),v7] h6 fun v8 h9 =>
aBin prog .neq 33 v8 (vint 0) fun v10 =>
cnd v10
(retL n0 K f.ds [v8] h9)
(aBin prog .add 3 (f.r 29) (vint 1) fun v11 =>
nx0 (RG.p (RG.p (RG.p (RG.p (RG.p (RG.p (RG.p (RG.p (RG.p (RG.p (RG.p (RG.p f 30 v1) 31 v2) 32 v3) 7 v4) 33 (f.r 4)) 34 v7) 35 v8) 8 v8) 36 v8) 37 v10) 39 v11) 29 v11) h9))
(retL n0 K f.ds [(vint 0)] h)) := sub_eq pok40 ct40 (by kernel_rfl)
theorem l40_1 (hJ : Closed prog main J) {S : Type} (μ : S → Nat) (I : S → RG → List AObj → Prop) (hI : ∀ s f h,I s f h → heapOk h → n0 ≤ h.length → W prog J 40 n0 40 (subC [1,1,1,1,1,0,1,0,0] (codeOf f40)) f h (thenK (Nx n0 μ I s) (contX pl40 prog J 40 n0 40 ct40 [1,1,1,1,1,0,1,0] (codeOf f40) [] (RetQ prog [.tmp 2] n0 K))))
 {s : S} {f : RG} (hi : Gets n0 I s f h) : Sem J 40 n0 40 (subC [1,1,1,1,1,0,1,0] (codeOf f40)) f h (contX pl40 prog J 40 n0 40 ct40 [1,1,1,1,1,0,1,0] (codeOf f40) [] (RetQ prog [.tmp 2] n0 K)) :=
 loop_rule hJ mixed (b := subC [1,1,1,1,1,0,1,0,0] (codeOf f40)) (by kernel_rfl) μ I hI hi
theorem at23 : prog.funcs[23]? = some f23 := by kernel_rfl
theorem body23 : f23.body = some (codeOf f23) := by kernel_rfl
def pl23 : Plans := []
def ct23 : Cuts := .go
theorem pok23 : plansOk prog pl23 (codeOf f23) = true := by kernel_rfl
theorem e23 {a0 : Value} : W prog J 12 h.length 23 (codeOf f23) (RG.mk (regs [a0]) []) h (RetQ prog [.tmp 2,.tmp 3] h.length K) =
(aBox a0 h fun v1 h2 =>
aLoad true 5 v1 h2 fun v3 =>
Good prog J 40 [v3] h2 fun v4 h5 =>
aBin prog .neq 33 v4 (vint 0) fun v6 =>
cnd v6
(retL h.length K [] [(Value.pointer none),v4] h5)
(aLoad true 5 v1 h5 fun v7 =>
Good prog J 27 [v7] h5 fun v8 h9 =>
retL h.length K [] [v8,(vint 0)] h9)) := top_eq pok23 ct23 (by kernel_rfl)
theorem g23 (hJ : Closed prog main J) {a0 : Value} (hs : heapOk h → W prog J 12 h.length 23 (codeOf f23) (RG.mk (regs [a0]) []) h (RetQ prog [.tmp 2,.tmp 3] h.length K)) : Good prog J 23 [a0] h K :=
 good_of_W hJ mixed at23 body23 (by kernel_rfl) (Nat.le_of_ble_eq_true rfl) hs
theorem at25 : prog.funcs[25]? = some f25 := by kernel_rfl
theorem body25 : f25.body = some (codeOf f25) := by kernel_rfl
def pl25 : Plans := [(2,false,.take 0 (.take 1 (.take 3 (.take 4 (.last 2 true (.take 6 (.last 5 true (.last 7 false (.take 8 (.last 9 false (.fin)))))))))))]
def ct25 : Cuts := .go
theorem pok25 : plansOk prog pl25 (codeOf f25) = true := by kernel_rfl
theorem e25 {a0 : Value} : W prog J 41 h.length 25 (codeOf f25) (RG.mk (regs [a0]) []) h (RetQ prog [.cell 2 42] h.length K) =
(aBox a0 h fun v1 h2 =>
aAlloc [(vint 0),(Value.slice none 0 0),(Value.slice none 0 0),(Value.slice none 0 0),(Value.slice none 0 0)] h2 fun v3 h4 =>
aOff v1 0 fun v5 =>
aOff v5 1 fun v6 =>
aLoad false 1 v6 h4 fun v7 =>
Good prog J 43 [v7] h4 fun v8 h9 =>
aOff v1 0 fun v10 =>
aOff v10 1 fun v11 =>
aStore 1 v11 v8 h9 fun h12 =>
(∃ B,aOff v1 2 fun v13 =>
aLoad false 1 v13 h12 fun v14 =>
RdOk (some B) (ptrBlk v13) ∧ (aOff v1 4 fun v15 =>
aLoad false 1 v15 h12 fun v16 =>
RdOk (some B) (ptrBlk v15) ∧ (Good prog J 44 [v14] h12 fun v17 h18 =>
SameB (some B) h12 h18 ∧ (aOff v1 2 fun v19 =>
Good prog J 45 [v16] h18 fun v20 h21 =>
SameB (some B) h12 h21 ∧ (aStore 1 v19 v17 h21 fun h22 =>
aOff v1 4 fun v23 =>
aStore 1 v23 v20 h22 fun h24 =>
aOff v1 3 fun v25 =>
aLoad false 1 v25 h24 fun v26 =>
aLenS v26 fun v27 =>
((List.length [(Value.slice none 0 0)] = 1 ∧ (24 : Nat) ≤ 1024) ∧ aMkS [(Value.slice none 0 0)] v27 v27 h24 fun v28 h29 =>
aOff v1 3 fun v30 =>
aLoad false 1 v30 h29 fun v31 =>
aLenS v31 fun v32 =>
Sem J 41 h.length 25 (subC [1,1,1,1,0,1,0] (codeOf f25)) (RG.p (RG.p (RG.p (RG.p (RG.p (RG.p (RG.p (RG.p (RG.p (RG.p (RG.p (RG.p (RG.p (RG.p (RG.p (RG.p (RG.p (RG.p (RG.p (RG.p (RG.p (RG.p (RG.p (RG.p (RG.p (RG.mk (regs [a0]) []) 1 v1) 2 v3) 6 v5) 7 v6) 8 v7) 9 v8) 10 v10) 11 v11) 12 v13) 13 v14) 15 v15) 16 v16) 14 v17) 18 v19) 17 v20) 19 v23) 20 v25) 21 v26) 22 v27) 23 v28) 3 v28) 24 v30) 25 v31) 26 v32) 27 (vint 0)) h29 (contX pl25 prog J 41 h.length 25 ct25 [1,1,1,1,0,1,0] (codeOf f25) [] (RetQ prog [.cell 2 42] h.length K))))))))) := top_eq pok25 ct25 (by kernel_rfl)
theorem g25 (hJ : Closed prog main J) {a0 : Value} (hs : heapOk h → W prog J 41 h.length 25 (codeOf f25) (RG.mk (regs [a0]) []) h (RetQ prog [.cell 2 42] h.length K)) : Good prog J 25 [a0] h K :=
 good_of_W hJ mixed at25 body25 (by kernel_rfl) (Nat.le_of_ble_eq_true rfl) hs
theorem s25_1 {f : RG} {nx0 : RG → List AObj → Prop} : W prog J 41 n0 25 (subC [1,1,1,1,0,1,0,0] (codeOf f25)) f h (thenK nx0 (contX pl25 prog J 41 n0 25 ct25 [1,1,1,1,0,1,0] (codeOf f25) [] (RetQ prog [.cell 2 42] n0 K))) =
(aBin prog .lss 3 (f.r 27) (f.r 26) fun v1 =>
cnd v1
(aIdx 1 (f.r 25) (f.r 27) fun v2 =>
aLoad false 1 v2 h fun v3 =>
Good prog J 44 [v3] h fun v4 h5 =>
aIdx 1 (f.r 3) (f.r 27) fun v6 =>
aStore 1 v6 v4 h5 fun h7 =>
aBin prog .add 3 (f.r 27) (vint 1) fun v8 =>
nx0 (RG.p (RG.p (RG.p (RG.p (RG.p (RG.p (RG.p (RG.p (RG.p (RG.p (RG.p (RG.p (RG.p f 28 v1) 29 (f.r 27)) 30 v2) 31 v3) 4 (f.r 27)) 5 v3) 32 (f.r 3)) 33 (f.r 27)) 34 v3) 35 v4) 36 v6) 37 v8) 27 v8) h7)
(aOff (f.r 1) 3 fun v9 =>
aStore 1 v9 (f.r 3) h fun h10 =>
aLoad true 5 (f.r 1) h10 fun v11 =>
aStore 5 (f.r 2) v11 h10 fun h12 =>
RetQ prog [.cell 2 42] n0 K .ret (RG.p (RG.p (RG.p (RG.p f 28 v1) 38 (f.r 3)) 39 v9) 40 v11) h12)) := sub_eq pok25 ct25 (by kernel_rfl)
theorem l25_1 (hJ : Closed prog main J) {S : Type} (μ : S → Nat) (I : S → RG → List AObj → Prop) (hI : ∀ s f h,I s f h → heapOk h → n0 ≤ h.length → W prog J 41 n0 25 (subC [1,1,1,1,0,1,0,0] (codeOf f25)) f h (thenK (Nx n0 μ I s) (contX pl25 prog J 41 n0 25 ct25 [1,1,1,1,0,1,0] (codeOf f25) [] (RetQ prog [.cell 2 42] n0 K))))
 {s : S} {f : RG} (hi : Gets n0 I s f h) : Sem J 41 n0 25 (subC [1,1,1,1,0,1,0] (codeOf f25)) f h (contX pl25 prog J 41 n0 25 ct25 [1,1,1,1,0,1,0] (codeOf f25) [] (RetQ prog [.cell 2 42] n0 K)) :=
 loop_rule hJ mixed (b := subC [1,1,1,1,0,1,0,0] (codeOf f25)) (by kernel_rfl) μ I hI hi
theorem at54 : prog.funcs[54]? = some f54 := by kernel_rfl
theorem body54 : f54.body = some (codeOf f54) := by kernel_rfl
def pl54 : Plans := []
def ct54 : Cuts := .go
theorem pok54 : plansOk prog pl54 (codeOf f54) = true := by kernel_rfl
theorem e54 {a0 : Value} : W prog J 24 h.length 54 (codeOf f54) (RG.mk (regs [a0]) []) h (RetQ prog [.cell 2 83] h.length K) =
(aAlloc [(vint 0),(vint 0),(vint 0),(vint 0),(vint 0),(vint 0),(vint 0),(vint 0),(vint 0),(vint 0),(vint 0),(vint 0),(vint 0),(vint 0),(vint 0)] h fun v1 h2 =>
aAlloc [(vint 0),(vint 0),(vint 0),(vint 0),(vint 0),(vint 0),(vint 0),(vint 0),(vint 0),(vint 0),(vint 0),(vint 0),(vint 0),(vint 0),(vint 0)] h2 fun v3 h4 =>
aNil a0 fun v5 =>
aOff v5 0 fun v6 =>
aOff v6 3 fun v7 =>
aLoad false 1 v7 h4 fun v8 =>
aLenS v8 fun v9 =>
Sem J 24 h.length 54 (subC [1,1,0,1,0] (codeOf f54)) (RG.p (RG.p (RG.p (RG.p (RG.p (RG.p (RG.p (RG.p (RG.p (RG.mk (regs [a0]) []) 2 v1) 3 v3) 6 a0) 7 v5) 8 v6) 9 v7) 10 v8) 11 v9) 12 (vint 0)) h4 (contX pl54 prog J 24 h.length 54 ct54 [1,1,0,1,0] (codeOf f54) [] (RetQ prog [.cell 2 83] h.length K))) := top_eq pok54 ct54 (by kernel_rfl)
theorem g54 (hJ : Closed prog main J) {a0 : Value} (hs : heapOk h → W prog J 24 h.length 54 (codeOf f54) (RG.mk (regs [a0]) []) h (RetQ prog [.cell 2 83] h.length K)) : Good prog J 54 [a0] h K :=
 good_of_W hJ mixed at54 body54 (by kernel_rfl) (Nat.le_of_ble_eq_true rfl) hs
theorem s54_1 {f : RG} {nx0 : RG → List AObj → Prop} : W prog J 24 n0 54 (subC [1,1,0,1,0,0] (codeOf f54)) f h (thenK nx0 (contX pl54 prog J 24 n0 54 ct54 [1,1,0,1,0] (codeOf f54) [] (RetQ prog [.cell 2 83] n0 K))) =
(aBin prog .lss 3 (f.r 12) (f.r 11) fun v1 =>
cnd v1
(aIdx 1 (f.r 10) (f.r 12) fun v2 =>
aLoad false 1 v2 h fun v3 =>
aIdxA 3 5 (f.r 3) (f.r 12) fun v4 =>
aSlA 5 1 v4 none none fun v5 =>
(0 < (1 : Nat) ∧ aCopy 1 v5 v3 h fun v6 h7 =>
aBin prog .add 3 (f.r 12) (vint 1) fun v8 =>
nx0 (RG.p (RG.p (RG.p (RG.p (RG.p (RG.p (RG.p (RG.p (RG.p (RG.p (RG.p (RG.p (RG.p f 13 v1) 14 (f.r 12)) 15 v2) 16 v3) 4 (f.r 12)) 5 v3) 17 (f.r 12)) 18 v4) 19 v5) 20 v3) 21 v6) 22 v8) 12 v8) h7))
(aLoad true 15 (f.r 3) h fun v9 =>
aStore 15 (f.r 2) v9 h fun h10 =>
RetQ prog [.cell 2 83] n0 K .ret (RG.p (RG.p f 13 v1) 23 v9) h10)) := sub_eq pok54 ct54 (by kernel_rfl)
theorem l54_1 (hJ : Closed prog main J) {S : Type} (μ : S → Nat) (I : S → RG → List AObj → Prop) (hI : ∀ s f h,I s f h → heapOk h → n0 ≤ h.length → W prog J 24 n0 54 (subC [1,1,0,1,0,0] (codeOf f54)) f h (thenK (Nx n0 μ I s) (contX pl54 prog J 24 n0 54 ct54 [1,1,0,1,0] (codeOf f54) [] (RetQ prog [.cell 2 83] n0 K))))
 {s : S} {f : RG} (hi : Gets n0 I s f h) : Sem J 24 n0 54 (subC [1,1,0,1,0] (codeOf f54)) f h (contX pl54 prog J 24 n0 54 ct54 [1,1,0,1,0] (codeOf f54) [] (RetQ prog [.cell 2 83] n0 K)) :=
 loop_rule hJ mixed (b := subC [1,1,0,1,0,0] (codeOf f54)) (by kernel_rfl) μ I hI hi
theorem at30 : prog.funcs[30]? = some f30 := by kernel_rfl
theorem body30 : f30.body = some (codeOf f30) := by kernel_rfl
def pl30 : Plans := []
def ct30 : Cuts := .go
theorem pok30 : plansOk prog pl30 (codeOf f30) = true := by kernel_rfl
theorem e30 {a0 a1 : Value} : W prog J 19 h.length 30 (codeOf f30) (RG.mk (regs [a0,a1]) []) h (RetQ prog [.tmp 4] h.length K) =
(aBox a0 h fun v1 h2 =>
aLoad true 15 v1 h2 fun v3 =>
Sem J 19 h.length 30 (subC [1,1,0,1,0] (codeOf f30)) (RG.p (RG.p (RG.p (RG.p (RG.p (RG.mk (regs [a0,a1]) []) 2 v1) 4 (vint 0)) 5 (vint 0)) 8 v3) 9 (vint 0)) h2 (contX pl30 prog J 19 h.length 30 ct30 [1,1,0,1,0] (codeOf f30) [] (RetQ prog [.tmp 4] h.length K))) := top_eq pok30 ct30 (by kernel_rfl)
theorem g30 (hJ : Closed prog main J) {a0 a1 : Value} (hs : heapOk h → W prog J 19 h.length 30 (codeOf f30) (RG.mk (regs [a0,a1]) []) h (RetQ prog [.tmp 4] h.length K)) : Good prog J 30 [a0,a1] h K :=
 good_of_W hJ mixed at30 body30 (by kernel_rfl) (Nat.le_of_ble_eq_true rfl) hs
theorem s30_1 {f : RG} {nx0 : RG → List AObj → Prop} : W prog J 19 n0 30 (subC [1,1,0,1,0,0] (codeOf f30)) f h (thenK nx0 (contX pl30 prog J 19 n0 30 ct30 [1,1,0,1,0] (codeOf f30) [] (RetQ prog [.tmp 4] n0 K))) =
(aBin prog .lss 3 (f.r 9) (vint 3) fun v1 =>
cnd v1
(aIdxV 3 5 true (f.r 8) (f.r 9) fun v2 =>
aAlloc [(vint 0),(vint 0),(vint 0),(vint 0),(vint 0)] h fun v3 h4 =>
aStore 5 v3 v2 h4 fun h5 =>
aIdxA 5 1 v3 (f.r 1) fun v6 =>
aLoad false 1 v6 h5 fun v7 =>
aBin prog .add 3 (f.r 5) v7 fun v8 =>
aBin prog .add 3 (f.r 9) (vint 1) fun v9 =>
nx0 (RG.p (RG.p (RG.p (RG.p (RG.p (RG.p (RG.p (RG.p (RG.p (RG.p (RG.p f 10 v1) 11 v2) 7 v3) 12 (f.r 5)) 13 (f.r 1)) 14 v6) 15 v7) 16 v8) 5 v8) 17 v9) 9 v9) h5)
(retL n0 K f.ds [(f.r 5)] h)) := sub_eq pok30 ct30 (by kernel_rfl)
theorem l30_1 (hJ : Closed prog main J) {S : Type} (μ : S → Nat) (I : S → RG → List AObj → Prop) (hI : ∀ s f h,I s f h → heapOk h → n0 ≤ h.length → W prog J 19 n0 30 (subC [1,1,0,1,0,0] (codeOf f30)) f h (thenK (Nx n0 μ I s) (contX pl30 prog J 19 n0 30 ct30 [1,1,0,1,0] (codeOf f30) [] (RetQ prog [.tmp 4] n0 K))))
 {s : S} {f : RG} (hi : Gets n0 I s f h) : Sem J 19 n0 30 (subC [1,1,0,1,0] (codeOf f30)) f h (contX pl30 prog J 19 n0 30 ct30 [1,1,0,1,0] (codeOf f30) [] (RetQ prog [.tmp 4] n0 K)) :=
 loop_rule hJ mixed (b := subC [1,1,0,1,0,0] (codeOf f30)) (by kernel_rfl) μ I hI hi
theorem at66 : prog.funcs[66]? = some f66 := by kernel_rfl
theorem body66 : f66.body = some (codeOf f66) := by kernel_rfl
def pl66 : Plans := [(1,true,.take 0 (.take 1 (.take 2 (.take 3 (.take 4 (.take 5 (.take 6 (.take 7 (.take 8 (.last 9 false (.fin))))))))))),
 (2,false,.take 0 (.take 1 (.take 2 (.take 3 (.take 4 (.take 5 (.take 6 (.last 7 true (.take 8 (.fin))))))))))]
def ct66 : Cuts := .go
theorem pok66 : plansOk prog pl66 (codeOf f66) = true := by kernel_rfl
theorem e66 {a0 a1 a2 a3 : Value} : W prog J 26 h.length 66 (codeOf f66) (RG.mk (regs [a0,a1,a2,a3]) []) h (RetQ prog [.cell 8 83,.tmp 9] h.length K) =
(aBox a0 h fun v1 h2 =>
aAlloc [(vint 0),(vint 0),(vint 0),(vint 0),(vint 0),(vint 0),(vint 0),(vint 0),(vint 0),(vint 0),(vint 0),(vint 0),(vint 0),(vint 0),(vint 0)] h2 fun v3 h4 =>
aIdxA 3 5 v1 a1 fun v5 =>
aIdxA 5 1 v5 a2 fun v6 =>
aLoad false 1 v6 h4 fun v7 =>
aBin prog .add 3 v7 a3 fun v8 =>
aIdxA 3 5 v1 a1 fun v9 =>
aIdxA 5 1 v9 a2 fun v10 =>
aStore 1 v10 v8 h4 fun h11 =>
(∃ B,aLoad true 15 v1 h11 fun v12 =>
RdOk (some B) (ptrBlk v1) ∧ (aIdxA 3 5 v1 a1 fun v13 =>
aIdxA 5 1 v13 a2 fun v14 =>
aLoad false 1 v14 h11 fun v15 =>
RdOk (some B) (ptrBlk v14) ∧ (aBin prog .geq 3 v15 (vint 0) fun v16 =>
aStore 15 v3 v12 h11 fun h17 =>
SameB (some B) h11 h17 ∧ (RetQ prog [.cell 8 83,.tmp 9] h.length K .ret (RG.p (RG.p (RG.p (RG.p (RG.p (RG.p (RG.p (RG.p (RG.p (RG.p (RG.p (RG.p (RG.p (RG.p (RG.p (RG.p (RG.p (RG.p (RG.p (RG.p (RG.mk (regs [a0,a1,a2,a3]) []) 4 v1) 8 v3) 9 (Value.bool false)) 10 a1) 11 a2) 12 v5) 13 v6) 14 v7) 15 a3) 16 v8) 17 v9) 18 v10) 19 v12) 20 a1) 21 a2) 22 v13) 23 v14) 24 v15) 25 v16) 9 v16) h17))))) := top_eq pok66 ct66 (by kernel_rfl)
theorem g66 (hJ : Closed prog main J) {a0 a1 a2 a3 : Value} (hs : heapOk h → W prog J 26 h.length 66 (codeOf f66) (RG.mk (regs [a0,a1,a2,a3]) []) h (RetQ prog [.cell 8 83,.tmp 9] h.length K)) : Good prog J 66 [a0,a1,a2,a3] h K :=
 good_of_W hJ mixed at66 body66 (by kernel_rfl) (Nat.le_of_ble_eq_true rfl) hs
end
section
variable {main : Bool} {J : JT} {n0 : Nat} {h : List AObj} {K : Value → List AObj → Prop}
theorem at17 : prog.funcs[17]? = some f17 := by kernel_rfl
theorem body17 : f17.body = some (codeOf f17) := by kernel_rfl
def pl17 : Plans := [(4,true,.take 0 (.take 1 (.take 2 (.take 3 (.take 4 (.take 5 (.take 6 (.fin))))))))]
def ct17 : Cuts := .go
theorem pok17 : plansOk prog pl17 (codeOf f17) = true := by kernel_rfl
theorem e17 {a0 a1 : Value} : W prog J 21 h.length 17 (codeOf f17) (RG.mk (regs [a0,a1]) []) h (RetQ prog [.tmp 4] h.length K) =
(aBox a0 h fun v1 h2 =>
aBox a1 h2 fun v3 h4 =>
Sem J 21 h.length 17 (subC [1,0,1,0] (codeOf f17)) (RG.p (RG.p (RG.p (RG.p (RG.mk (regs [a0,a1]) []) 2 v1) 3 v3) 4 (vint 0)) 5 (vint 0)) h4 (contX pl17 prog J 21 h.length 17 ct17 [1,0,1,0] (codeOf f17) [] (RetQ prog [.tmp 4] h.length K))) := top_eq pok17 ct17 (by kernel_rfl)
theorem g17 (hJ : Closed prog main J) {a0 a1 : Value} (hs : heapOk h → W prog J 21 h.length 17 (codeOf f17) (RG.mk (regs [a0,a1]) []) h (RetQ prog [.tmp 4] h.length K)) : Good prog J 17 [a0,a1] h K :=
 good_of_W hJ mixed at17 body17 (by kernel_rfl) (Nat.le_of_ble_eq_true rfl) hs
theorem s17_1 {f : RG} {nx0 : RG → List AObj → Prop} : W prog J 21 n0 17 (subC [1,0,1,0,0] (codeOf f17)) f h (thenK nx0 (contX pl17 prog J 21 n0 17 ct17 [1,0,1,0] (codeOf f17) [] (RetQ prog [.tmp 4] n0 K))) =
(aOff (f.r 2) 1 fun v1 =>
aLoad false 1 v1 h fun v2 =>
aLenS v2 fun v3 =>
aBin prog .lss 3 (f.r 5) v3 fun v4 =>
cnd v4
(aOff (f.r 2) 1 fun v5 =>
aLoad false 1 v5 h fun v6 =>
aIdx 3 v6 (f.r 5) fun v7 =>
aLoad true 3 v7 h fun v8 =>
aLoad true 3 (f.r 3) h fun v9 =>
aBin prog .eql 30 v8 v9 fun v10 =>
cnd v10
(retL n0 K f.ds [(f.r 5)] h)
(aBin prog .add 3 (f.r 5) (vint 1) fun v11 =>
nx0 (RG.p (RG.p (RG.p (RG.p (RG.p (RG.p (RG.p (RG.p (RG.p (RG.p (RG.p (RG.p (RG.p (RG.p (RG.p f 6 (f.r 5)) 7 v1) 8 v2) 9 v3) 10 v4) 13 v5) 14 v6) 15 (f.r 5)) 16 v7) 17 v8) 18 v9) 19 v10) 11 (f.r 5)) 12 v11) 5 v11) h))
(retL n0 K f.ds [(vint (-1))] h)) := sub_eq pok17 ct17 (by kernel_rfl)
theorem l17_1 (hJ : Closed prog main J) {S : Type} (μ : S → Nat) (I : S → RG → List AObj → Prop) (hI : ∀ s f h,I s f h → heapOk h → n0 ≤ h.length → W prog J 21 n0 17 (subC [1,0,1,0,0] (codeOf f17)) f h (thenK (Nx n0 μ I s) (contX pl17 prog J 21 n0 17 ct17 [1,0,1,0] (codeOf f17) [] (RetQ prog [.tmp 4] n0 K))))
 {s : S} {f : RG} (hi : Gets n0 I s f h) : Sem J 21 n0 17 (subC [1,0,1,0] (codeOf f17)) f h (contX pl17 prog J 21 n0 17 ct17 [1,0,1,0] (codeOf f17) [] (RetQ prog [.tmp 4] n0 K)) :=
 loop_rule hJ mixed (b := subC [1,0,1,0,0] (codeOf f17)) (by kernel_rfl) μ I hI hi
theorem at16 : prog.funcs[16]? = some f16 := by kernel_rfl
theorem body16 : f16.body = some (codeOf f16) := by kernel_rfl
def pl16 : Plans := [(10,true,.take 0 (.take 1 (.take 2 (.take 3 (.take 4 (.take 5 (.take 6 (.take 7 (.last 8 false (.fin))))))))))]
def ct16 : Cuts := .go
theorem pok16 : plansOk prog pl16 (codeOf f16) = true := by kernel_rfl
theorem e16 {a0 : Value} : W prog J 43 h.length 16 (codeOf f16) (RG.mk (regs [a0]) []) h (RetQ prog [.cell 2 30] h.length K) =
(aAlloc [(vint 0),(vint 0),(vint 0)] h fun v1 h2 =>
Good prog J 15 [a0,(vint 9)] h2 fun v3 h4 =>
(((3 * 1 : Nat) ≤ 16777216 ∧ (3 : Nat) ≤ 16777216 ∧ List.length [(vint 0)] = 1) ∧ aFill (zrep [(vint 0)] 3) [(0,1,(vint 0)),(1,1,(vint 1)),(2,1,v3)] fun c5 =>
aNewS 3 c5 h4 fun v6 h7 =>
Good prog J 14 [a0,(vint 0),v6] h7 fun v8 h9 =>
Good prog J 15 [a0,(vint 6)] h9 fun v10 h11 =>
(((4 * 1 : Nat) ≤ 16777216 ∧ (4 : Nat) ≤ 16777216 ∧ List.length [(vint 0)] = 1) ∧ aFill (zrep [(vint 0)] 4) [(0,1,(vint 0)),(1,1,(vint 1)),(2,1,(vint 2)),(3,1,v10)] fun c12 =>
aNewS 4 c12 h11 fun v13 h14 =>
Good prog J 14 [a0,(vint 0),v13] h14 fun v15 h16 =>
aFill [(vint 0),(vint 0),(vint 0)] [(1,1,v8),(2,1,v15)] fun c17 =>
aAlloc [(vint 0),(vint 0),(vint 0)] h16 fun v18 h19 =>
aStore 3 v18 (Value.agg ⟨c17⟩) h19 fun h20 =>
Good prog J 34 [a0,(vint 1),(vint 4)] h20 fun v21 h22 =>
cnd v21
(Good prog J 15 [a0,(vint 255)] h22 fun v23 h24 =>
aOff v18 0 fun v25 =>
aStore 1 v25 v23 h24 fun h26 =>
aLoad true 3 v18 h26 fun v27 =>
aStore 3 v1 v27 h26 fun h28 =>
RetQ prog [.cell 2 30] h.length K .ret (RG.p (RG.p (RG.p (RG.p (RG.p (RG.p (RG.p (RG.p (RG.p (RG.p (RG.p (RG.p (RG.p (RG.p (RG.p (RG.p (RG.p (RG.p (RG.p (RG.mk (regs [a0]) []) 2 v1) 6 a0) 7 a0) 8 v3) 9 v6) 10 v8) 11 a0) 12 a0) 13 v10) 14 v13) 15 v15) 16 (Value.agg ⟨c17⟩)) 3 v18) 17 a0) 18 v21) 19 a0) 20 v23) 21 v25) 22 v27) h28)
((((8 * 1 : Nat) ≤ 16777216 ∧ (8 : Nat) ≤ 16777216 ∧ List.length [(vint 0)] = 1) ∧ aFill (zrep [(vint 0)] 8) [(0,1,(vint 1)),(1,1,(vint 2)),(2,1,(vint 16)),(3,1,(vint 4)),(4,1,(vint 32)),(5,1,(vint 8)),(6,1,(vint 64)),(7,1,(vint 128))] fun c29 =>
aNewS 8 c29 h22 fun v30 h31 =>
Sem J 43 h.length 16 (subC [1,1,1,1,0,1,0] (codeOf f16)) (RG.p (RG.p (RG.p (RG.p (RG.p (RG.p (RG.p (RG.p (RG.p (RG.p (RG.p (RG.p (RG.p (RG.p (RG.p (RG.p (RG.p (RG.p (RG.mk (regs [a0]) []) 2 v1) 6 a0) 7 a0) 8 v3) 9 v6) 10 v8) 11 a0) 12 a0) 13 v10) 14 v13) 15 v15) 16 (Value.agg ⟨c17⟩)) 3 v18) 17 a0) 18 v21) 23 v30) 4 v30) 5 (vint 0)) h31 (contX pl16 prog J 43 h.length 16 ct16 [1,1,1,1,0,1,0] (codeOf f16) [] (RetQ prog [.cell 2 30] h.length K))))))) := top_eq pok16 ct16 (by kernel_rfl)
theorem g16 (hJ : Closed prog main J) {a0 : Value} (hs : heapOk h → W prog J 43 h.length 16 (codeOf f16) (RG.mk (regs [a0]) []) h (RetQ prog [.cell 2 30] h.length K)) : Good prog J 16 [a0] h K :=
 good_of_W hJ mixed at16 body16 (by kernel_rfl) (Nat.le_of_ble_eq_true rfl) hs
theorem s16_1 {f : RG} {nx0 : RG → List AObj → Prop} : W prog J 43 n0 16 (subC [1,1,1,1,0,1,0,0] (codeOf f16)) f h (thenK nx0 (contX pl16 prog J 43 n0 16 ct16 [1,1,1,1,0,1,0] (codeOf f16) [] (RetQ prog [.cell 2 30] n0 K))) =
(aLenS (f.r 4) fun v1 =>
aBin prog .lss 3 (f.r 5) v1 fun v2 =>
cnd v2
(aBin prog .add 3 (f.r 5) (vint 3) fun v3 =>
Good prog J 34 [(f.r 0),(vint 1),v3] h fun v4 h5 =>
cnd v4
(aOff (f.r 3) 0 fun v6 =>
aLoad false 1 v6 h5 fun v7 =>
aIdx 1 (f.r 4) (f.r 5) fun v8 =>
aLoad false 1 v8 h5 fun v9 =>
aBin prog .add 3 v7 v9 fun v10 =>
aOff (f.r 3) 0 fun v11 =>
aStore 1 v11 v10 h5 fun h12 =>
aBin prog .add 3 (f.r 5) (vint 1) fun v13 =>
nx0 (RG.p (RG.p (RG.p (RG.p (RG.p (RG.p (RG.p (RG.p (RG.p (RG.p (RG.p (RG.p (RG.p (RG.p (RG.p (RG.p (RG.p (RG.p (RG.p f 24 (f.r 5)) 25 (f.r 4)) 26 v1) 27 v2) 30 (f.r 0)) 31 (f.r 5)) 32 v3) 33 v4) 34 v6) 35 v7) 36 (f.r 4)) 37 (f.r 5)) 38 v8) 39 v9) 40 v10) 41 v11) 28 (f.r 5)) 29 v13) 5 v13) h12)
(aBin prog .add 3 (f.r 5) (vint 1) fun v14 =>
nx0 (RG.p (RG.p (RG.p (RG.p (RG.p (RG.p (RG.p (RG.p (RG.p (RG.p (RG.p f 24 (f.r 5)) 25 (f.r 4)) 26 v1) 27 v2) 30 (f.r 0)) 31 (f.r 5)) 32 v3) 33 v4) 28 (f.r 5)) 29 v14) 5 v14) h5))
(aLoad true 3 (f.r 3) h fun v15 =>
aStore 3 (f.r 2) v15 h fun h16 =>
RetQ prog [.cell 2 30] n0 K .ret (RG.p (RG.p (RG.p (RG.p (RG.p f 24 (f.r 5)) 25 (f.r 4)) 26 v1) 27 v2) 42 v15) h16)) := sub_eq pok16 ct16 (by kernel_rfl)
theorem l16_1 (hJ : Closed prog main J) {S : Type} (μ : S → Nat) (I : S → RG → List AObj → Prop) (hI : ∀ s f h,I s f h → heapOk h → n0 ≤ h.length → W prog J 43 n0 16 (subC [1,1,1,1,0,1,0,0] (codeOf f16)) f h (thenK (Nx n0 μ I s) (contX pl16 prog J 43 n0 16 ct16 [1,1,1,1,0,1,0] (codeOf f16) [] (RetQ prog [.cell 2 30] n0 K))))
 {s : S} {f : RG} (hi : Gets n0 I s f h) : Sem J 43 n0 16 (subC [1,1,1,1,0,1,0] (codeOf f16)) f h (contX pl16 prog J 43 n0 16 ct16 [1,1,1,1,0,1,0] (codeOf f16) [] (RetQ prog [.cell 2 30] n0 K)) :=
 loop_rule hJ mixed (b := subC [1,1,1,1,0,1,0,0] (codeOf f16)) (by kernel_rfl) μ I hI hi
theorem at5 : prog.funcs[5]? = some f5 := by kernel_rfl
theorem body5 : f5.body = some (codeOf f5) := by kernel_rfl
def pl5 : Plans := []
def ct5 : Cuts := .go
theorem pok5 : plansOk prog pl5 (codeOf f5) = true := by kernel_rfl
theorem e5 {a0 a1 : Value} : W prog J 33 h.length 5 (codeOf f5) (RG.mk (regs [a0,a1]) []) h (RetQ prog [.cell 4 27] h.length K) =
(aAlloc [(vint 0),(Value.slice none 0 0)] h fun v1 h2 =>
(((3 * 1 : Nat) ≤ 16777216 ∧ (3 : Nat) ≤ 16777216 ∧ List.length [(vint 0)] = 1) ∧ aFill (zrep [(vint 0)] 3) [(0,1,(vint 1)),(1,1,(vint 1)),(2,1,(vint 2))] fun c3 =>
aNewS 3 c3 h2 fun v4 h5 =>
Good prog J 14 [a0,(vint 0),v4] h5 fun v6 h7 =>
aFill [(vint 0),(Value.slice none 0 0)] [(0,1,v6)] fun c8 =>
aAlloc [(vint 0),(Value.slice none 0 0)] h7 fun v9 h10 =>
aStore 2 v9 (Value.agg ⟨c8⟩) h10 fun h11 =>
aMin a1 [(vint 5)] fun v12 =>
Good prog J 15 [a0,v12] h11 fun v13 h14 =>
Sem J 33 h.length 5 (subC [1,1,0,1,0] (codeOf f5)) (RG.p (RG.p (RG.p (RG.p (RG.p (RG.p (RG.p (RG.p (RG.p (RG.p (RG.p (RG.mk (regs [a0,a1]) []) 4 v1) 8 a0) 9 v4) 10 v6) 11 (Value.agg ⟨c8⟩)) 5 v9) 12 a0) 13 a1) 14 v12) 15 v13) 6 v13) h14 (contX pl5 prog J 33 h.length 5 ct5 [1,1,0,1,0] (codeOf f5) [] (RetQ prog [.cell 4 27] h.length K)))) := top_eq pok5 ct5 (by kernel_rfl)
theorem g5 (hJ : Closed prog main J) {a0 a1 : Value} (hs : heapOk h → W prog J 33 h.length 5 (codeOf f5) (RG.mk (regs [a0,a1]) []) h (RetQ prog [.cell 4 27] h.length K)) : Good prog J 5 [a0,a1] h K :=
 good_of_W hJ mixed at5 body5 (by kernel_rfl) (Nat.le_of_ble_eq_true rfl) hs
theorem s5_1 {f : RG} {nx0 : RG → List AObj → Prop} : W prog J 33 n0 5 (subC [1,1,0,1,0,0] (codeOf f5)) f h (thenK nx0 (contX pl5 prog J 33 n0 5 ct5 [1,1,0,1,0] (codeOf f5) [] (RetQ prog [.cell 4 27] n0 K))) =
(aBin prog .gtr 3 (f.r 6) (vint 0) fun v1 =>
cnd v1
(Good prog J 16 [(f.r 0)] h fun v2 h3 =>
aAlloc [(vint 0),(vint 0),(vint 0)] h3 fun v4 h5 =>
aStore 3 v4 v2 h5 fun h6 =>
aLoad true 2 (f.r 5) h6 fun v7 =>
aLoad true 3 v4 h6 fun v8 =>
Good prog J 17 [v7,v8] h6 fun v9 h10 =>
aBin prog .lss 3 v9 (vint 0) fun v11 =>
cnd v11
(aOff (f.r 5) 1 fun v12 =>
aLoad false 1 v12 h10 fun v13 =>
aLoad true 3 v4 h10 fun v14 =>
(((1 * 3 : Nat) ≤ 16777216 ∧ (1 : Nat) ≤ 16777216 ∧ List.length [(vint 0),(vint 0),(vint 0)] = 3) ∧ aFill (zrep [(vint 0),(vint 0),(vint 0)] 1) [(0,3,v14)] fun c15 =>
aNewS 1 c15 h10 fun v16 h17 =>
((List.length [(vint 0),(vint 0),(vint 0)] = 3 ∧ 0 < (3 : Nat) ∧ 0 < (24 : Nat) ∧ (24 : Nat) ≤ 1024) ∧ aApp 3 v13 v16 h17 fun v18 h19 =>
aOff (f.r 5) 1 fun v20 =>
aStore 1 v20 v18 h19 fun h21 =>
aBin prog .sub 3 (f.r 6) (vint 1) fun v22 =>
nx0 (RG.p (RG.p (RG.p (RG.p (RG.p (RG.p (RG.p (RG.p (RG.p (RG.p (RG.p (RG.p (RG.p (RG.p (RG.p (RG.p (RG.p (RG.p f 16 (f.r 6)) 17 v1) 20 (f.r 0)) 21 v2) 7 v4) 22 v7) 23 v8) 24 v9) 25 v11) 26 v12) 27 v13) 28 v14) 29 v16) 30 v18) 31 v20) 18 (f.r 6)) 19 v22) 6 v22) h21)))
(aBin prog .sub 3 (f.r 6) (vint 1) fun v23 =>
nx0 (RG.p (RG.p (RG.p (RG.p (RG.p (RG.p (RG.p (RG.p (RG.p (RG.p (RG.p (RG.p f 16 (f.r 6)) 17 v1) 20 (f.r 0)) 21 v2) 7 v4) 22 v7) 23 v8) 24 v9) 25 v11) 18 (f.r 6)) 19 v23) 6 v23) h10))
(aLoad true 2 (f.r 5) h fun v24 =>
aStore 2 (f.r 4) v24 h fun h25 =>
RetQ prog [.cell 4 27] n0 K .ret (RG.p (RG.p (RG.p f 16 (f.r 6)) 17 v1) 32 v24) h25)) := sub_eq pok5 ct5 (by kernel_rfl)
theorem l5_1 (hJ : Closed prog main J) {S : Type} (μ : S → Nat) (I : S → RG → List AObj → Prop) (hI : ∀ s f h,I s f h → heapOk h → n0 ≤ h.length → W prog J 33 n0 5 (subC [1,1,0,1,0,0] (codeOf f5)) f h (thenK (Nx n0 μ I s) (contX pl5 prog J 33 n0 5 ct5 [1,1,0,1,0] (codeOf f5) [] (RetQ prog [.cell 4 27] n0 K))))
 {s : S} {f : RG} (hi : Gets n0 I s f h) : Sem J 33 n0 5 (subC [1,1,0,1,0] (codeOf f5)) f h (contX pl5 prog J 33 n0 5 ct5 [1,1,0,1,0] (codeOf f5) [] (RetQ prog [.cell 4 27] n0 K)) :=
 loop_rule hJ mixed (b := subC [1,1,0,1,0,0] (codeOf f5)) (by kernel_rfl) μ I hI hi
theorem at7 : prog.funcs[7]? = some f7 := by kernel_rfl
theorem body7 : f7.body = some (codeOf f7) := by kernel_rfl
def pl7 : Plans := []
def ct7 : Cuts := .go
theorem pok7 : plansOk prog pl7 (codeOf f7) = true := by kernel_rfl
theorem e7 {a0 a1 : Value} : W prog J 19 h.length 7 (codeOf f7) (RG.mk (regs [a0,a1]) []) h (RetQ prog [.tmp 4] h.length K) =
(Sem J 19 h.length 7 (subC [1,0,1,0] (codeOf f7)) (RG.p (RG.p (RG.mk (regs [a0,a1]) []) 4 (vint 0)) 5 (vint 0)) h (contX pl7 prog J 19 h.length 7 ct7 [1,0,1,0] (codeOf f7) [] (RetQ prog [.tmp 4] h.length K))) := top_eq pok7 ct7 (by kernel_rfl)
theorem g7 (hJ : Closed prog main J) {a0 a1 : Value} (hs : heapOk h → W prog J 19 h.length 7 (codeOf f7) (RG.mk (regs [a0,a1]) []) h (RetQ prog [.tmp 4] h.length K)) : Good prog J 7 [a0,a1] h K :=
 good_of_W hJ mixed at7 body7 (by kernel_rfl) (Nat.le_of_ble_eq_true rfl) hs
theorem s7_1 {f : RG} {nx0 : RG → List AObj → Prop} : W prog J 19 n0 7 (subC [1,0,1,0,0] (codeOf f7)) f h (thenK nx0 (contX pl7 prog J 19 n0 7 ct7 [1,0,1,0] (codeOf f7) [] (RetQ prog [.tmp 4] n0 K))) =
(aLenS (f.r 0) fun v1 =>
aBin prog .lss 3 (f.r 5) v1 fun v2 =>
cnd v2
(aIdx 1 (f.r 0) (f.r 5) fun v3 =>
aLoad false 1 v3 h fun v4 =>
aBin prog .eql 3 v4 (f.r 1) fun v5 =>
cnd v5
(retL n0 K f.ds [(f.r 5)] h)
(aBin prog .add 3 (f.r 5) (vint 1) fun v6 =>
nx0 (RG.p (RG.p (RG.p (RG.p (RG.p (RG.p (RG.p (RG.p (RG.p (RG.p (RG.p (RG.p (RG.p f 6 (f.r 5)) 7 (f.r 0)) 8 v1) 9 v2) 12 (f.r 0)) 13 (f.r 5)) 14 v3) 15 v4) 16 (f.r 1)) 17 v5) 10 (f.r 5)) 11 v6) 5 v6) h))
(retL n0 K f.ds [(vint (-1))] h)) := sub_eq pok7 ct7 (by kernel_rfl)
theorem l7_1 (hJ : Closed prog main J) {S : Type} (μ : S → Nat) (I : S → RG → List AObj → Prop) (hI : ∀ s f h,I s f h → heapOk h → n0 ≤ h.length → W prog J 19 n0 7 (subC [1,0,1,0,0] (codeOf f7)) f h (thenK (Nx n0 μ I s) (contX pl7 prog J 19 n0 7 ct7 [1,0,1,0] (codeOf f7) [] (RetQ prog [.tmp 4] n0 K))))
 {s : S} {f : RG} (hi : Gets n0 I s f h) : Sem J 19 n0 7 (subC [1,0,1,0] (codeOf f7)) f h (contX pl7 prog J 19 n0 7 ct7 [1,0,1,0] (codeOf f7) [] (RetQ prog [.tmp 4] n0 K)) :=
 loop_rule hJ mixed (b := subC [1,0,1,0,0] (codeOf f7)) (by kernel_rfl) μ I hI hi
theorem at32 : prog.funcs[32]? = some f32 := by kernel_rfl
theorem body32 : f32.body = some (codeOf f32) := by kernel_rfl
def pl32 : Plans := [(6,true,.take 0 (.take 1 (.take 2 (.take 3 (.take 4 (.take 5 (.take 6 (.take 7 (.take 8 (.fin))))))))))]
def ct32 : Cuts := .go
theorem pok32 : plansOk prog pl32 (codeOf f32) = true := by kernel_rfl
theorem e32 {a0 a1 : Value} : W prog J 26 h.length 32 (codeOf f32) (RG.mk (regs [a0,a1]) []) h (RetQ prog [.tmp 4] h.length K) =
(aLenS a0 fun v1 =>
aLenS a1 fun v2 =>
aBin prog .neq 3 v1 v2 fun v3 =>
cnd v3
(retL h.length K [] [(Value.bool false)] h)
(Sem J 26 h.length 32 (subC [1,1,0,1,0] (codeOf f32)) (RG.p (RG.p (RG.p (RG.p (RG.p (RG.p (RG.p (RG.mk (regs [a0,a1]) []) 4 (Value.bool false)) 6 a0) 7 v1) 8 a1) 9 v2) 10 v3) 5 (vint 0)) h (contX pl32 prog J 26 h.length 32 ct32 [1,1,0,1,0] (codeOf f32) [] (RetQ prog [.tmp 4] h.length K)))) := top_eq pok32 ct32 (by kernel_rfl)
theorem g32 (hJ : Closed prog main J) {a0 a1 : Value} (hs : heapOk h → W prog J 26 h.length 32 (codeOf f32) (RG.mk (regs [a0,a1]) []) h (RetQ prog [.tmp 4] h.length K)) : Good prog J 32 [a0,a1] h K :=
 good_of_W hJ mixed at32 body32 (by kernel_rfl) (Nat.le_of_ble_eq_true rfl) hs
theorem s32_1 {f : RG} {nx0 : RG → List AObj → Prop} : W prog J 26 n0 32 (subC [1,1,0,1,0,0] (codeOf f32)) f h (thenK nx0 (contX pl32 prog J 26 n0 32 ct32 [1,1,0,1,0] (codeOf f32) [] (RetQ prog [.tmp 4] n0 K))) =
(aLenS (f.r 0) fun v1 =>
aBin prog .lss 3 (f.r 5) v1 fun v2 =>
cnd v2
(aIdx 2 (f.r 0) (f.r 5) fun v3 =>
aLoad true 2 v3 h fun v4 =>
aIdx 2 (f.r 1) (f.r 5) fun v5 =>
aLoad true 2 v5 h fun v6 =>
aBin prog .neq 53 v4 v6 fun v7 =>
cnd v7
(retL n0 K f.ds [(Value.bool false)] h)
(aBin prog .add 3 (f.r 5) (vint 1) fun v8 =>
nx0 (RG.p (RG.p (RG.p (RG.p (RG.p (RG.p (RG.p (RG.p (RG.p (RG.p (RG.p (RG.p (RG.p (RG.p (RG.p (RG.p f 11 (f.r 5)) 12 (f.r 0)) 13 v1) 14 v2) 17 (f.r 0)) 18 (f.r 5)) 19 v3) 20 v4) 21 (f.r 1)) 22 (f.r 5)) 23 v5) 24 v6) 25 v7) 15 (f.r 5)) 16 v8) 5 v8) h))
(retL n0 K f.ds [(Value.bool true)] h)) := sub_eq pok32 ct32 (by kernel_rfl)
theorem l32_1 (hJ : Closed prog main J) {S : Type} (μ : S → Nat) (I : S → RG → List AObj → Prop) (hI : ∀ s f h,I s f h → heapOk h → n0 ≤ h.length → W prog J 26 n0 32 (subC [1,1,0,1,0,0] (codeOf f32)) f h (thenK (Nx n0 μ I s) (contX pl32 prog J 26 n0 32 ct32 [1,1,0,1,0] (codeOf f32) [] (RetQ prog [.tmp 4] n0 K))))
 {s : S} {f : RG} (hi : Gets n0 I s f h) : Sem J 26 n0 32 (subC [1,1,0,1,0] (codeOf f32)) f h (contX pl32 prog J 26 n0 32 ct32 [1,1,0,1,0] (codeOf f32) [] (RetQ prog [.tmp 4] n0 K)) :=
 loop_rule hJ mixed (b := subC [1,1,0,1,0,0] (codeOf f32)) (by kernel_rfl) μ I hI hi
end
end Go.Proofs.Ytkbfhelfnagccaa
