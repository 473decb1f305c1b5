/- Parts of the proof, 3. No conditions. -/
import Derived.Test.YtcmgjbflljmphaaGreatDoorK2
import Derived.Conc.Holds
import Derived.Conc.Beside
import Derived.Conc.CrowdComm
import Derived.Conc.TokenTrace
import Derived.Conc.Own2
namespace Go.Proofs.YtcmgjbflljmphaaGreatDoor
open Go.Conc Go.Proofs.Tryz
set_option maxRecDepth 100000
set_option maxHeartbeats 4000000
set_option linter.unusedVariables false
section
variable {main : Bool} {J : JT} {n0 : Nat} {h : List AObj} {K : Value → List AObj → Prop}
theorem at16 : prog.funcs[16]? = some f16 := by kernel_rfl
theorem body16 : f16.body = some (codeOf f16) := by kernel_rfl
def pl16 : Plans := []
def ct16 : Cuts := .go
theorem pok16 : plansOk prog pl16 (codeOf f16) = true := by kernel_rfl
theorem e16 : W prog J 6 h.length 16 (codeOf f16) (RG.mk (regs []) []) h (RetQ prog [.cell 0 26] h.length K) =
(aAlloc [(vint 0),(vint 0),(vint 0),(Value.slice none 0 0)] h fun v1 h2 =>
 aFill [(vint 0),(vint 0),(vint 0)] [(0,1,(vint 6)),(1,1,(vint 10)),(2,1,(vint 3))] fun c3 =>
 aFill [(vint 0),(vint 0)] [(0,1,(vint 4)),(1,1,(vint 3))] fun c4 =>
 aFill [(vint 0),(vint 0)] [(0,1,(vint 5)),(1,1,(vint 4))] fun c5 =>
(((2 * 2 : Nat) ≤ 16777216 ∧ (2 : Nat) ≤ 16777216 ∧ List.length [(vint 0),(vint 0)] = 2) ∧ aFill (zrep [(vint 0),(vint 0)] 2) [(0,2,(Value.agg ⟨c4⟩)),(2,2,(Value.agg ⟨c5⟩))] fun c6 =>
 aNewS 2 c6 h2 fun v7 h8 =>
 aFill [(vint 0),(vint 0),(vint 0),(Value.slice none 0 0)] [(0,3,(Value.agg ⟨c3⟩)),(3,1,v7)] fun c9 =>
 aStore 4 v1 (Value.agg ⟨c9⟩) h8 fun h10 =>
 RetQ prog [.cell 0 26] h.length K .ret (RG.p (RG.p (RG.p (RG.p (RG.p (RG.p (RG.mk (regs []) []) 0 v1) 1 (Value.agg ⟨c3⟩)) 2 (Value.agg ⟨c4⟩)) 3 (Value.agg ⟨c5⟩)) 4 v7) 5 (Value.agg ⟨c9⟩)) h10)) := top_eq pok16 ct16 (by kernel_rfl)
theorem g16 (hJ : Closed prog main J) (hs : heapOk h → W prog J 6 h.length 16 (codeOf f16) (RG.mk (regs []) []) h (RetQ prog [.cell 0 26] h.length K)) : Good prog J 16 [] h K :=
 good_of_W hJ mixed at16 body16 (by kernel_rfl) (Nat.le_of_ble_eq_true rfl) hs
theorem at6 : prog.funcs[6]? = some f6 := by kernel_rfl
theorem body6 : f6.body = some (codeOf f6) := by kernel_rfl
def pl6 : Plans := []
def ct6 : Cuts := .go
theorem pok6 : plansOk prog pl6 (codeOf f6) = true := by kernel_rfl
theorem e6 : W prog J 89 h.length 6 (codeOf f6) (RG.mk (regs []) []) h (RetQ prog [.tmp 0] h.length K) =
(Good prog J 16 [] h fun v1 h2 =>
(((3 * 1 : Nat) ≤ 16777216 ∧ (3 : Nat) ≤ 16777216 ∧ List.length [(vint 0)] = 1) ∧ aFill (zrep [(vint 0)] 3) [(0,1,(vint 0)),(1,1,(vint 1)),(2,1,(vint (-1)))] fun c3 =>
 aNewS 3 c3 h2 fun v4 h5 =>
 Good prog J 15 [v1,v4,(vint 4)] h5 fun v6 h7 =>
 aExt v6 0 fun v8 =>
 aExt v6 1 fun v9 =>
 Good prog J 16 [] h7 fun v10 h11 =>
(((2 * 1 : Nat) ≤ 16777216 ∧ (2 : Nat) ≤ 16777216 ∧ List.length [(vint 0)] = 1) ∧ aFill (zrep [(vint 0)] 2) [(0,1,(vint 0)),(1,1,(vint 1))] fun c12 =>
 aNewS 2 c12 h11 fun v13 h14 =>
 Good prog J 17 [v10,v13] h14 fun v15 h16 =>
 aExt v15 0 fun v17 =>
 aExt v15 1 fun v18 =>
 Good prog J 16 [] h16 fun v19 h20 =>
 Good prog J 18 [v19] h20 fun v21 h22 =>
 aExt v21 0 fun v23 =>
 aExt v21 1 fun v24 =>
 Good prog J 16 [] h22 fun v25 h26 =>
(((2 * 1 : Nat) ≤ 16777216 ∧ (2 : Nat) ≤ 16777216 ∧ List.length [(vint 0)] = 1) ∧ aFill (zrep [(vint 0)] 2) [(0,1,(vint 2)),(1,1,(vint 0))] fun c27 =>
 aNewS 2 c27 h26 fun v28 h29 =>
 Good prog J 19 [v25,v28] h29 fun v30 h31 =>
 aExt v30 0 fun v32 =>
 aExt v30 1 fun v33 =>
 aExt v30 2 fun v34 =>
 Good prog J 16 [] h31 fun v35 h36 =>
 aField true 3 0 v35 fun v37 =>
 Good prog J 21 [] h36 fun v38 h39 =>
 Good prog J 22 [] h39 fun v40 h41 =>
 Good prog J 20 [v37,v38,v40,(vint 0),(vint 3)] h41 fun v42 h43 =>
 aExt v42 0 fun v44 =>
 aExt v42 1 fun v45 =>
 aBin prog .eql 35 v9 (vint 0) fun v46 =>
 cnd v46
(aBin prog .eql 35 v18 (vint 0) fun v47 =>
 cnd v47
(aBin prog .eql 35 v24 (vint 0) fun v48 =>
 cnd v48
(aBin prog .eql 35 v34 (vint 0) fun v49 =>
 cnd v49
(aBin prog .eql 35 v45 (vint 0) fun v50 =>
 cnd v50
(aBin prog .eql 3 v17 (vint 2) fun v51 =>
 cnd v51
(aBin prog .eql 3 v33 (vint 0) fun v52 =>
 cnd v52
(aBin prog .eql 3 v44 (vint 4) fun v53 =>
 cnd v53
((((4 * 1 : Nat) ≤ 16777216 ∧ (4 : Nat) ≤ 16777216 ∧ List.length [(vint 0)] = 1) ∧ aFill (zrep [(vint 0)] 4) [(0,1,(vint 5)),(1,1,(vint 3)),(2,1,(vint 6)),(3,1,(vint 5))] fun c54 =>
 aNewS 4 c54 h43 fun v55 h56 =>
 Good prog J 23 [v8,v55] h56 fun v57 h58 =>
 cnd v57
((((3 * 1 : Nat) ≤ 16777216 ∧ (3 : Nat) ≤ 16777216 ∧ List.length [(vint 0)] = 1) ∧ aFill (zrep [(vint 0)] 3) [(0,1,(vint (-1))),(1,1,(vint 0)),(2,1,(vint 1))] fun c59 =>
 aNewS 3 c59 h58 fun v60 h61 =>
 Good prog J 23 [v23,v60] h61 fun v62 h63 =>
 cnd v62
((((2 * 1 : Nat) ≤ 16777216 ∧ (2 : Nat) ≤ 16777216 ∧ List.length [(vint 0)] = 1) ∧ aFill (zrep [(vint 0)] 2) [(0,1,(vint 1)),(1,1,(vint 0))] fun c64 =>
 aNewS 2 c64 h63 fun v65 h66 =>
 Good prog J 23 [v32,v65] h66 fun v67 h68 =>
 retL h.length K [] [v67] h68))
(retL h.length K [] [(Value.bool false)] h63)))
(retL h.length K [] [(Value.bool false)] h58)))
(retL h.length K [] [(Value.bool false)] h43))
(retL h.length K [] [(Value.bool false)] h43))
(retL h.length K [] [(Value.bool false)] h43))
(retL h.length K [] [(Value.bool false)] h43))
(retL h.length K [] [(Value.bool false)] h43))
(retL h.length K [] [(Value.bool false)] h43))
(retL h.length K [] [(Value.bool false)] h43))
(retL h.length K [] [(Value.bool false)] h43))))) := top_eq pok6 ct6 (by kernel_rfl)
theorem g6 (hJ : Closed prog main J) (hs : heapOk h → W prog J 89 h.length 6 (codeOf f6) (RG.mk (regs []) []) h (RetQ prog [.tmp 0] h.length K)) : Good prog J 6 [] h K :=
 good_of_W hJ mixed at6 body6 (by kernel_rfl) (Nat.le_of_ble_eq_true rfl) hs
end
section
variable {main : Bool} {J : JT} {n0 : Nat} {h : List AObj} {K : Value → List AObj → Prop}
section
variable {Sx : RG → List AObj → Prop}
theorem at19 : prog.funcs[19]? = some f19 := by kernel_rfl
theorem body19 : f19.body = some (codeOf f19) := by kernel_rfl
def pl19 : Plans := []
def ct19 : Cuts := .go
theorem pok19 : plansOk prog pl19 (trunc 6 (codeOf f19)) = true := by kernel_rfl
theorem e19 {a0 a1 : Value} : W prog J 109 h.length 19 (trunc 6 (codeOf f19)) (RG.mk (regs [a0,a1]) []) h (thenK Sx (RetQ prog [.tmp 4,.tmp 5,.tmp 6] h.length K)) =
(aBox a0 h fun v1 h2 =>
 aBox a1 h2 fun v3 h4 =>
 aLoad true 4 v1 h4 fun v5 =>
 Good prog J 27 [v5] h4 fun v6 h7 =>
 aBin prog .neq 35 v6 (vint 0) fun v8 =>
 cnd v8
(retL h.length K [] [(Value.slice none 0 0),(vint 0),v6] h7)
(aLoad false 1 v3 h7 fun v9 =>
 aLenS v9 fun v10 =>
 aOff v1 3 fun v11 =>
 aLoad false 1 v11 h7 fun v12 =>
 aLenS v12 fun v13 =>
 aOff v1 3 fun v14 =>
 aLoad false 1 v14 h7 fun v15 =>
 aLenS v15 fun v16 =>
 Good prog J 42 [v10,v13,v16] h7 fun v17 h18 =>
 aBin prog .neq 35 v17 (vint 0) fun v19 =>
 cnd v19
(retL h.length K [] [(Value.slice none 0 0),(vint 0),v17] h18)
(aLoad false 1 v3 h18 fun v20 =>
 aLenS v20 fun v21 =>
 Sem J 109 h.length 19 (subC yp0 (trunc 6 (codeOf f19))) (RG.p (RG.p (RG.p (RG.p (RG.p (RG.p (RG.p (RG.p (RG.p (RG.p (RG.p (RG.p (RG.p (RG.p (RG.p (RG.p (RG.p (RG.p (RG.p (RG.p (RG.p (RG.p (RG.p (RG.p (RG.p (RG.mk (regs [a0,a1]) []) 2 v1) 3 v3) 4 (Value.slice none 0 0)) 5 (vint 0)) 6 (vint 0)) 20 v5) 21 v6) 7 v6) 22 v6) 23 v8) 25 v9) 26 v10) 27 v11) 28 v12) 29 v13) 30 v14) 31 v15) 32 v16) 33 v17) 8 v17) 34 v17) 35 v19) 37 v20) 38 v21) 39 (vint 0)) h18 (contX pl19 prog J 109 h.length 19 ct19 yp0 (trunc 6 (codeOf f19)) [] (thenK Sx (RetQ prog [.tmp 4,.tmp 5,.tmp 6] h.length K)))))) := top_eq pok19 ct19 (by kernel_rfl)
theorem s19_1 {f : RG} {nx0 : RG → List AObj → Prop} : W prog J 109 n0 19 (subC yp3 (trunc 6 (codeOf f19))) f h (thenK nx0 (contX pl19 prog J 109 n0 19 ct19 yp0 (trunc 6 (codeOf f19)) [] (thenK Sx (RetQ prog [.tmp 4,.tmp 5,.tmp 6] n0 K)))) =
(aBin prog .lss 3 (f.r 39) (f.r 38) fun v1 =>
 cnd v1
(aIdx 1 (f.r 37) (f.r 39) fun v2 =>
 aLoad false 1 v2 h fun v3 =>
 Good prog J 37 [v3,(vint 0),(vint 48)] h fun v4 h5 =>
 aUn .not v4 fun v6 =>
 cnd v6
(retL n0 K f.ds [(Value.slice none 0 0),(vint 0),(vint 1)] h5)
(aBin prog .add 3 (f.r 39) (vint 1) fun v7 =>
 nx0 (RG.p (RG.p (RG.p (RG.p (RG.p (RG.p (RG.p (RG.p (RG.p f 40 v1) 41 v2) 42 v3) 10 v3) 43 v3) 44 v4) 45 v6) 46 v7) 39 v7) h5))
(aLoad false 1 (f.r 3) h fun v8 =>
 aLenS v8 fun v9 =>
 Good prog J 43 [v9,(Value.slice none 0 0)] h fun v10 h11 =>
((16 : Nat) ≤ 1024 ∧ aMkC (vint 0) h11 fun v12 h13 =>
 aAlloc [(Value.chan none)] h13 fun v14 h15 =>
 aStore 1 v14 v12 h15 fun h16 =>
 Sx (RG.p (RG.p (RG.p (RG.p (RG.p (RG.p (RG.p f 40 v1) 47 v8) 48 v9) 49 v10) 11 v10) 50 v12) 12 v14) h16))) := sub_eq pok19 ct19 (by kernel_rfl)
theorem l19_1 (hJ : Closed prog main J) {S : Type} (μ : S → Nat) (I : S → RG → List AObj → Prop) (hI : ∀ s f h,I s f h → heapOk h → n0 ≤ h.length → W prog J 109 n0 19 (subC yp3 (trunc 6 (codeOf f19))) f h (thenK (Nx n0 μ I s) (contX pl19 prog J 109 n0 19 ct19 yp0 (trunc 6 (codeOf f19)) [] (thenK Sx (RetQ prog [.tmp 4,.tmp 5,.tmp 6] n0 K)))))
 {s : S} {f : RG} (hi : Gets n0 I s f h) : Sem J 109 n0 19 (subC yp0 (trunc 6 (codeOf f19))) f h (contX pl19 prog J 109 n0 19 ct19 yp0 (trunc 6 (codeOf f19)) [] (thenK Sx (RetQ prog [.tmp 4,.tmp 5,.tmp 6] n0 K))) :=
 loop_rule hJ mixed (b := subC yp3 (trunc 6 (codeOf f19))) (by kernel_rfl) μ I hI hi
end
theorem q19_1 {f : RG} {fr : FuncId} {Q : QT} : W prog J 109 n0 fr (subC [1,1,1,1,1,1,0,0] (codeOf f19)) f h Q =
(aLenS (f.r 11) fun v1 =>
 Q .normal (RG.p (RG.p (RG.p f 51 (f.r 11)) 52 v1) 53 (vint 0)) h) := by kernel_rfl
theorem q19_2 {f : RG} {fr : FuncId} {Q : QT} : W prog J 109 n0 fr (subC [1,1,1,1,1,1,0,1,0,0,0] (codeOf f19)) f h Q =
(aBin prog .lss 3 (f.r 53) (f.r 52) fun v1 =>
 Q .normal (RG.p f 54 v1) h) := by kernel_rfl
theorem q19_3 {f : RG} {fr : FuncId} {Q : QT} : W prog J 109 n0 fr (subC [1,1,1,1,1,1,0,1,0,0,1,0] (codeOf f19)) f h Q =
(cnd (f.r 54)
(Q .normal f h)
(Q (.exit 2) f h)) := by kernel_rfl
theorem q19_4 {f : RG} {fr : FuncId} {Q : QT} : W prog J 109 n0 fr (subC [1,1,1,1,1,1,0,1,0,0,1,1,0,0,0] (codeOf f19)) f h Q =
(aIdx 1 (f.r 51) (f.r 53) fun v1 =>
 aLoad false 1 v1 h fun v2 =>
 aAlloc [(vint 0)] h fun v3 h4 =>
 aAlloc [(Value.slice none 0 0)] h4 fun v5 h6 =>
 aStore 1 v3 (f.r 53) h6 fun h7 =>
 aStore 1 v5 v2 h7 fun h8 =>
 Q .normal (RG.p (RG.p (RG.p (RG.p (RG.p f 55 (f.r 53)) 56 v1) 57 v2) 13 v3) 14 v5) h8) := by kernel_rfl
theorem q19_5 {f : RG} {fr : FuncId} {Q : QT} : W prog J 109 n0 fr (subC [1,1,1,1,1,1,0,1,0,0,1,1,1] (codeOf f19)) f h Q =
(aBin prog .add 3 (f.r 53) (vint 1) fun v1 =>
 Q .normal (RG.p (RG.p f 59 v1) 53 v1) h) := by kernel_rfl
theorem q19_6 {f : RG} {fr : FuncId} {Q : QT} : W prog J 109 n0 fr (subC [1,1,1,1,1,1,1,0] (codeOf f19)) f h Q =
(aLenS (f.r 11) fun v1 =>
((List.length [(vint 0)] = 1 ∧ (8 : Nat) ≤ 1024) ∧ aMkS [(vint 0)] v1 v1 h fun v2 h3 =>
 Q .normal (RG.p (RG.p (RG.p (RG.p f 60 (f.r 11)) 61 v1) 62 v2) 15 v2) h3)) := by kernel_rfl
theorem q19_7 {f : RG} {fr : FuncId} {Q : QT} : W prog J 109 n0 fr (subC yp7 (codeOf f19)) f h Q =
(aLenS (f.r 11) fun v1 =>
 Q .normal (RG.p (RG.p (RG.p f 63 (f.r 11)) 64 v1) 65 (vint 0)) h) := by kernel_rfl
theorem q19_8 {f : RG} {fr : FuncId} {Q : QT} : W prog J 109 n0 fr (subC [1,1,1,1,1,1,1,1,0,1,0,0,0] (codeOf f19)) f h Q =
(aBin prog .lss 3 (f.r 65) (f.r 64) fun v1 =>
 Q .normal (RG.p f 66 v1) h) := by kernel_rfl
theorem q19_9 {f : RG} {fr : FuncId} {Q : QT} : W prog J 109 n0 fr (subC [1,1,1,1,1,1,1,1,0,1,0,0,1,0] (codeOf f19)) f h Q =
(cnd (f.r 66)
(Q .normal f h)
(Q (.exit 4) f h)) := by kernel_rfl
theorem q19_10 {f : RG} {fr : FuncId} {Q : QT} : W prog J 109 n0 fr (subC [1,1,1,1,1,1,1,1,0,1,0,0,1,1,0,0,1] (codeOf f19)) f h Q =
(aOff (f.r 16) 0 fun v1 =>
 aLoad false 1 v1 h fun v2 =>
 aOff (f.r 16) 1 fun v3 =>
 aLoad false 1 v3 h fun v4 =>
 aIdx 1 (f.r 15) v2 fun v5 =>
 aStore 1 v5 v4 h fun h6 =>
 Q .normal (RG.p (RG.p (RG.p (RG.p (RG.p (RG.p f 69 (f.r 15)) 70 v1) 71 v2) 72 v3) 73 v4) 74 v5) h6) := by kernel_rfl
theorem q19_11 {f : RG} {fr : FuncId} {Q : QT} : W prog J 109 n0 fr (subC [1,1,1,1,1,1,1,1,0,1,0,0,1,1,1] (codeOf f19)) f h Q =
(aBin prog .add 3 (f.r 65) (vint 1) fun v1 =>
 Q .normal (RG.p (RG.p f 75 v1) 65 v1) h) := by kernel_rfl
noncomputable def ops19_1 : Array Oper := opsAt [1,1,1,1,1,1,0,1,0,0,1,1,0,0,1] (codeOf f19)
theorem z19_1 : ops19_1.size = 2 := by kernel_rfl
noncomputable def p19_1_0 : Oper := opGet ops19_1 0
theorem o19_1_0 {J : JT} : ops19_1[0]? = some p19_1_0 ∧ p19_1_0.dst = some 58 ∧ dstOk 109 p19_1_0 = true ∧ (∀ r,gd ops19_1 p19_1_0 r = some true) ∧ (∀ (f : RG) (h : List AObj) (H : Value → List AObj → Prop),opW prog (Good prog J) p19_1_0 f.r h H = (aMkF 44 [] [(f.r 12),(f.r 13),(f.r 2),(f.r 3),(f.r 14)] fun v1 =>
 H v1 h)) := ⟨by kernel_rfl,by kernel_rfl,by kernel_rfl,fun _ => by kernel_rfl,fun _ _ _ => by kernel_rfl⟩
noncomputable def p19_1_1 : Oper := opGet ops19_1 1
theorem o19_1_1 {J : JT} : ops19_1[1]? = some p19_1_1 ∧ p19_1_1.dst = none ∧ dstOk 109 p19_1_1 = true ∧ (∀ r,gd ops19_1 p19_1_1 r = some true) ∧ (p19_1_1.op = (Go.Op.go { callee := (Go.Callee.value (Go.Operand.tmp 58)),args := #[],argTypes := #[] })) := ⟨by kernel_rfl,by kernel_rfl,by kernel_rfl,fun _ => by kernel_rfl,by kernel_rfl⟩
noncomputable def ops19_2 : Array Oper := opsAt [1,1,1,1,1,1,1,1,0,1,0,0,1,1,0,0,0] (codeOf f19)
theorem z19_2 : ops19_2.size = 4 := by kernel_rfl
noncomputable def p19_2_0 : Oper := opGet ops19_2 0
theorem o19_2_0 {J : JT} : ops19_2[0]? = some p19_2_0 ∧ p19_2_0.dst = some 67 ∧ dstOk 109 p19_2_0 = true ∧ (∀ r,gd ops19_2 p19_2_0 r = some true) ∧ (∀ (f : RG) (h : List AObj) (H : Value → List AObj → Prop),opW prog (Good prog J) p19_2_0 f.r h H = (aLoad false 1 (f.r 12) h fun v1 =>
 H v1 h)) := ⟨by kernel_rfl,by kernel_rfl,by kernel_rfl,fun _ => by kernel_rfl,fun _ _ _ => by kernel_rfl⟩
noncomputable def p19_2_1 : Oper := opGet ops19_2 1
theorem o19_2_1 {J : JT} : ops19_2[1]? = some p19_2_1 ∧ p19_2_1.dst = some 68 ∧ dstOk 109 p19_2_1 = true ∧ (∀ r,gd ops19_2 p19_2_1 r = some true) ∧ (p19_2_1.op = (Go.Op.recv 93 (Go.Operand.tmp 67) false)) := ⟨by kernel_rfl,by kernel_rfl,by kernel_rfl,fun _ => by kernel_rfl,by kernel_rfl⟩
noncomputable def p19_2_2 : Oper := opGet ops19_2 2
theorem o19_2_2 {J : JT} : ops19_2[2]? = some p19_2_2 ∧ p19_2_2.dst = some 16 ∧ dstOk 109 p19_2_2 = true ∧ (∀ r,gd ops19_2 p19_2_2 r = some true) ∧ (∀ (f : RG) (h : List AObj) (H : Value → List AObj → Prop),opW prog (Good prog J) p19_2_2 f.r h H = (aAlloc [(vint 0),(vint 0)] h fun v1 h2 =>
 H v1 h2)) := ⟨by kernel_rfl,by kernel_rfl,by kernel_rfl,fun _ => by kernel_rfl,fun _ _ _ => by kernel_rfl⟩
noncomputable def p19_2_3 : Oper := opGet ops19_2 3
theorem o19_2_3 {J : JT} : ops19_2[3]? = some p19_2_3 ∧ p19_2_3.dst = none ∧ dstOk 109 p19_2_3 = true ∧ (∀ r,gd ops19_2 p19_2_3 r = some true) ∧ (∀ (f : RG) (h : List AObj) (H : Value → List AObj → Prop),opW prog (Good prog J) p19_2_3 f.r h H = (aStore 2 (f.r 16) (f.r 68) h fun h1 =>
 H unk h1)) := ⟨by kernel_rfl,by kernel_rfl,by kernel_rfl,fun _ => by kernel_rfl,fun _ _ _ => by kernel_rfl⟩
def pl19t : Plans := [(35,true,.take 0 (.take 1 (.take 2 (.take 3 (.take 4 (.take 5 (.take 6 (.take 7 (.take 8 (.take 9 (.take 10 (.fin))))))))))))]
def ct19t : Cuts := .bin (.go) (.bin (.go) (.bin (.go) (.bin (.go) (.bin (.go) (.bin (.go) (.bin (.go) (.bin (.go) (.bin (.go) (.cut (.bin (.go) (.bin (.bin (.go) (.un (.un (.bin (.go) (.bin (.go) (.bin (.un (.bin (.go) (.bin (.go) (.cut (.go))))) (.go))))))) (.go))))))))))))
theorem pok19t : plansOk prog pl19t (codeOf f19) = true := by kernel_rfl
theorem s19t_1 {f : RG} : W prog J 109 n0 19 (subC [1,1,1,1,1,1,1,1,1] (codeOf f19)) f h (contX pl19t prog J 109 n0 19 ct19t [1,1,1,1,1,1,1,1,1] (codeOf f19) [] (RetQ prog [.tmp 4,.tmp 5,.tmp 6] n0 K)) =
(aLenS (f.r 15) fun v1 =>
 Sem J 109 n0 19 (subC yp12 (codeOf f19)) (RG.p (RG.p (RG.p (RG.p f 17 (vint (-1))) 76 (f.r 15)) 77 v1) 78 (vint 0)) h (contX pl19t prog J 109 n0 19 ct19t yp12 (codeOf f19) [] (RetQ prog [.tmp 4,.tmp 5,.tmp 6] n0 K))) := sub_eq pok19t ct19t (by kernel_rfl)
theorem s19t_2 {f : RG} {nx0 : RG → List AObj → Prop} : W prog J 109 n0 19 (subC [1,1,1,1,1,1,1,1,1,1,0,1,0,0] (codeOf f19)) f h (thenK nx0 (contX pl19t prog J 109 n0 19 ct19t yp12 (codeOf f19) [] (RetQ prog [.tmp 4,.tmp 5,.tmp 6] n0 K))) =
(aBin prog .lss 3 (f.r 78) (f.r 77) fun v1 =>
 cnd v1
(aIdx 1 (f.r 76) (f.r 78) fun v2 =>
 aLoad false 1 v2 h fun v3 =>
 aBin prog .geq 3 v3 (vint 0) fun v4 =>
 cnd v4
(aBin prog .lss 3 (f.r 17) (vint 0) fun v5 =>
 cnd v5
(Hold (W prog J 109 n0 19 (subC yp4 (codeOf f19)) (RG.p (RG.p (RG.p (RG.p (RG.p (RG.p (RG.p (RG.p (RG.p (RG.p (RG.p (RG.p (RG.p (RG.p (RG.p (RG.p (RG.p (RG.p (RG.p (RG.p (RG.p (RG.p f 79 v1) 80 (f.r 78)) 81 v2) 82 v3) 18 (f.r 78)) 19 v3) 83 v3) 84 v4) 85 v4) 85 (Value.bool true)) 86 (f.r 17)) 87 v5) 88 v5) 88 (Value.bool true)) 89 undef) 90 undef) 91 undef) 92 undef) 93 undef) 94 undef) 95 (Value.bool true)) 96 (Value.bool true)) h (contX pl19t prog J 109 n0 19 ct19t yp4 (codeOf f19) [nx0] (RetQ prog [.tmp 4,.tmp 5,.tmp 6] n0 K))))
(aIdx 1 (f.r 15) (f.r 17) fun v6 =>
 aLoad false 1 v6 h fun v7 =>
 aBin prog .lss 3 v3 v7 fun v8 =>
 Hold (W prog J 109 n0 19 (subC yp4 (codeOf f19)) (RG.p (RG.p (RG.p (RG.p (RG.p (RG.p (RG.p (RG.p (RG.p (RG.p (RG.p (RG.p (RG.p (RG.p (RG.p (RG.p (RG.p (RG.p (RG.p (RG.p (RG.p (RG.p f 79 v1) 80 (f.r 78)) 81 v2) 82 v3) 18 (f.r 78)) 19 v3) 83 v3) 84 v4) 85 v4) 85 (Value.bool true)) 86 (f.r 17)) 87 v5) 88 v5) 88 (Value.bool false)) 89 v3) 90 (f.r 15)) 91 (f.r 17)) 92 v6) 93 v7) 94 v8) 95 v8) 96 v8) h (contX pl19t prog J 109 n0 19 ct19t yp4 (codeOf f19) [nx0] (RetQ prog [.tmp 4,.tmp 5,.tmp 6] n0 K)))))
(Hold (W prog J 109 n0 19 (subC yp4 (codeOf f19)) (RG.p (RG.p (RG.p (RG.p (RG.p (RG.p (RG.p (RG.p (RG.p (RG.p (RG.p (RG.p (RG.p (RG.p (RG.p (RG.p (RG.p (RG.p (RG.p (RG.p (RG.p f 79 v1) 80 (f.r 78)) 81 v2) 82 v3) 18 (f.r 78)) 19 v3) 83 v3) 84 v4) 85 v4) 85 (Value.bool false)) 86 undef) 87 undef) 88 undef) 89 undef) 90 undef) 91 undef) 92 undef) 93 undef) 94 undef) 95 undef) 96 (Value.bool false)) h (contX pl19t prog J 109 n0 19 ct19t yp4 (codeOf f19) [nx0] (RetQ prog [.tmp 4,.tmp 5,.tmp 6] n0 K)))))
(aBin prog .lss 3 (f.r 17) (vint 0) fun v9 =>
 cnd v9
(retL n0 K f.ds [(Value.slice none 0 0),(vint 0),(vint 11)] h)
(aIdx 1 (f.r 11) (f.r 17) fun v10 =>
 aLoad false 1 v10 h fun v11 =>
 aIdx 1 (f.r 15) (f.r 17) fun v12 =>
 aLoad false 1 v12 h fun v13 =>
 retL n0 K f.ds [v11,v13,(vint 0)] h))) := sub_eq pok19t ct19t (by kernel_rfl)
theorem l19t_2 (hJ : Closed prog main J) {S : Type} (μ : S → Nat) (I : S → RG → List AObj → Prop) (hI : ∀ s f h,I s f h → heapOk h → n0 ≤ h.length → W prog J 109 n0 19 (subC [1,1,1,1,1,1,1,1,1,1,0,1,0,0] (codeOf f19)) f h (thenK (Nx n0 μ I s) (contX pl19t prog J 109 n0 19 ct19t yp12 (codeOf f19) [] (RetQ prog [.tmp 4,.tmp 5,.tmp 6] n0 K))))
 {s : S} {f : RG} (hi : Gets n0 I s f h) : Sem J 109 n0 19 (subC yp12 (codeOf f19)) f h (contX pl19t prog J 109 n0 19 ct19t yp12 (codeOf f19) [] (RetQ prog [.tmp 4,.tmp 5,.tmp 6] n0 K)) :=
 loop_rule hJ mixed (b := subC [1,1,1,1,1,1,1,1,1,1,0,1,0,0] (codeOf f19)) (by kernel_rfl) μ I hI hi
theorem s19t_3 {f : RG} {nx0 : RG → List AObj → Prop} : W prog J 109 n0 19 (subC yp4 (codeOf f19)) f h (contX pl19t prog J 109 n0 19 ct19t yp4 (codeOf f19) [nx0] (RetQ prog [.tmp 4,.tmp 5,.tmp 6] n0 K)) =
(cnd (f.r 96)
(aBin prog .add 3 (f.r 78) (vint 1) fun v1 =>
 nx0 (RG.p (RG.p (RG.p (RG.p f 97 (f.r 18)) 17 (f.r 18)) 98 v1) 78 v1) h)
(aBin prog .add 3 (f.r 78) (vint 1) fun v2 =>
 nx0 (RG.p (RG.p f 98 v2) 78 v2) h)) := sub_eq pok19t ct19t (by kernel_rfl)
end
section
variable {main : Bool} {J : JT} {n0 : Nat} {h : List AObj} {K : Value → List AObj → Prop}
theorem at44 : prog.funcs[44]? = some f44 := by kernel_rfl
theorem body44 : f44.body = some (codeOf f44) := by kernel_rfl
noncomputable def ops44_1 : Array Oper := opsAt [] (codeOf f44)
theorem r44_1 : subC [] (codeOf f44) = .region 0 ops44_1 true := by kernel_rfl
theorem z44_1 : ops44_1.size = 8 := by kernel_rfl
noncomputable def p44_1_7 : Oper := opGet ops44_1 7
theorem o44_1_7 {J : JT} : ops44_1[7]? = some p44_1_7 ∧ p44_1_7.dst = none ∧ dstOk 12 p44_1_7 = true ∧ (∀ r,gd ops44_1 p44_1_7 r = some true) ∧ (p44_1_7.op = (Go.Op.send (Go.Operand.tmp 5) (Go.Operand.tmp 11))) := ⟨by kernel_rfl,by kernel_rfl,by kernel_rfl,fun _ => by kernel_rfl,by kernel_rfl⟩
end
end Go.Proofs.YtcmgjbflljmphaaGreatDoor
namespace Go.Proofs.YtcmgjbflljmphaaGreatDoor
open Go.Conc
section
variable {P : Program} {t : TypeId} {K : Value → Prop} {H : Value → List AObj → Prop} {k : IntKind} {a b : Int} {p : Prop} [Decidable p] {A B : Prop} {h : List AObj}
theorem cnd_dec : cnd (.bool (decide p)) A B ↔ (p → A) ∧ (¬p → B) := by by_cases h : p <;> simp [cnd,h]
theorem cnd_ndec : cnd (.bool (!decide p)) A B ↔ (¬p → A) ∧ (p → B) := by by_cases h : p <;> simp [cnd,h]
theorem cnd_bool {b : Bool} : cnd (.bool b) A B ↔ (b = true → A) ∧ (b = false → B) := by cases b <;> simp [cnd]
theorem cnd_true : cnd (.bool true) A B ↔ A := by simp [cnd]
theorem cnd_false : cnd (.bool false) A B ↔ B := by simp [cnd]
theorem b_lss : aBin P .lss t (.int k a) (.int k b) K = K (.bool (decide (a < b))) := by simp [aBin,aInt]
theorem b_leq : aBin P .leq t (.int k a) (.int k b) K = K (.bool (decide (a ≤ b))) := by simp [aBin,aInt]
theorem b_gtr : aBin P .gtr t (.int k a) (.int k b) K = K (.bool (decide (a > b))) := by simp [aBin,aInt]
theorem b_geq : aBin P .geq t (.int k a) (.int k b) K = K (.bool (decide (a ≥ b))) := by simp [aBin,aInt]
theorem b_eql : aBin P .eql t (.int k a) (.int k b) K = K (.bool (decide (a = b))) := by simp [aBin,aInt]; rfl
theorem b_neq : aBin P .neq t (.int k a) (.int k b) K = K (.bool (decide (a ≠ b))) := by simp [aBin,aInt]; rfl
theorem wrap64 {n : Int} (h1 : -9223372036854775808 ≤ n) (h2 : n < 9223372036854775808) : IntKind.i64.wrap n = n := by
 simp only [IntKind.wrap,IntKind.bits,IntKind.signed]
 simp
 split <;> omega
theorem b_add (h : -9223372036854775808 ≤ a + b ∧ a + b < 9223372036854775808) : aBin P .add t (vint a) (vint b) K = K (vint (a + b)) := by simp [aBin,aInt,vint,wrap64 h.1 h.2]
theorem b_sub (h : -9223372036854775808 ≤ a - b ∧ a - b < 9223372036854775808) : aBin P .sub t (vint a) (vint b) K = K (vint (a - b)) := by simp [aBin,aInt,vint,wrap64 h.1 h.2]
theorem b_mul (h : -9223372036854775808 ≤ a * b ∧ a * b < 9223372036854775808) : aBin P .mul t (vint a) (vint b) K = K (vint (a * b)) := by simp [aBin,aInt,vint,wrap64 h.1 h.2]
theorem idx_ok {s b o n c : Nat} {j : Int} : aIdx s (.slice (some ⟨b,o,none⟩) n c) (vint j) K = ((0 ≤ j ∧ j < n) ∧ K (ptr b (o + j.toNat * s))) := rfl
theorem load_cell {b o s : Nat} {c : List Value} {wr : Bool} {sz : Nat} {v : Value} (hb : h[b]? = some (.cells c wr sz)) (hv : c[o]? = some v) (hn : kn1 v = true) {K : Value → Prop} : aLoad false s (ptr b o) h K = K v := by
 simp [aLoad,hb,hv,hn]
theorem store_cell {b o : Nat} {c : List Value} {sz : Nat} {v : Value} (hb : h[b]? = some (.cells c true sz)) (ho : o < c.length) (h1 : v.cells = #[v]) (h2 : one v = true) {K : List AObj → Prop} (hk : K (h.set b (.cells (c.set o v) true sz))) : aStore 1 (ptr b o) v h K := by
 simp [aStore,hb,h1,h2,wrAt]
 exact ⟨ho,hk⟩
theorem sub_id {n : Nat} {v : Value} (h : VOk n v) : sub id v = v := sub_same (n := n) (fun _ _ => rfl) v h
theorem gc_drop {n0 : Nat} {g : List AObj} (ok : heapOk h) (hn : n0 ≤ h.length) : GC n0 id (h ++ g) h :=
 ⟨hn,fun _ _ => rfl,fun i o hi => .inr (by
  rw [subO_same (σ := id) (n := h.length) (fun _ _ => rfl) (ok i o hi)]
  have : i < h.length := by
   rcases Nat.lt_or_ge i h.length with x | x
   ·exact x
   ·rw [List.getElem?_eq_none x] at hi; cases hi
  simp only [id]
  rw [List.getElem?_append_left this]
  exact hi),fun i j _ _ _ _ _ _ e => e,ok⟩
theorem objOk_mono {n m : Nat} (hn : n ≤ m) {o : AObj} (ho : objOk n o) : objOk m o := by
 cases o with
 | dead => trivial
 | deferred => trivial
 | chan cap => trivial
 | group x => trivial
 | place t => trivial
 | iter m k sn => exact Nat.lt_of_lt_of_le ho hn
 | typed own t c row => exact LOk.mono hn c ho
 | cells c wr sz => exact LOk.mono hn c ho
 | map es wr => exact fun e he => ⟨(ho e he).1,VOk.mono hn _ (ho e he).2⟩
 | loop st pend fn r size params assign body dfr => exact ⟨fun t => (ho.1 t).imp id (VOk.mono hn _),Nat.lt_of_lt_of_le ho.2 hn⟩
theorem retL_same {n0 : Nat} {vs : List Value} (hv : ∀ v ∈ vs,v ≠ unk) (hk : H (pack vs) h) : retL n0 H [] vs h := by
 unfold retL takeW
 have : ∀ (l : List Value) (p : Prop),(∀ v ∈ l,v ≠ unk) → p → nuK l p := by
  intro l
  induction l with
  | nil => intro p _ hp; exact hp
  | cons v l ih => intro p h hp; exact ⟨h v (by simp),ih p (fun u hu => h u (by simp [hu])) hp⟩
 exact this vs _ hv (.inl hk)
theorem retL_drop {n0 : Nat} {g : List AObj} {vs : List Value} (ok : heapOk h) (hn : n0 ≤ h.length) (hv : ∀ v ∈ vs,v ≠ unk) (hw : VOk h.length (pack vs)) (hk : H (pack vs) h) : retL n0 H [] vs (h ++ g) := by
 unfold retL takeW
 have : ∀ (l : List Value) (p : Prop),(∀ v ∈ l,v ≠ unk) → p → nuK l p := by
  intro l
  induction l with
  | nil => intro p _ hp; exact hp
  | cons v l ih => intro p h hp; exact ⟨h v (by simp),ih p (fun u hu => h u (by simp [hu])) hp⟩
 exact this vs _ hv (.inr ⟨id,h,pack vs,gc_drop ok hn,(sub_id hw).symm,hw,hk⟩)
def Sli (h : List AObj) (v : Value) (s n : Nat) (cells : List Value) : Prop :=
 ∃ base c,v = .slice base n c ∧ (cells.length = n * s ∧ kn cells = true) ∧ ((base = none ∧ n = 0) ∨ ∃ b o,base = some ⟨b,o,none⟩ ∧ (n = 0 ∨ ∃ cs wr sz,h[b]? = some (.cells cs wr sz) ∧ (cs.drop o).take (n * s) = cells))
theorem sli_len {v : Value} {s n : Nat} {cells : List Value} (hs : Sli h v s n cells) : aLenS v K = K (vint n) := by
 obtain ⟨base,c,rfl,_⟩ := hs
 rfl
theorem sli_get {v : Value} {s n : Nat} {cells : List Value} (hs : Sli h v s n cells) {i : Int} (hi : 0 ≤ i ∧ i < n) :
  ∃ b o cs wr sz c,v = .slice (some ⟨b,o,none⟩) n c ∧ h[b]? = some (.cells cs wr sz) ∧ ∀ j x,cells[j]? = some x → cs[o + j]? = some x := by
 obtain ⟨base,c,rfl,⟨hl,hkn⟩,hc⟩ := hs
 rcases hc with ⟨_,h0⟩ | ⟨b,o,rfl,h0 | ⟨cs,wr,sz,hb,rfl⟩⟩
 ·omega
 ·omega
 ·refine ⟨b,o,cs,wr,sz,c,rfl,hb,fun j x hx => ?_⟩
  rw [List.getElem?_take] at hx
  split at hx
  ·rw [List.getElem?_drop] at hx
   exact hx
  ·cases hx
theorem idx_load {v : Value} {n : Nat} {cells : List Value} {i : Int} {x : Value} {K : Value → Value → Prop} (hs : Sli h v 1 n cells) (hi : 0 ≤ i ∧ i < n) (hx : cells[i.toNat]? = some x) (hk : ∀ p,K p x) :
  aIdx 1 v (vint i) fun p => aLoad false 1 p h (K p) := by
 obtain ⟨b,o,cs,wr,sz,c,rfl,hb,hg⟩ := sli_get hs hi
 rw [idx_ok]
 refine ⟨hi,?_⟩
 rw [load_cell hb (by simpa using hg _ _ hx) (by
  obtain ⟨_,_,_,⟨_,hkn⟩,_⟩ := hs
  exact kn_get hkn hx)]
 exact hk _
theorem sli_app {v : Value} {s n : Nat} {cells : List Value} {g : List AObj} (hs : Sli h v s n cells) : Sli (h ++ g) v s n cells := by
 obtain ⟨base,c,rfl,⟨hl,hkn⟩,hc⟩ := hs
 refine ⟨base,c,rfl,⟨hl,hkn⟩,?_⟩
 rcases hc with h0 | ⟨b,o,rfl,h0 | ⟨cs,wr,sz,hb,hx⟩⟩
 ·exact .inl h0
 ·exact .inr ⟨b,o,rfl,.inl h0⟩
 ·refine .inr ⟨b,o,rfl,.inr ⟨cs,wr,sz,?_,hx⟩⟩
  have : b < h.length := by
   rcases Nat.lt_or_ge b h.length with x | x
   ·exact x
   ·rw [List.getElem?_eq_none x] at hb; cases hb
  rw [List.getElem?_append_left this]
  exact hb
theorem sli_new {b n c : Nat} {cells : List Value} {wr : Bool} {sz : Nat} (hb : h[b]? = some (.cells cells wr sz)) (hl : cells.length = n) (hk : kn cells = true) : Sli h (.slice (some ⟨b,0,none⟩) n c) 1 n cells :=
 ⟨_,c,rfl,⟨by omega,hk⟩,.inr ⟨b,0,rfl,.inr ⟨cells,wr,sz,hb,by simp [← hl]⟩⟩⟩
theorem sli_nil {s : Nat} : Sli h (.slice none 0 0) s 0 [] := ⟨none,0,rfl,⟨by simp,rfl⟩,.inl ⟨rfl,rfl⟩⟩
theorem sli_vlen {v : Value} {s n : Nat} {cells : List Value} (hs : Sli h v s n cells) : cells.length = n * s := by
 obtain ⟨_,_,_,⟨hl,_⟩,_⟩ := hs
 exact hl
theorem src_sli {v : Value} {s n : Nat} {cells : List Value} {K : List Value → Prop} (hs : Sli h v s n cells) (hsp : 0 < s) (hk : K cells) : srcCells s n v h K := by
 obtain ⟨base,c,rfl,⟨hl,hkn⟩,hc⟩ := hs
 rcases hc with ⟨rfl,rfl⟩ | ⟨b,o,rfl,h0 | ⟨cs,wr,sz,hb,rfl⟩⟩
 ·have : cells = [] := List.length_eq_zero_iff.1 (by omega)
  subst this
  exact ⟨rfl,hk⟩
 ·subst h0
  have : cells = [] := List.length_eq_zero_iff.1 (by omega)
  subst this
  exact ⟨fun _ => hk,fun x => absurd rfl x⟩
 ·by_cases h0 : n = 0
  ·subst h0
   exact ⟨fun _ => by simpa using hk,fun x => absurd rfl x⟩
  ·refine ⟨fun x => absurd x h0,fun _ => ?_⟩
   simp only [hb]
   refine ⟨?_,hkn,hk⟩
   rw [List.length_take,List.length_drop] at hl
   have := Nat.mul_pos (Nat.pos_of_ne_zero h0) hsp
   omega
theorem app_nil {s m : Nat} {y : Value} {ys : List Value} (hsp : 0 < s) (hy : Sli h y s m ys) (hm : m ≤ room) (h0 : m = 0 → H (.slice none 0 0) h) (h1 : m ≠ 0 → H (.slice (some ⟨h.length,0,none⟩) m fz) (h ++ [.cells ys true s])) : aApp s (.slice none 0 0) y h H := by
 have hy' := hy
 obtain ⟨yb,yc,rfl,_⟩ := hy
 exact ⟨by omega,src_sli hy' hsp ⟨⟨rfl,rfl⟩,h0,h1⟩⟩
theorem app_own {s n m b : Nat} {y : Value} {cs ys : List Value} (hb : h[b]? = some (.cells cs true s)) (hcs : n * s ≤ cs.length) (hkn : kn (cs.take (n * s)) = true) (hsp : 0 < s) (hy : Sli h y s m ys) (hm : n + m ≤ room)
  (hk : H (.slice (some ⟨h.length,0,none⟩) (n + m) fz) (h.set b .dead ++ [.cells (cs.take (n * s) ++ ys) true s])) : aApp s (.slice (some ⟨b,0,none⟩) n fz) y h H := by
 have hy' := hy
 obtain ⟨yb,yc,rfl,_⟩ := hy
 refine ⟨hm,src_sli hy' hsp ?_⟩
 simp only [hb,List.drop_zero,Nat.zero_add]
 have : s ≠ 0 := by omega
 exact ⟨⟨hcs,hkn⟩,fun x => absurd x (Nat.lt_irrefl _),fun _ => ⟨trivial,trivial,trivial,trivial,hk⟩⟩
theorem app_copy {s n m b o c : Nat} {y : Value} {cs ys : List Value} {wr : Bool} {sz : Nat} (hb : h[b]? = some (.cells cs wr sz)) (hcs : o + n * s ≤ cs.length) (hkn : kn ((cs.drop o).take (n * s)) = true) (hc : c < n + m) (hsp : 0 < s) (hy : Sli h y s m ys) (hm : n + m ≤ room)
  (hk : H (.slice (some ⟨h.length,0,none⟩) (n + m) fz) (h ++ [.cells ((cs.drop o).take (n * s) ++ ys) true s])) : aApp s (.slice (some ⟨b,o,none⟩) n c) y h H := by
 have hy' := hy
 obtain ⟨yb,yc,rfl,_⟩ := hy
 refine ⟨hm,src_sli hy' hsp ?_⟩
 simp only [hb]
 have hr : room = 1073741824 := rfl
 have hf : fz = 1180591620717411303424 := rfl
 exact ⟨⟨hcs,hkn⟩,fun _ => ⟨fun x => absurd x (by omega),fun _ => hk⟩,fun x => absurd x (by omega)⟩
theorem zrep_one {z : Value} (n : Nat) : zrep [z] n = List.replicate n z := by
 induction n with
 | zero => rfl
 | succ n ih => simp [zrep,ih,List.replicate_succ]
theorem kn_ints (l : List Int) : kn (l.map vint) = true := by
 simp [kn,kn1]
theorem map_get {l : List Int} {k : Nat} (hk : k < l.length) : (l.map vint)[k]? = some (vint (l.getD k 0)) := by
 simp [hk]
theorem wrapU (n : Int) : 0 ≤ IntKind.u64.wrap n ∧ IntKind.u64.wrap n < 18446744073709551616 := by
 simp only [IntKind.wrap,IntKind.bits,IntKind.signed]
 simp
 omega
theorem u_add (hk : ∀ y,0 ≤ y → y < 18446744073709551616 → K (.int .u64 y)) : aBin P .add t (.int .u64 a) (.int .u64 b) K := ⟨rfl,hk _ (wrapU _).1 (wrapU _).2⟩
theorem u_mul (hk : ∀ y,0 ≤ y → y < 18446744073709551616 → K (.int .u64 y)) : aBin P .mul t (.int .u64 a) (.int .u64 b) K := ⟨rfl,hk _ (wrapU _).1 (wrapU _).2⟩
theorem u_xor (hk : ∀ y,0 ≤ y → y < 18446744073709551616 → K (.int .u64 y)) : aBin P .xor t (.int .u64 a) (.int .u64 b) K := ⟨rfl,hk _ (wrapU _).1 (wrapU _).2⟩
theorem u_shl (hb : 0 ≤ b) (hk : ∀ y,0 ≤ y → y < 18446744073709551616 → K (.int .u64 y)) : aBin P .shl t (.int .u64 a) (.int k b) K := ⟨hb,hk _ (wrapU _).1 (wrapU _).2⟩
theorem u_shr (hb : 0 ≤ b) (ha : 0 ≤ a) {A : Int} (hA : a < A) (hk : ∀ y,0 ≤ y → y < A → K (.int .u64 y)) : aBin P .shr t (.int .u64 a) (.int k b) K := by
 refine ⟨hb,hk _ ?_ ?_⟩
 ·exact Int.fdiv_nonneg ha (by exact Int.le_of_lt (Int.pow_pos (by decide)))
 ·refine Int.lt_of_le_of_lt ?_ hA
  rw [Int.fdiv_eq_ediv_of_nonneg _ (Int.le_of_lt (Int.pow_pos (by decide)))]
  exact Int.ediv_le_self _ ha
def moveTo (n k : Nat) : Nat → Nat := fun i => if i = n then k else i
theorem gc_one {n0 : Nat} {g : List AObj} {k : Nat} {o : AObj} (ok : heapOk h) (hn : n0 ≤ h.length) (hk : (h ++ g)[k]? = some o) (hkn : h.length ≤ k) (ho : objOk h.length o) : GC n0 (moveTo h.length k) (h ++ g) (h ++ [o]) := by
 have hsame : Same h.length (moveTo h.length k) := fun b hb => by simp [moveTo]; omega
 refine ⟨by simp; omega,fun b hb => hsame b (by omega),fun i oi hi => .inr ?_,fun i j oi oj hi hj _ _ e => ?_,fun i oi hi => ?_⟩
 ·rcases Nat.lt_or_ge i h.length with hlt | hge
  ·rw [List.getElem?_append_left hlt] at hi
   rw [hsame i hlt,List.getElem?_append_left hlt,subO_same hsame (ok i oi hi)]
   exact hi
  ·have hil : i = h.length := by
    have := (List.getElem?_eq_some_iff.1 hi).1
    simp at this
    omega
   subst hil
   have : oi = o := by simpa using hi.symm
   subst this
   rw [subO_same hsame ho]
   simpa [moveTo] using hk
 ·have hil := (List.getElem?_eq_some_iff.1 hi).1
  have hjl := (List.getElem?_eq_some_iff.1 hj).1
  simp at hil hjl
  simp only [moveTo] at e
  split at e <;> split at e <;> omega
 ·rcases Nat.lt_or_ge i h.length with hlt | hge
  ·rw [List.getElem?_append_left hlt] at hi
   exact objOk_mono (by simp) (ok i oi hi)
  ·have hil : i = h.length := by
    have := (List.getElem?_eq_some_iff.1 hi).1
    simp at this
    omega
   subst hil
   have : oi = o := by simpa using hi.symm
   subst this
   exact objOk_mono (by simp) ho
theorem retL_one {n0 : Nat} {g : List AObj} {k : Nat} {o : AObj} {m c : Nat} (ok : heapOk h) (hn : n0 ≤ h.length) (hk : (h ++ g)[k]? = some o) (hkn : h.length ≤ k) (ho : objOk h.length o)
  (hK : H (.slice (some ⟨h.length,0,none⟩) m c) (h ++ [o])) : retL n0 H [] [.slice (some ⟨k,0,none⟩) m c] (h ++ g) := by
 refine ⟨by simp [unk],.inr ⟨moveTo h.length k,h ++ [o],.slice (some ⟨h.length,0,none⟩) m c,gc_one ok hn hk hkn ho,?_,?_,hK⟩⟩
 ·simp [pack,sub,moveTo]
 ·simp [VOk,AddrOk]
end
end Go.Proofs.YtcmgjbflljmphaaGreatDoor
namespace Go.Proofs.YtcmgjbflljmphaaGreatDoor
open Go.Conc
open Go.ConcN (sumTo upd sumTo_upd upd_ne upd_same)
def Ends (P : Program) (Post : Value → World → Prop) (m : Machine) (t : Trace) : Prop :=
 ∃ N last o w' t',runNT P (N + 1) m t = (.ended o w',t') ∧ runN P N m = .next last ∧ step P last = .ended o w' ∧ Go.Conc.Good P Post last o w' t'
structure Base (W0 w : World) : Prop where
 tape : w.tape = W0.tape
 os : w.os = W0.os
 output : w.output = W0.output
 size : W0.heap.size ≤ w.heap.size
def J1 (P : Program) (W0 : World) (Post : Value → World → Prop) (g : Goroutine) (w : World) (ft : Foot) : Prop :=
 ∀ (gs : Array Goroutine) (w₁ : World) (sl : Option (Nat × Nat)) (t : Trace) (q : Nat → Nat),(∀ b,ft.rd b → b < w₁.heap.size) → (∀ b,ft.wr b → ft.rd b) → RelyW ft w w₁ → Base W0 w₁ → gs[0]? = some g → Leavers P t gs q → Past (fun _ => False) w₁.heap.size t →
  Ends P Post (crowd gs w₁ sl) t
def TagFree (J : JT) : Prop := ∀ (g : Goroutine) (w : World) (ft : Foot) (x : Nat),J g w { ft with tag := x } → J g w ft
theorem J1.tagFree (P : Program) (W0 : World) (Post : Value → World → Prop) : TagFree (J1 P W0 Post) := fun _g _w _ft _x h gs w₁ sl t q h1 h2 h3 h4 h5 h6 h7 =>
 h gs w₁ sl t q h1 h2 ⟨h3.heap,h3.size,h3.tape,h3.os,h3.output⟩ h4 h5 h6 h7
section
variable {P : Program} {W0 : World} {Post : Value → World → Prop} {g : Goroutine} {w w₁ : World} {ft : Foot}
theorem Ends.next {m m' : Machine} {t : Trace} {ops : Array MemOp} (hs : stepT P m = (.next m',ops)) (h : Ends P Post m' (t ++ ops)) : Ends P Post m t := by
 obtain ⟨n,last,o,w,t',h1,h2,h3,h4⟩ := h
 exact ⟨n + 1,last,o,w,t',by rw [runNT_succ_next hs]; exact h1,by rw [runN_succ_next hs]; exact h2,h3,h4⟩
theorem evL_of {e : Event} {B : Nat} (he : EvOk ft e) (hb : ∀ b,ft.rd b → b < B) : EvL (fun _ => False) B e := by
 obtain ⟨loc,wr,sync⟩ := e
 unfold EvOk at he
 refine ⟨fun x _ hs => hs.elim,?_,?_,?_⟩
 ·intro hl
  simp only at hl
  subst hl
  exact he
 ·intro hl
  simp only at hl
  subst hl
  exact he
 ·cases loc with
  | cell a => exact hb _ he.2.1
  | obj r =>
   have hs : sync = false := he.1
   subst hs
   have := hb _ he.2.1
   cases wr <;> exact this
  | mark m =>
   cases m <;> first | exact he.elim | trivial
  | output => trivial
  | goroutines => trivial
theorem mem_g {i : Nat} {fn : FuncId} {pos : String} {es : Array Event} {op : MemOp} (h : op ∈ MemOp.ofEvents i fn pos es) : op.g = i := by
 rw [ofEvents_eq] at h
 obtain ⟨e,he,rfl⟩ := Array.mem_map.1 h
 rfl
theorem relyW_at (ft : Foot) (w : World) (d : Nat) : RelyW ft w (w.at d) := ⟨fun _ _ => rfl,Nat.le_refl _,rfl,rfl,rfl⟩
theorem J1.both (hrun : g.status = .running)
  (h : ∀ w₁,RelyW ft w w₁ → Base W0 w₁ → (∃ g' w' es,stepG P true g w₁ = .go g' w' es ∧ g'.status = .running ∧ GuarW ft w₁ w' es ∧ J1 P W0 Post g' w' (ft.ext w₁.heap.size w'.heap.size)) ∨
   ∃ v es,stepG P true g w₁ = .ended (.done v) w₁ es ∧ (∀ e ∈ es,EvOk ft e) ∧ Post v w₁) : J1 P W0 Post g w ft := by
 intro gs w₁ sl t q hbd hsub hrel hbase h0 hL hP
 generalize hM : sumTo gs.size q = M
 induction M using Nat.strongRecOn generalizing gs w₁ sl t q with
 | ind M ih =>
  have haw : ∀ g ∈ gs,awake g := by
   intro x hx
   obtain ⟨i,hi,rfl⟩ := Array.mem_iff_getElem.1 hx
   rcases Nat.eq_zero_or_pos i with rfl | hpos
   ·have : gs[0] = g := by simpa [Array.getElem?_eq_getElem hi] using h0
    rw [this]; exact awake_of (.inl hrun)
   ·exact awake_of ((hL.old i _ hpos (Array.getElem?_eq_getElem hi)).status.elim .inl fun x => .inr (.inr x))
  obtain ⟨i,x,d,sl',hi,hg,hst⟩ := crowd_pick (P := P) (w := w₁) (sl := sl) haw ⟨0,g,h0,hrun⟩
  rcases Nat.eq_zero_or_pos i with rfl | hpos
  ·obtain rfl : x = g := by rw [h0] at hi; exact (Option.some.inj hi).symm
   rcases h (w₁.at d) (hrel.trans (relyW_at ft w₁ d)) ⟨hbase.tape,hbase.os,hbase.output,hbase.size⟩ with ⟨g',w',es,hgo,hrun',hgu,hJ⟩ | ⟨v,es,hend,hes,hpost⟩
   ·have hrunT := runT_crowd_go (P := P) (sl := sl') (i := 0) hi (show stepG P (0 == 0) x (w₁.at d) = _ from hgo)
    have hsz : ((gs.map (woken P x g' w')).setIfInBounds 0 g').size = gs.size := by simp
    have hlt : 0 < gs.size := (Array.getElem?_eq_some_iff.1 h0).1
    have hw' : w₁.heap.size ≤ w'.heap.size := hgu.size
    refine Ends.next (hst.trans hrunT) ?_
    refine hJ _ w' sl' _ q (fun b hb => ?_) (fun b hb => ?_) (RelyW.refl _ _) ⟨hgu.tape.trans hbase.tape,hgu.os.trans hbase.os,hgu.output.trans hbase.output,Nat.le_trans hbase.size hgu.size⟩ (by simp [hlt]) ⟨fun j y hj hy => ?_,fun j hj => ?_⟩ ?_
    ·rcases hb with hb | hb
     ·exact Nat.lt_of_lt_of_le (hbd b hb) hw'
     ·exact hb.2
    ·rcases hb with hb | hb
     ·exact .inl (hsub b hb)
     ·exact .inr hb
    ·have hne : 0 ≠ j := by omega
     rw [Array.getElem?_setIfInBounds_ne hne,Array.getElem?_map] at hy
     obtain ⟨z,hz,rfl⟩ := Option.map_eq_some_iff.1 hy
     have hq := hL.old j z hj hz
     rw [woken_quitsD hq,Deaf_other t (by omega) _ (fun op hop => mem_g hop)]
     exact hq
    ·rw [Deaf_other t (g' := 0) (by simp at hj; omega) _ (fun op hop => mem_g hop)]
     exact hL.above j (by simpa using hj)
    ·exact (hP.mono hw').own fun e he => evL_of (hgu.evs e he) fun b hb => Nat.lt_of_lt_of_le (hbd b hb) hw'
   ·have hrunT := runT_many_ended (P := P) (sl := sl') (i := 0) hi (show stepG P (0 == 0) x (w₁.at d) = _ from hend)
    have hP' := hP.own (fn := x.frame.fn) (pos := x.frame.place) fun e he => evL_of (hes e he) hbd
    refine ⟨0,crowd gs w₁ sl,.done v,w₁.at d,_,by simp only [runNT,hst.trans hrunT],rfl,by simp [step,hst.trans hrunT],v,rfl,hpost,hP'.clean,hP'.over,⟨fun y hy => ?_,rfl⟩,fun j y hy hj => ?_⟩
    ·obtain ⟨j,hj⟩ := List.mem_iff_getElem?.1 hy
     rw [List.getElem?_drop] at hj
     exact ⟨_,(hL.old (1 + j) y (by omega) (by simpa [crowd] using hj)).leaves⟩
    ·have hq := hL.old j y (by omega) hy
     refine ⟨q j,?_⟩
     have e : (t ++ MemOp.ofEvents 0 x.frame.fn x.frame.place es).deaf j (t ++ MemOp.ofEvents 0 x.frame.fn x.frame.place es).size = Deaf t j :=
      Deaf_other t (g := j) (g' := 0) (by omega) _ (fun op hop => mem_g hop)
     rw [e]
     exact hq.hears _
  ·have hq := hL.old i x hpos hi
   have hi0 : (i == 0) = false := by simp; omega
   have hlt : i < gs.size := (Array.getElem?_eq_some_iff.1 hi).1
   cases hqi : q i with
   | zero => rw [hqi] at hq; rw [hq.1] at hg; cases hg
   | succ k =>
    rw [hqi] at hq
    rcases hq with ⟨hf,_⟩ | ⟨_,g',es,hm,hstp,hq'⟩
    ·rw [hf] at hg; cases hg
    have hrunT := runT_crowd_go (P := P) (sl := sl') (i := i) hi (by rw [hi0]; exact hstp (w₁.at d))
    have hsz : ((gs.map (woken P x g' (w₁.at d))).setIfInBounds i g').size = gs.size := by simp
    have hsum : sumTo gs.size (upd q i k) + (k + 1) = sumTo gs.size q + k := by
     have := sumTo_upd q k id hlt
     simpa [hqi] using this
    refine Ends.next (hst.trans hrunT) (ih (sumTo gs.size (upd q i k)) (by omega) _ (w₁.at d) sl' _ (upd q i k) hbd (hrel.trans (relyW_at ft w₁ d)) ⟨hbase.tape,hbase.os,hbase.output,hbase.size⟩ ?_ ⟨fun j y hj hy => ?_,fun j hj => ?_⟩ (hP.mute (by omega) hm) (by rw [hsz]))
    ·have hne : i ≠ 0 := by omega
     rw [Array.getElem?_setIfInBounds_ne hne,Array.getElem?_map,h0]
     simp [woken_run hrun]
    ·by_cases hji : i = j
     ·subst hji
      rw [Array.getElem?_setIfInBounds_self_of_lt (by simpa using hlt)] at hy
      obtain rfl := Option.some.inj hy
      rw [upd_same,Deaf_own]
      exact hq'
     ·rw [Array.getElem?_setIfInBounds_ne hji,Array.getElem?_map] at hy
      obtain ⟨z,hz,rfl⟩ := Option.map_eq_some_iff.1 hy
      have hqj := hL.old j z hj hz
      rw [woken_quitsD hqj,upd_ne q k (Ne.symm hji),Deaf_other t hji _ (fun op hop => mem_g hop)]
      exact hqj
    ·rw [Deaf_other t (g' := i) (by simp at hj; omega) _ (fun op hop => mem_g hop)]
     exact hL.above j (by simpa using hj)
theorem J1.closed (P : Program) (W0 : World) (Post : Value → World → Prop) : Closed P true (J1 P W0 Post) where
 rely := fun h hr gs w₂ sl t q hbd hsub hrel hbase h0 hL hP => h gs w₂ sl t q hbd hsub (hr.trans hrel) hbase h0 hL hP
 step := fun hrun h => J1.both hrun fun w₁ h₁ _ => by
  obtain ⟨g',w',es,a,b,c,d⟩ := h w₁ h₁
  exact .inl ⟨g',w',es,a,b,c,d⟩
end
end Go.Proofs.YtcmgjbflljmphaaGreatDoor
namespace Go.Proofs.YtcmgjbflljmphaaGreatDoor
open Go.Conc
def putAt {X : Type} (f : Nat → X) (i : Nat) (x : X) : Nat → X := fun j => if j = i then x else f j
theorem putAt_self {X : Type} (f : Nat → X) (i : Nat) (x : X) : putAt f i x i = x := by simp [putAt]
theorem putAt_ne {X : Type} (f : Nat → X) {i j : Nat} (x : X) (h : j ≠ i) : putAt f i x j = f j := by simp [putAt,h]
def Less {X : Type} (r : X → X → Prop) (n : Nat) (f' f : Nat → X) : Prop := ∃ i,i < n ∧ r (f' i) (f i) ∧ ∀ j,j ≠ i → f' j = f j
theorem less_acc {X : Type} (r : X → X → Prop) : ∀ (n : Nat) (f : Nat → X),(∀ i,i < n → Acc r (f i)) → Acc (Less r n) f
 | 0,f,_ => ⟨f,fun _ h => by obtain ⟨i,hi,_⟩ := h; omega⟩
 | n + 1,f,h => by
  have key : ∀ a,Acc r a → ∀ g : Nat → X,Acc (Less r n) g → Acc (Less r (n + 1)) (putAt g n a) := by
   intro a ha
   induction ha with
   | intro a _ iha =>
    intro g hg
    induction hg with
    | intro g hgs ihg =>
     refine ⟨_,fun y hy => ?_⟩
     obtain ⟨i,hi,hr,ho⟩ := hy
     by_cases hin : i = n
     ·subst hin
      rw [putAt_self] at hr
      have : y = putAt g i (y i) := by
       funext j
       by_cases hj : j = i
       ·subst hj; rw [putAt_self]
       ·rw [putAt_ne _ _ hj,ho j hj,putAt_ne _ _ hj]
      rw [this]
      exact iha (y i) hr g ⟨g,hgs⟩
     ·rw [putAt_ne _ _ hin] at hr
      have : y = putAt (putAt g i (y i)) n a := by
       funext j
       by_cases hj : j = n
       ·subst hj
        rw [putAt_self,ho j (fun e => hin e.symm),putAt_self]
       ·rw [putAt_ne _ _ hj]
        by_cases hji : j = i
        ·subst hji; rw [putAt_self]
        ·rw [putAt_ne _ _ hji,ho j hji,putAt_ne _ _ hj]
      rw [this]
      refine ihg _ ⟨i,by omega,by rw [putAt_self]; exact hr,fun j hj => putAt_ne _ _ hj⟩
  have e : f = putAt f n (f n) := by
   funext j
   by_cases hj : j = n
   ·subst hj; rw [putAt_self]
   ·rw [putAt_ne _ _ hj]
  rw [e]
  exact key (f n) (h n (by omega)) f (less_acc r n f fun i hi => h i (by omega))
inductive Toward (P : Program) (Stop : JT) : Goroutine → World → Foot → Prop where
 | stop {g : Goroutine} {w : World} {ft : Foot} : g.status = .running → (∀ w₁,RelyW ft w w₁ → Stop g w₁ ft) → Toward P Stop g w ft
 | step {g : Goroutine} {w : World} {ft : Foot} : g.status = .running → (∀ w₁,RelyW ft w w₁ → ∃ g' w' es,stepG P false g w₁ = .go g' w' es ∧ g'.status = .running ∧ GuarW ft w₁ w' es) →
  (∀ w₁ g' w' es,RelyW ft w w₁ → stepG P false g w₁ = .go g' w' es → Toward P Stop g' w' (ft.ext w₁.heap.size w'.heap.size)) → Toward P Stop g w ft
theorem Toward.running {P : Program} {Stop : JT} {g : Goroutine} {w : World} {ft : Foot} (h : Toward P Stop g w ft) : g.status = .running := by
 cases h with
 | stop h _ => exact h
 | step h _ _ => exact h
theorem Toward.rely {P : Program} {Stop : JT} {g : Goroutine} {w w₁ : World} {ft : Foot} (h : Toward P Stop g w ft) (hr : RelyW ft w w₁) : Toward P Stop g w₁ ft := by
 cases h with
 | stop h1 h2 => exact .stop h1 fun w₂ h₂ => h2 w₂ (hr.trans h₂)
 | step h1 h2 h3 => exact .step h1 (fun w₂ h₂ => h2 w₂ (hr.trans h₂)) fun w₂ g' w' es h₂ hs => h3 w₂ g' w' es (hr.trans h₂) hs
theorem Toward.closed (P : Program) (Stop : JT) : Closed P false (Toward P Stop) where
 rely := fun h hr => h.rely hr
 step := fun hrun h => .step hrun (fun w₁ h₁ => by
  obtain ⟨g',w',es,a,b,c,_⟩ := h w₁ h₁
  exact ⟨g',w',es,a,b,c⟩) fun w₁ g' w' es h₁ hs => by
  obtain ⟨g2,w2,es2,a,b,c,d⟩ := h w₁ h₁
  rw [hs] at a
  cases a
  exact d
inductive WS where
 | quit (n : Nat)
 | way (w : World) (ft : Foot)
 | park
inductive WLt (P : Program) : Goroutine × WS → Goroutine × WS → Prop where
 | step {g g' : Goroutine} {w w₁ w' : World} {ft : Foot} {es : Array Event} : RelyW ft w w₁ → stepG P false g w₁ = .go g' w' es → WLt P (g',.way w' (ft.ext w₁.heap.size w'.heap.size)) (g,.way w ft)
 | quit {g g' : Goroutine} {w : World} {ft : Foot} {n : Nat} : WLt P (g',.quit n) (g,.way w ft)
 | park {g g' : Goroutine} {w : World} {ft : Foot} : WLt P (g',.park) (g,.way w ft)
 | out {g g' : Goroutine} {n : Nat} : WLt P (g',.quit n) (g,.park)
 | less {g g' : Goroutine} {n m : Nat} : n < m → WLt P (g',.quit n) (g,.quit m)
theorem acc_quit (P : Program) : ∀ (n : Nat) (g : Goroutine),Acc (WLt P) (g,.quit n) := by
 intro n
 induction n using Nat.strongRecOn with
 | ind n ih =>
  intro g
  refine ⟨_,fun y hy => ?_⟩
  cases hy with
  | less h => exact ih _ h _
theorem acc_park (P : Program) (g : Goroutine) : Acc (WLt P) (g,.park) :=
 ⟨_,fun y hy => by cases hy with | out => exact acc_quit P _ _⟩
def Halts (P : Program) (Stop : JT) : Prop := ∀ g w ft g' w' es,Stop g w ft → stepG P false g w ≠ .go g' w' es
theorem acc_way {P : Program} {Stop : JT} (hS : Halts P Stop) {g : Goroutine} {w : World} {ft : Foot} (h : Toward P Stop g w ft) : Acc (WLt P) (g,.way w ft) := by
 induction h with
 | stop h1 h2 =>
  refine ⟨_,fun y hy => ?_⟩
  cases hy with
  | step hr hs => exact absurd hs (hS _ _ _ _ _ _ (h2 _ hr))
  | quit => exact acc_quit P _ _
  | park => exact acc_park P _
 | step h1 h2 _ ih =>
  refine ⟨_,fun y hy => ?_⟩
  cases hy with
  | step hr hs => exact ih _ _ _ _ hr hs
  | quit => exact acc_quit P _ _
  | park => exact acc_park P _
def locBlk : Loc → Option Nat
 | .cell a => some a.block
 | .obj r => some r
 | _ => none
def KnowsOk (t : Trace) (x : Nat) (ft : Foot) : Prop :=
 ∀ i a,touchAt t i = some a → a.loc.isMemory = true → Knows t x i ∨ ∀ b,locBlk a.loc = some b → ¬ ft.wr b ∧ (a.write = true → ¬ ft.rd b)
theorem evOk_touch {ft : Foot} {e : Event} {a : Touch} (he : EvOk ft e) (ha : (MemAct.ofEvent e).touch? = some a) : ∃ b,locBlk a.loc = some b ∧ ft.rd b ∧ (a.write = true → ft.wr b) := by
 obtain ⟨loc,wr,sync⟩ := e
 unfold EvOk at he
 cases loc with
 | cell x =>
  simp only at he
  simp only [MemAct.ofEvent,MemAct.touch?,Option.some.injEq] at ha
  subst ha
  exact ⟨_,rfl,he.2.1,he.2.2⟩
 | obj r =>
  obtain ⟨rfl,h1,h2⟩ := he
  cases wr <;> (simp only [MemAct.ofEvent,MemAct.touch?,Option.some.injEq] at ha; subst ha; exact ⟨_,rfl,h1,h2⟩)
 | mark m => cases m <;> first | exact he.elim | (simp [MemAct.ofEvent,MemAct.touch?] at ha)
 | output => exact he.elim
 | goroutines => exact he.elim
theorem touch_low {x : MemAct} {a : Touch} {n b : Nat} (hl : x.low n) (ha : x.touch? = some a) (hb : locBlk a.loc = some b) : b < n := by
 cases x with
 | access e =>
  obtain ⟨loc,wr,sy⟩ := e
  simp only [MemAct.touch?,Option.some.injEq] at ha
  subst ha
  cases loc with
  | cell x => injection hb with hb; subst hb; exact hl
  | obj x => injection hb with hb; subst hb; exact hl
  | _ => cases hb
 | mark mk =>
  cases mk with
  | read x => injection ha with ha; subst ha; injection hb with hb; subst hb; exact hl
  | write x => injection ha with ha; subst ha; injection hb with hb; subst hb; exact hl
  | _ => cases ha
 | _ => cases ha
theorem touch_app {t u : Trace} {i : Nat} {a : Touch} (h : touchAt (t ++ u) i = some a) : (i < t.size ∧ touchAt t i = some a) ∨ ∃ op ∈ u,(t ++ u)[i]? = some op ∧ op.act.touch? = some a := by
 obtain ⟨x,hx,hxa⟩ := touch_of h
 rcases getElem?_append_cases hx with ⟨hi,hx'⟩ | ⟨_,hxu⟩
 ·exact .inl ⟨hi,by rw [touchAt_of hx']; exact hxa⟩
 ·exact .inr ⟨x,hxu,hx,hxa⟩
theorem conf_blk {said : Bool} {a b : Touch} (h : a.conflicts said b) : locBlk a.loc = locBlk b.loc ∧ a.loc.isMemory = true ∧ (a.write = true ∨ b.write = true) := ⟨by rw [h.1],h.2.1,h.2.2.1⟩
section
variable {t u : Trace} {x y : Nat} {ft fy : Foot} {fn : FuncId} {pos : String} {es : Array Event}
theorem KnowsOk.noRace {said : Bool} (hc : ¬ Race said t) (hk : KnowsOk t x ft) (he : ∀ e ∈ es,EvOk ft e) : ¬ Race said (t ++ MemOp.ofEvents x fn pos es) := by
 refine noRace_append hc (fun op hop => mem_g hop) fun i a ha op hop b hb hcf => ?_
 obtain ⟨e,hee,rfl⟩ := Go.Conc.mem_ofEvents hop
 obtain ⟨bl,h1,h2,h3⟩ := evOk_touch (he e hee) hb
 obtain ⟨c1,c2,c3⟩ := conf_blk hcf
 rcases hk i a ha c2 with h | h
 ·exact h
 ·obtain ⟨n1,n2⟩ := h bl (by rw [c1]; exact h1)
  rcases c3 with c | c
  ·exact absurd h2 (n2 c)
  ·exact absurd (h3 c) n1
theorem KnowsOk.mute (hk : KnowsOk t y fy) (hu : ∀ op ∈ u,op.act.touch? = none) : KnowsOk (t ++ u) y fy := by
 intro i a ha hm
 rcases touch_app ha with ⟨hi,h⟩ | ⟨op,hop,_,h⟩
 ·exact (hk i a h hm).imp (·.app u) id
 ·rw [hu op hop] at h; cases h
theorem KnowsOk.other (hk : KnowsOk t y fy) (he : ∀ e ∈ es,EvOk ft e) (d1 : ∀ b,ft.wr b → ¬ fy.rd b) (d2 : ∀ b,fy.wr b → ¬ ft.rd b) : KnowsOk (t ++ MemOp.ofEvents x fn pos es) y fy := by
 intro i a ha hm
 rcases touch_app ha with ⟨hi,h⟩ | ⟨op,hop,_,h⟩
 ·exact (hk i a h hm).imp (·.app _) id
 ·obtain ⟨e,hee,rfl⟩ := Go.Conc.mem_ofEvents hop
  obtain ⟨bl,h1,h2,h3⟩ := evOk_touch (he e hee) h
  refine .inr fun b hb => ?_
  rw [h1] at hb
  cases hb
  exact ⟨fun hw => d2 _ hw h2,fun hw => d1 _ (h3 hw)⟩
theorem KnowsOk.own {n m : Nat} (hk : KnowsOk t x ft) (_he : ∀ e ∈ es,EvOk ft e) (hs : ∀ op ∈ t,op.act.low n) : KnowsOk (t ++ MemOp.ofEvents x fn pos es) x (ft.ext n m) := by
 intro i a ha hm
 rcases touch_app ha with ⟨hi,h⟩ | ⟨op,hop,hg,h⟩
 ·rcases hk i a h hm with hh | hh
  ·exact .inl (hh.app _)
  ·refine .inr fun b hb => ?_
   obtain ⟨n1,n2⟩ := hh b hb
   have hlow : b < n := by
    obtain ⟨z,hz,hza⟩ := touch_of h
    exact touch_low (hs z (Array.mem_of_getElem? hz)) hza hb
   exact ⟨fun hw => hw.elim n1 (fun e => by omega),fun hw hr => hr.elim (n2 hw) fun e => by omega⟩
 ·have := knows_own hg
  rw [mem_g hop] at this
  exact .inl this
theorem KnowsOk.less {f' : Foot} (hk : KnowsOk t x ft) (h1 : ∀ b,f'.rd b → ft.rd b) (h2 : ∀ b,f'.wr b → ft.wr b) : KnowsOk t x f' := fun i a ha hm =>
 (hk i a ha hm).imp id fun hh b hb => ⟨fun hw => (hh b hb).1 (h2 b hw),fun hw hr => (hh b hb).2 hw (h1 b hr)⟩
theorem low_events {n : Nat} (he : ∀ e ∈ es,EvOk ft e) (hb : ∀ b,ft.rd b → b < n) : ∀ op ∈ MemOp.ofEvents x fn pos es,op.act.low n := fun op hop => by
 obtain ⟨e,hee,rfl⟩ := Go.Conc.mem_ofEvents hop
 exact (evL_of (he e hee) hb).2.2.2
end
structure Crew where
 ch : Nat → Option (Nat × Array Value × Bool)
 c : Nat
 pend : List Nat
 phi : Nat → Value → Prop
def AtSend (P : Program) (c : Nat) (Φ : Value → Prop) : JT := fun g w _ =>
 ∃ g₂ v z,stepG P false g w = .comm g₂ #[scase c v z] true .send w #[] ∧ Φ v ∧ ∃ n,QuitsD P n 0 (Conc.served g₂ undef)
theorem atSend_halts (P : Program) (c : Nat) (Φ : Value → Prop) : Halts P (AtSend P c Φ) := fun g w ft g' w' es h e => by
 obtain ⟨g₂,v,z,h,_⟩ := h
 rw [h] at e
 cases e
structure WayOk (P : Program) (T : Crew) (t : Trace) (i k : Nat) (ft : Foot) (w : World) (g : Goroutine) (wi : World) (fi : Foot) : Prop where
 way : Toward P (AtSend P T.c (T.phi k)) g wi fi
 rely : RelyW fi wi w
 lt : ∀ b,fi.rd b → b < w.heap.size
 sub : ∀ b,fi.wr b → fi.rd b
 ch : ∀ b x,T.ch b = some x → ¬ fi.rd b
 d1 : ∀ b,fi.wr b → ¬ ft.rd b
 d2 : ∀ b,ft.wr b → ¬ fi.rd b
 know : KnowsOk t i fi
def ParkOk (P : Program) (T : Crew) (k : Nat) (g : Goroutine) : Prop := ∃ g₂ v z,g = parked g₂ #[scase T.c v z] .send ∧ T.phi k v ∧ ∃ n,QuitsD P n 0 (Conc.served g₂ undef)
structure Inv (P : Program) (W0 : World) (T : Crew) (ft : Foot) (gs : Array Goroutine) (w : World) (t : Trace) (st : Nat → WS) (ix : Nat → Nat) : Prop where
 base : Base W0 w
 lt : ∀ b,ft.rd b → b < w.heap.size
 sub : ∀ b,ft.wr b → ft.rd b
 chan : ∀ b x,T.ch b = some x → ∃ s r tm,w.heap[b]? = some (.chan x.1 x.2.1 x.2.2 s r tm)
 cnt : ∀ b x s r tm,T.ch b = some x → w.heap[b]? = some (.chan x.1 x.2.1 x.2.2 s r tm) → s = r + x.2.1.size
 chft : ∀ b x,T.ch b = some x → ¬ ft.rd b
 own : T.pend ≠ [] → T.ch T.c = some (0,#[],false)
 nd : T.pend.Nodup
 ixr : ∀ k ∈ T.pend,0 < ix k ∧ ix k < gs.size
 inj : ∀ k ∈ T.pend,∀ l ∈ T.pend,ix k = ix l → k = l
 pnd : ∀ k ∈ T.pend,∃ g,gs[ix k]? = some g ∧ Deaf t (ix k) = 0 ∧ ((∃ wi fi,st (ix k) = .way wi fi ∧ WayOk P T t (ix k) k ft w g wi fi) ∨ (st (ix k) = .park ∧ ParkOk P T k g))
 old : ∀ i g,0 < i → gs[i]? = some g → (∀ k ∈ T.pend,ix k ≠ i) → ∃ n,st i = .quit n ∧ QuitsD P n (Deaf t i) g
 disj : ∀ k ∈ T.pend,∀ l ∈ T.pend,k ≠ l → ∀ wk fk wl fl,st (ix k) = .way wk fk → st (ix l) = .way wl fl → ∀ b,fk.wr b → ¬ fl.rd b
 above : ∀ j,gs.size ≤ j → Deaf t j = 0
 hears : Deaf t 0 = 0
 clean : ∀ said,¬ Race said t
 known : KnowsOk t 0 ft
 done : ∀ i a,touchAt t i = some a → a.loc.isMemory = true → Knows t 0 i ∨ ∃ k ∈ T.pend,t.g? i = some (ix k)
 seen : ∀ op ∈ t,op.act.low w.heap.size
def MainOk (T : Crew) (g : Goroutine) : Prop := g.status = .running ∨ ∃ g₂ z sh,g = parked g₂ #[rcase T.c z] sh ∧ T.ch T.c = some (0,#[],false)
def JC (P : Program) (W0 : World) (Post : Value → World → Prop) (T : Crew) (g : Goroutine) (w : World) (ft : Foot) : Prop :=
 ∀ (gs : Array Goroutine) (w₁ : World) (sl : Option (Nat × Nat)) (t : Trace) (st : Nat → WS) (ix : Nat → Nat),RelyW ft w w₁ → gs[0]? = some g → Inv P W0 T ft gs w₁ t st ix → Ends P Post (crowd gs w₁ sl) t
section
variable {P : Program} {W0 : World} {Post : Value → World → Prop} {T : Crew} {g : Goroutine} {w w₁ w' : World} {ft : Foot} {gs : Array Goroutine} {t : Trace} {st : Nat → WS} {ix : Nat → Nat} {i : Nat} {sl : Option (Nat × Nat)}
theorem Inv.at (I : Inv P W0 T ft gs w t st ix) (d : Nat) : Inv P W0 T ft gs (w.at d) t st ix where
 base := ⟨I.base.tape,I.base.os,I.base.output,I.base.size⟩
 lt := I.lt
 sub := I.sub
 chan := I.chan
 cnt := I.cnt
 chft := I.chft
 own := I.own
 nd := I.nd
 ixr := I.ixr
 inj := I.inj
 pnd := fun k hk => by
  obtain ⟨g,h1,h2,h3⟩ := I.pnd k hk
  refine ⟨g,h1,h2,h3.imp (fun ⟨wi,fi,e,W⟩ => ⟨wi,fi,e,?_⟩) id⟩
  exact ⟨W.way,W.rely.trans (relyW_at fi w d),W.lt,W.sub,W.ch,W.d1,W.d2,W.know⟩
 old := I.old
 disj := I.disj
 above := I.above
 hears := I.hears
 clean := I.clean
 known := I.known
 done := I.done
 seen := I.seen
theorem moved_get {f : Goroutine → Goroutine} {g' : Goroutine} {j : Nat} {y : Goroutine} (hne : i ≠ j) (h : ((gs.map f).setIfInBounds i g')[j]? = some y) : ∃ z,gs[j]? = some z ∧ y = f z := by
 rw [Array.getElem?_setIfInBounds_ne hne,Array.getElem?_map] at h
 obtain ⟨z,hz,e⟩ := Option.map_eq_some_iff.1 h
 exact ⟨z,hz,e.symm⟩
theorem moved_put {f : Goroutine → Goroutine} {g' : Goroutine} {j : Nat} {z : Goroutine} (hne : i ≠ j) (h : gs[j]? = some z) (e : f z = z) : ((gs.map f).setIfInBounds i g')[j]? = some z := by
 rw [Array.getElem?_setIfInBounds_ne hne,Array.getElem?_map,h]
 simp [e]
theorem moved_own {f : Goroutine → Goroutine} {g g' : Goroutine} (h : gs[i]? = some g) : ((gs.map f).setIfInBounds i g')[i]? = some g' := by
 have hlt := (Array.getElem?_eq_some_iff.1 h).1
 rw [Array.getElem?_setIfInBounds_self_of_lt (by simpa using hlt)]
theorem main_still {x g' : Goroutine} (hm : MainOk T g) (hc : T.ch T.c = some (0,#[],false) → ∃ s r tm,w'.heap[T.c]? = some (.chan 0 #[] false s r tm)) : woken P x g' w' g = g := by
 rcases hm with h | ⟨g₂,z,sh,rfl,h⟩
 ·exact woken_run h
 ·obtain ⟨s,r,tm,h⟩ := hc h
  exact woken_recv_open _ _ h
theorem pend_still {x g' y : Goroutine} {k : Nat} (_hc : T.ch T.c = some (0,#[],false)) (hch : ∃ s r tm,w'.heap[T.c]? = some (.chan 0 #[] false s r tm)) (h : (∃ wi fi,WayOk P T t i k ft w y wi fi) ∨ ParkOk P T k y) : woken P x g' w' y = y := by
 rcases h with ⟨wi,fi,W⟩ | ⟨g₂,v,z,rfl,_⟩
 ·exact woken_run W.way.running
 ·obtain ⟨s,r,tm,h⟩ := hch
  exact woken_send_open _ _ h
theorem deaf_evs {fi : Foot} {fn : FuncId} {pos : String} {es : Array Event} {n : Nat} (he : ∀ e ∈ es,EvOk fi e) (hb : ∀ b,fi.rd b → b < n) (j : Nat) : Deaf (t ++ MemOp.ofEvents i fn pos es) j = Deaf t j := by
 by_cases h : i = j
 ·subst h
  rw [Deaf_own]
  exact deafBehind_still (fun e hm => ⟨(evL_of (he e hm) hb).2.1,(evL_of (he e hm) hb).2.2.1⟩) _
 ·rw [Deaf_other t h _ (fun op hop => mem_g hop)]
theorem g_app {u : Trace} {j : Nat} {y : Nat} (h : t.g? j = some y) : (t ++ u).g? j = some y := by
 unfold Trace.g? at h ⊢
 obtain ⟨z,hz,e⟩ := Option.map_eq_some_iff.1 h
 rw [getElem?_append_old (lt_size_of_getElem? hz),hz]
 simp [e]
theorem done_mute {u : Trace} (hd : ∀ i a,touchAt t i = some a → a.loc.isMemory = true → Knows t 0 i ∨ ∃ k ∈ T.pend,t.g? i = some (ix k)) (hu : ∀ op ∈ u,op.act.touch? = none) :
  ∀ i a,touchAt (t ++ u) i = some a → a.loc.isMemory = true → Knows (t ++ u) 0 i ∨ ∃ k ∈ T.pend,(t ++ u).g? i = some (ix k) := by
 intro i a ha hm
 rcases touch_app ha with ⟨_,h⟩ | ⟨op,hop,_,h⟩
 ·exact (hd i a h hm).imp (·.app u) fun ⟨k,hk,e⟩ => ⟨k,hk,g_app e⟩
 ·rw [hu op hop] at h; cases h
theorem Inv.quit (I : Inv P W0 T ft gs w t st ix) {x g' : Goroutine} {es : Array Event} {m : Nat} (hpos : 0 < i) (hi : gs[i]? = some x) (hn : ∀ k ∈ T.pend,ix k ≠ i) (hm : ∀ e ∈ es,Event.mute e = true)
  (hq : QuitsD P m (deafBehind (Deaf t i) es) g') : Inv P W0 T ft ((gs.map (woken P x g' w)).setIfInBounds i g') w (t ++ MemOp.ofEvents i x.frame.fn x.frame.place es) (putAt st i (.quit m)) ix := by
 have htn : ∀ op ∈ MemOp.ofEvents i x.frame.fn x.frame.place es,op.act.touch? = none := fun op hop => by
  obtain ⟨e,he,rfl⟩ := Go.Conc.mem_ofEvents hop
  exact touch_mute (hm e he)
 have hdo : ∀ j,i ≠ j → Deaf (t ++ MemOp.ofEvents i x.frame.fn x.frame.place es) j = Deaf t j := fun j hj => Deaf_other t hj _ (fun op hop => mem_g hop)
 have hlt : i < gs.size := (Array.getElem?_eq_some_iff.1 hi).1
 refine { base := I.base,lt := I.lt,sub := I.sub,chan := I.chan,cnt := I.cnt,chft := I.chft,own := I.own,nd := I.nd,ixr := fun k hk => ?_,inj := I.inj,pnd := fun k hk => ?_,old := fun j y hj hy hnj => ?_,disj := fun k hk l hl hkl wk fk wl fl e1 e2 => ?_,above := fun j hj => ?_,hears := ?_,clean := fun said => ?_,known := I.known.mute htn,done := done_mute I.done htn,seen := ?_ }
 ·simpa using I.ixr k hk
 ·obtain ⟨y,h1,h2,h3⟩ := I.pnd k hk
  have hne : i ≠ ix k := fun e => hn k hk e.symm
  have hown := I.own (List.ne_nil_of_mem hk)
  have hst : woken P x g' w y = y := pend_still (t := t) (i := ix k) (ft := ft) (w := w) hown (I.chan _ _ hown) (h3.imp (fun ⟨a,b,_,c⟩ => ⟨a,b,c⟩) fun h => h.2)
  refine ⟨y,moved_put hne h1 hst,by rw [hdo _ hne]; exact h2,?_⟩
  rw [putAt_ne _ _ (Ne.symm hne)]
  refine h3.imp (fun ⟨wi,fi,e,W⟩ => ⟨wi,fi,e,W.way,W.rely,W.lt,W.sub,W.ch,W.d1,W.d2,W.know.mute htn⟩) id
 ·by_cases hji : i = j
  ·subst hji
   rw [moved_own hi] at hy
   cases hy
   exact ⟨m,putAt_self _ _ _,by rw [Deaf_own]; exact hq⟩
  ·obtain ⟨z,hz,rfl⟩ := moved_get hji hy
   obtain ⟨n,e,hqz⟩ := I.old j z hj hz hnj
   refine ⟨n,by rw [putAt_ne _ _ (Ne.symm hji)]; exact e,?_⟩
   rw [woken_quitsD hqz,hdo _ hji]
   exact hqz
 ·rw [putAt_ne _ _ (hn k hk)] at e1
  rw [putAt_ne _ _ (hn l hl)] at e2
  exact I.disj k hk l hl hkl wk fk wl fl e1 e2
 ·have : i ≠ j := by simp at hj; omega
  rw [hdo _ this]
  exact I.above j (by simpa using hj)
 ·rw [hdo _ (by omega)]
  exact I.hears
 ·exact noRace_append (I.clean said) (fun op hop => mem_g hop) fun _ _ _ op hop b hb _ => by rw [htn op hop] at hb; cases hb
 ·exact seen_app I.seen fun op hop => by
   obtain ⟨e,he,rfl⟩ := Go.Conc.mem_ofEvents hop
   exact low_mute (hm e he) _
theorem Inv.walk (I : Inv P W0 T ft gs w t st ix) {k : Nat} (hk : k ∈ T.pend) {x g' : Goroutine} {es : Array Event} {wi : World} {fi : Foot} (hi : gs[ix k]? = some x) (hst : st (ix k) = .way wi fi) (W : WayOk P T t (ix k) k ft w x wi fi)
  (hgu : GuarW fi w w' es) (hto : Toward P (AtSend P T.c (T.phi k)) g' w' (fi.ext w.heap.size w'.heap.size)) :
  Inv P W0 T ft ((gs.map (woken P x g' w')).setIfInBounds (ix k) g') w' (t ++ MemOp.ofEvents (ix k) x.frame.fn x.frame.place es) (putAt st (ix k) (.way w' (fi.ext w.heap.size w'.heap.size))) ix := by
 have hsz := hgu.size
 have hdf := fun j => deaf_evs (t := t) (i := ix k) (fn := x.frame.fn) (pos := x.frame.place) hgu.evs W.lt j
 have hch : ∀ b y,T.ch b = some y → ∃ s r tm,w'.heap[b]? = some (.chan y.1 y.2.1 y.2.2 s r tm) := fun b y hb => by
  obtain ⟨s,r,tm,e⟩ := I.chan b y hb
  have hlt : b < w.heap.size := (Array.getElem?_eq_some_iff.1 e).1
  exact ⟨s,r,tm,by rw [hgu.heap b hlt fun hw => W.ch b y hb (W.sub b hw)]; exact e⟩
 have hcnt : ∀ b y s r tm,T.ch b = some y → w'.heap[b]? = some (.chan y.1 y.2.1 y.2.2 s r tm) → s = r + y.2.1.size := fun b y s r tm hb hw' => by
  obtain ⟨s',r',tm',e⟩ := I.chan b y hb
  have hlt : b < w.heap.size := (Array.getElem?_eq_some_iff.1 e).1
  rw [hgu.heap b hlt fun hw => W.ch b y hb (W.sub b hw)] at hw'
  exact I.cnt b y s r tm hb hw'
 have hown := I.own (List.ne_nil_of_mem hk)
 have other : ∀ {fy : Foot},(∀ b,fi.wr b → ¬ fy.rd b) → (∀ b,fy.rd b → b < w.heap.size) → ∀ b,fy.rd b → w'.heap[b]? = w.heap[b]? := fun hd hl b hb => hgu.heap b (hl b hb) fun hw => hd b hw hb
 refine { base := ⟨hgu.tape.trans I.base.tape,hgu.os.trans I.base.os,hgu.output.trans I.base.output,Nat.le_trans I.base.size hsz⟩,lt := fun b hb => Nat.lt_of_lt_of_le (I.lt b hb) hsz,sub := I.sub,chan := hch,cnt := hcnt,chft := I.chft,own := I.own,nd := I.nd,ixr := fun l hl => ?_,inj := I.inj,pnd := fun l hl => ?_,old := fun j y hj hy hnj => ?_,disj := fun a ha b hb hab wa fa wb fb e1 e2 => ?_,above := fun j hj => ?_,hears := ?_,clean := fun said => W.know.noRace (I.clean said) hgu.evs,known := I.known.other hgu.evs W.d1 W.d2,done := fun j a ha hm => ?_,seen := ?_ }
 ·simpa using I.ixr l hl
 ·by_cases hlk : l = k
  ·subst hlk
   refine ⟨g',moved_own hi,by rw [hdf]; obtain ⟨_,_,h2,_⟩ := I.pnd l hk; exact h2,.inl ⟨w',_,putAt_self _ _ _,?_⟩⟩
   refine ⟨hto,RelyW.refl _ _,fun b hb => ?_,fun b hb => ?_,fun b y hb hr => ?_,fun b hb hr => ?_,fun b hb hr => ?_,W.know.own hgu.evs I.seen⟩
   ·rcases hb with hb | hb
    ·exact Nat.lt_of_lt_of_le (W.lt b hb) hsz
    ·exact hb.2
   ·rcases hb with hb | hb
    ·exact .inl (W.sub b hb)
    ·exact .inr hb
   ·rcases hr with hr | hr
    ·exact W.ch b y hb hr
    ·obtain ⟨s,r,tm,e⟩ := I.chan b y hb
     have hlt : b < w.heap.size := (Array.getElem?_eq_some_iff.1 e).1
     omega
   ·rcases hb with hb | hb
    ·exact W.d1 b hb hr
    ·have := I.lt b hr
     omega
   ·rcases hr with hr | hr
    ·exact W.d2 b hb hr
    ·have := I.lt b (I.sub b hb)
     omega
  ·obtain ⟨y,h1,h2,h3⟩ := I.pnd l hl
   have hne : ix k ≠ ix l := fun e => hlk (I.inj k hk l hl e).symm
   have hst' : woken P x g' w' y = y := pend_still (t := t) (i := ix l) (ft := ft) (w := w) hown (hch _ _ hown) (h3.imp (fun ⟨a,b,_,c⟩ => ⟨a,b,c⟩) fun h => h.2)
   refine ⟨y,moved_put hne h1 hst',by rw [hdf]; exact h2,?_⟩
   rw [putAt_ne _ _ (Ne.symm hne)]
   refine h3.imp (fun ⟨wl,fl,e,V⟩ => ⟨wl,fl,e,?_⟩) id
   have hd := I.disj k hk l hl (fun e => hlk e.symm) wi fi wl fl hst e
   have hd' := I.disj l hl k hk hlk wl fl wi fi e hst
   exact ⟨V.way,V.rely.trans ⟨fun b hb => other hd V.lt b hb,hsz,hgu.tape,hgu.os,hgu.output⟩,fun b hb => Nat.lt_of_lt_of_le (V.lt b hb) hsz,V.sub,V.ch,V.d1,V.d2,V.know.other hgu.evs hd hd'⟩
 ·by_cases hji : ix k = j
  ·exact absurd hji (hnj k hk)
  ·obtain ⟨z,hz,rfl⟩ := moved_get hji hy
   obtain ⟨n,e,hqz⟩ := I.old j z hj hz hnj
   refine ⟨n,by rw [putAt_ne _ _ (Ne.symm hji)]; exact e,?_⟩
   rw [woken_quitsD hqz,hdf]
   exact hqz
 ·have low : ∀ l,l ∈ T.pend → ∀ wl fl,st (ix l) = .way wl fl → ∀ b,fl.rd b → b < w.heap.size := fun l hl wl fl e => by
   obtain ⟨y,_,_,h3⟩ := I.pnd l hl
   rcases h3 with ⟨_,_,e',V⟩ | ⟨e',_⟩
   ·rw [e] at e'
    cases e'
    exact V.lt
   ·rw [e] at e'
    cases e'
  have sub : ∀ l,l ∈ T.pend → ∀ wl fl,st (ix l) = .way wl fl → ∀ b,fl.wr b → fl.rd b := fun l hl wl fl e => by
   obtain ⟨y,_,_,h3⟩ := I.pnd l hl
   rcases h3 with ⟨_,_,e',V⟩ | ⟨e',_⟩
   ·rw [e] at e'
    cases e'
    exact V.sub
   ·rw [e] at e'
    cases e'
  by_cases hak : a = k
  ·subst hak
   rw [putAt_self] at e1
   cases e1
   have hne : ix b ≠ ix a := fun e => hab (I.inj b hb a ha e).symm
   rw [putAt_ne _ _ hne] at e2
   intro y hy hr
   rcases hy with hy | hy
   ·exact I.disj a ha b hb hab wi fi wb fb hst e2 y hy hr
   ·have := low b hb wb fb e2 y hr
    omega
  ·have hne : ix a ≠ ix k := fun e => hak (I.inj a ha k hk e)
   rw [putAt_ne _ _ hne] at e1
   by_cases hbk : b = k
   ·subst hbk
    rw [putAt_self] at e2
    cases e2
    intro y hy hr
    rcases hr with hr | hr
    ·exact I.disj a ha b hb hab wa fa wi fi e1 hst y hy hr
    ·have := low a ha wa fa e1 y (sub a ha wa fa e1 y hy)
     omega
   ·have hne' : ix b ≠ ix k := fun e => hbk (I.inj b hb k hk e)
    rw [putAt_ne _ _ hne'] at e2
    exact I.disj a ha b hb hab wa fa wb fb e1 e2
 ·rw [hdf]
  exact I.above j (by simpa using hj)
 ·rw [hdf]
  exact I.hears
 ·rcases touch_app ha with ⟨_,h⟩ | ⟨op,hop,hg,h⟩
  ·exact (I.done j a h hm).imp (·.app _) fun ⟨l,hl,e⟩ => ⟨l,hl,g_app e⟩
  ·refine .inr ⟨k,hk,?_⟩
   unfold Trace.g?
   rw [hg]
   simp [mem_g hop]
 ·exact seen_app (fun op hop => MemAct.low_mono hsz (I.seen op hop)) fun op hop => MemAct.low_mono hsz (low_events hgu.evs W.lt op hop)
end
def Crew.less (T : Crew) (k : Nat) : Crew := { T with pend := T.pend.erase k }
def meas (gs : Array Goroutine) (st : Nat → WS) : Nat → Goroutine × WS := fun i => if i = 0 then (default,.quit 0) else (gs.getD i default,st i)
section
variable {P : Program} {W0 : World} {Post : Value → World → Prop} {T : Crew} {g g0 : Goroutine} {w w₁ w' : World} {ft : Foot} {gs gs' : Array Goroutine} {t : Trace} {st st' : Nat → WS} {ix : Nat → Nat} {i k : Nat} {sl : Option (Nat × Nat)}
theorem meas_acc (I : Inv P W0 T ft gs w t st ix) : Acc (Less (WLt P) gs.size) (meas gs st) := by
 refine less_acc _ _ _ fun j hj => ?_
 by_cases h0 : j = 0
 ·have e : meas gs st j = (default,.quit 0) := if_pos h0
  rw [e]
  exact acc_quit P _ _
 ·have e : meas gs st j = (gs.getD j default,st j) := if_neg h0
  rw [e]
  clear e
  have hg : gs[j]? = some gs[j] := Array.getElem?_eq_getElem hj
  have hd : gs.getD j default = gs[j] := by rw [Array.getD_eq_getD_getElem?,hg]; rfl
  rw [hd]
  by_cases hp : ∃ k ∈ T.pend,ix k = j
  ·obtain ⟨k,hk,rfl⟩ := hp
   obtain ⟨y,h1,_,h3⟩ := I.pnd k hk
   rw [hg] at h1
   cases h1
   rcases h3 with ⟨wi,fi,e,W⟩ | ⟨e,_⟩
   ·rw [e]
    exact acc_way (atSend_halts P _ _) W.way
   ·rw [e]
    exact acc_park P _
  ·obtain ⟨n,e,_⟩ := I.old j gs[j] (by omega) hg fun k hk e => hp ⟨k,hk,e⟩
   rw [e]
   exact acc_quit P _ _
theorem meas_less (hi : i < gs.size) (h0 : 0 < i) (_hs : gs'.size = gs.size) {x y : Goroutine} {a b : WS} (hx : gs[i]? = some x) (hy : gs'[i]? = some y) (ha : st i = a) (hb : st' i = b) (hr : WLt P (y,b) (x,a))
  (ho : ∀ j,0 < j → j ≠ i → gs'[j]? = gs[j]? ∧ st' j = st j) : Less (WLt P) gs.size (meas gs' st') (meas gs st) := by
 refine ⟨i,hi,?_,fun j hj => ?_⟩
 ·have h0' : ¬ i = 0 := by omega
  unfold meas
  rw [if_neg h0',if_neg h0',Array.getD_eq_getD_getElem?,Array.getD_eq_getD_getElem?,hx,hy,ha,hb]
  exact hr
 ·by_cases hj0 : j = 0
  ·have e1 : meas gs' st' j = (default,.quit 0) := if_pos hj0
   have e2 : meas gs st j = (default,.quit 0) := if_pos hj0
   rw [e1,e2]
  ·obtain ⟨e1,e2⟩ := ho j (by omega) hj
   have x1 : meas gs' st' j = (gs'.getD j default,st' j) := if_neg hj0
   have x2 : meas gs st j = (gs.getD j default,st j) := if_neg hj0
   rw [x1,x2,Array.getD_eq_getD_getElem?,Array.getD_eq_getD_getElem?,e1,e2]
theorem Inv.still (I : Inv P W0 T ft gs w t st ix) {x g' : Goroutine} (hc : ∀ b y,T.ch b = some y → ∃ s r tm,w'.heap[b]? = some (.chan y.1 y.2.1 y.2.2 s r tm)) : ∀ (j : Nat) (y : Goroutine),0 < j → gs[j]? = some y → woken P x g' w' y = y := by
 intro j y hj hy
 by_cases hp : ∃ k ∈ T.pend,ix k = j
 ·obtain ⟨k,hk,rfl⟩ := hp
  obtain ⟨z,h1,_,h3⟩ := I.pnd k hk
  rw [hy] at h1
  cases h1
  have hown := I.own (List.ne_nil_of_mem hk)
  exact pend_still (t := t) (i := ix k) (ft := ft) (w := w) hown (hc _ _ hown) (h3.imp (fun ⟨a,b,_,c⟩ => ⟨a,b,c⟩) fun h => h.2)
 ·obtain ⟨n,_,hq⟩ := I.old j y hj hy fun k hk e => hp ⟨k,hk,e⟩
  exact woken_quitsD hq
theorem moved_same (I : Inv P W0 T ft gs w t st ix) {x g' : Goroutine} (hc : ∀ b y,T.ch b = some y → ∃ s r tm,w'.heap[b]? = some (.chan y.1 y.2.1 y.2.2 s r tm)) {j : Nat} (h0 : 0 < j) (hj : j ≠ i) : ((gs.map (woken P x g' w')).setIfInBounds i g')[j]? = gs[j]? := by
 rw [Array.getElem?_setIfInBounds_ne (Ne.symm hj),Array.getElem?_map]
 cases e : gs[j]? with
 | none => rfl
 | some y => rw [Option.map_some,I.still hc j y h0 e]
theorem park_put {a : WS} (h : a ≠ .park) : ∀ j,putAt st i a j = .park → st j = .park := fun j e => by
 by_cases hj : j = i
 ·subst hj
  rw [putAt_self] at e
  exact absurd e h
 ·rwa [putAt_ne _ _ hj] at e
theorem Inv.other (I : Inv P W0 T ft gs w t st ix) (hm : MainOk T g0) (h0 : gs[0]? = some g0) (hpos : 0 < i) {x : Goroutine} (hi : gs[i]? = some x) (hrun : x.status = .running) :
  (∃ gs' w' ops st',runT P (crowd gs w sl) i = (.next (crowd gs' w' sl),ops) ∧ gs'.size = gs.size ∧ gs'[0]? = some g0 ∧ RelyW ft w w' ∧ Inv P W0 T ft gs' w' (t ++ ops) st' ix ∧ Less (WLt P) gs.size (meas gs' st') (meas gs st) ∧ ∀ j,st' j = .park → st j = .park) ∨
  (∃ k wi fi,k ∈ T.pend ∧ ix k = i ∧ st i = .way wi fi ∧ AtSend P T.c (T.phi k) x w fi) := by
 have hi0 : (i == 0) = false := by simp; omega
 have hlt : i < gs.size := (Array.getElem?_eq_some_iff.1 hi).1
 by_cases hp : ∃ k ∈ T.pend,ix k = i
 ·obtain ⟨k,hk,rfl⟩ := hp
  obtain ⟨y,h1,_,h3⟩ := I.pnd k hk
  rw [hi] at h1
  cases h1
  rcases h3 with ⟨wi,fi,e,W⟩ | ⟨_,g₂,v,z,rfl,_⟩
  ·cases hw : W.way with
   | stop _ hs => exact .inr ⟨k,wi,fi,hk,rfl,e,hs w W.rely⟩
   | step _ h2 h3 =>
    obtain ⟨g',w',es,hgo,hr',hgu⟩ := h2 w W.rely
    have hto := h3 w g' w' es W.rely hgo
    have hI := I.walk hk hi e W hgu hto
    have hch := hI.chan
    have hrel : RelyW ft w w' := ⟨fun b hb => hgu.heap b (I.lt b hb) fun hwr => W.d1 b hwr hb,hgu.size,hgu.tape,hgu.os,hgu.output⟩
    refine .inl ⟨_,w',_,_,runT_crowd_go (P := P) (sl := sl) hi (by rw [hi0]; exact hgo),by simp,?_,hrel,hI,?_,park_put (by simp)⟩
    ·exact moved_put (by omega) h0 (main_still hm fun h => hch _ _ h)
    ·exact meas_less hlt hpos (by simp) hi (moved_own hi) e (putAt_self _ _ _) (.step W.rely hgo) fun j hj hji => ⟨moved_same I hch hj hji,putAt_ne _ _ hji⟩
  ·cases hrun
 ·have hn : ∀ k ∈ T.pend,ix k ≠ i := fun k hk e => hp ⟨k,hk,e⟩
  obtain ⟨n,e,hq⟩ := I.old i x hpos hi hn
  cases n with
  | zero => rw [hq.1] at hrun; cases hrun
  | succ m =>
   rcases hq with ⟨hf,_⟩ | ⟨_,g',es,hmu,hst,hq'⟩
   ·rw [hf] at hrun; cases hrun
   have hI := I.quit hpos hi hn hmu hq'
   refine .inl ⟨_,w,_,_,runT_crowd_go (P := P) (sl := sl) hi (by rw [hi0]; exact hst w),by simp,?_,RelyW.refl _ _,hI,?_,park_put (by simp)⟩
   ·exact moved_put (by omega) h0 (main_still hm fun h => I.chan _ _ h)
   ·exact meas_less hlt hpos (by simp) hi (moved_own hi) e (putAt_self _ _ _) (.less (Nat.lt_succ_self m)) fun j hj hji => ⟨moved_same I I.chan hj hji,putAt_ne _ _ hji⟩
theorem Inv.awake (I : Inv P W0 T ft gs w t st ix) (h0 : gs[0]? = some g0) (hm : MainOk T g0) : ∀ g ∈ gs,awake g := by
 intro y hy
 obtain ⟨j,hj,rfl⟩ := Array.mem_iff_getElem.1 hy
 have hg : gs[j]? = some gs[j] := Array.getElem?_eq_getElem hj
 rcases Nat.eq_zero_or_pos j with rfl | hpos
 ·have : gs[0] = g0 := by rw [hg] at h0; exact Option.some.inj h0
  rw [this]
  rcases hm with h | ⟨g₂,z,sh,rfl,_⟩
  ·exact awake_of (.inl h)
  ·exact awake_of (.inr (.inl rfl))
 ·by_cases hp : ∃ k ∈ T.pend,ix k = j
  ·obtain ⟨k,hk,rfl⟩ := hp
   obtain ⟨z,h1,_,h3⟩ := I.pnd k hk
   rw [hg] at h1
   cases h1
   rcases h3 with ⟨_,_,_,W⟩ | ⟨_,g₂,v,z,e,_⟩
   ·exact awake_of (.inl W.way.running)
   ·rw [e]
    exact awake_of (.inr (.inl rfl))
  ·obtain ⟨n,_,hq⟩ := I.old j _ hpos hg fun k hk e => hp ⟨k,hk,e⟩
   exact awake_of (hq.status.elim .inl fun x => .inr (.inr x))
theorem Inv.noRecv (I : Inv P W0 T ft gs w t st ix) {j : Nat} {y : Goroutine} (hj : 0 < j) (hy : gs[j]? = some y) (c : Nat) : offersAt y c false = [] := by
 by_cases hp : ∃ k ∈ T.pend,ix k = j
 ·obtain ⟨k,hk,rfl⟩ := hp
  obtain ⟨z,h1,_,h3⟩ := I.pnd k hk
  rw [hy] at h1
  cases h1
  rcases h3 with ⟨_,_,_,W⟩ | ⟨_,g₂,v,z,rfl,_⟩
  ·exact offersAt_of_not_blocked (by rw [W.way.running]; simp) _ _
  ·exact offersAt_parked_send' _ _ _ _ _ _
 ·obtain ⟨n,_,hq⟩ := I.old j _ hj hy fun k hk e => hp ⟨k,hk,e⟩
  exact offersAt_of_not_blocked (by rcases hq.status with h | h <;> rw [h] <;> simp) _ _
theorem Inv.parks (I : Inv P W0 T ft gs w t st ix) (hk : k ∈ T.pend) {g₂ : Goroutine} {v z : Value} (hv : T.phi k v) (hq : ∃ n,QuitsD P n 0 (Conc.served g₂ undef)) :
  Inv P W0 T ft (gs.setIfInBounds (ix k) (parked g₂ #[scase T.c v z] .send)) w t (putAt st (ix k) .park) ix := by
 have hlt := I.ixr k hk
 refine { base := I.base,lt := I.lt,sub := I.sub,chan := I.chan,cnt := I.cnt,chft := I.chft,own := I.own,nd := I.nd,ixr := fun l hl => by simpa using I.ixr l hl,inj := I.inj,pnd := fun l hl => ?_,old := fun j y hj hy hnj => ?_,disj := fun a ha b hb hab wa fa wb fb e1 e2 => ?_,above := fun j hj => I.above j (by simpa using hj),hears := I.hears,clean := I.clean,known := I.known,done := I.done,seen := I.seen }
 ·by_cases hlk : l = k
  ·subst hlk
   obtain ⟨_,_,h2,_⟩ := I.pnd l hl
   exact ⟨_,Array.getElem?_setIfInBounds_self_of_lt hlt.2,h2,.inr ⟨putAt_self _ _ _,g₂,v,z,rfl,hv,hq⟩⟩
  ·have hne : ix k ≠ ix l := fun e => hlk (I.inj k hk l hl e).symm
   obtain ⟨y,h1,h2,h3⟩ := I.pnd l hl
   exact ⟨y,by rw [Array.getElem?_setIfInBounds_ne hne]; exact h1,h2,by rw [putAt_ne _ _ (Ne.symm hne)]; exact h3⟩
 ·have hne : ix k ≠ j := hnj k hk
  rw [Array.getElem?_setIfInBounds_ne hne] at hy
  rw [putAt_ne _ _ (Ne.symm hne)]
  exact I.old j y hj hy hnj
 ·by_cases hak : ix a = ix k
  ·rw [hak,putAt_self] at e1; cases e1
  ·by_cases hbk : ix b = ix k
   ·rw [hbk,putAt_self] at e2; cases e2
   ·rw [putAt_ne _ _ hak] at e1
    rw [putAt_ne _ _ hbk] at e2
    exact I.disj a ha b hb hab wa fa wb fb e1 e2
end
section
variable {P : Program} {W0 : World} {Post : Value → World → Prop} {T : Crew} {g g0 : Goroutine} {w w₁ w' : World} {ft : Foot} {gs gs' : Array Goroutine} {t : Trace} {st st' : Nat → WS} {ix : Nat → Nat} {i k : Nat} {sl : Option (Nat × Nat)}
theorem evs_nil (t : Trace) (i : Nat) (fn : FuncId) (pos : String) : t ++ MemOp.ofEvents i fn pos #[] = t := by
 rw [ofEvents_eq]
 simp
theorem JC.main (hrun : g.status = .running) (h : ∀ gs w₁ sl t st ix,RelyW ft w w₁ → gs[0]? = some g → Inv P W0 T ft gs w₁ t st ix → ∃ m' ops,runT P (crowd gs w₁ sl) 0 = (.next m',ops) ∧ Ends P Post m' (t ++ ops)) : JC P W0 Post T g w ft := by
 intro gs w₁ sl t st ix hrel h0 I
 have hacc := meas_acc I
 generalize hM : meas gs st = M at hacc
 generalize hn : gs.size = n at hacc
 induction hacc generalizing gs w₁ sl t st with
 | intro M _ ih =>
  obtain ⟨i,x,d,sl',hi,hx,hst⟩ := crowd_pick (P := P) (w := w₁) (sl := sl) (I.awake h0 (.inl hrun)) ⟨0,g,h0,hrun⟩
  rcases Nat.eq_zero_or_pos i with rfl | hpos
  ·obtain rfl : x = g := by rw [h0] at hi; exact (Option.some.inj hi).symm
   obtain ⟨m',ops,hr,he⟩ := h gs (w₁.at d) sl' t st ix (hrel.trans (relyW_at ft w₁ d)) h0 (I.at d)
   exact Ends.next (hst.trans hr) he
  ·have hi0 : (i == 0) = false := by simp; omega
   rcases (I.at d).other (sl := sl') (.inl hrun) h0 hpos hi hx with ⟨gs',w',ops,st',hr,hs,h0',hrel',I',hl,_⟩ | ⟨k,wi,fi,hk,rfl,e,g₂,v,z,hgo,hv,hq⟩
   ·subst hM hn
    exact Ends.next (hst.trans hr) (ih _ hl gs' w' sl' _ st' ((hrel.trans (relyW_at ft w₁ d)).trans hrel') h0' I' rfl hs)
   ·subst hM hn
    have hown := I.own (List.ne_nil_of_mem hk)
    obtain ⟨s,r,tm,hc⟩ := I.chan _ _ hown
    have hr := crowd_waits (P := P) (sl := sl') (gs := gs) (w := w₁.at d) hi (show stepG P (ix k == 0) x (w₁.at d) = _ from by rw [hi0]; exact hgo) fun cc hcc => by
     obtain rfl : cc = scase T.c v z := by simpa using hcc
     refine ways_send_none (w₁ := w₁.at d) hc (Nat.zero_le _) (partners_nil fun j y hy => ?_)
     rcases getElem?_stand _ _ _ _ hy with ⟨_,rfl⟩ | ⟨_,hy⟩
     ·rfl
     ·rcases Nat.eq_zero_or_pos j with rfl | hj
      ·rw [h0] at hy
       cases hy
       exact offersAt_of_not_blocked (by rw [hrun]; simp) _ _
      ·exact I.noRecv hj hy _
    refine Ends.next (hst.trans hr) ?_
    rw [evs_nil]
    have hlt := I.ixr k hk
    refine ih _ ?_ (gs.setIfInBounds (ix k) (parked g₂ #[scase T.c v z] .send)) (w₁.at d) sl' t (putAt st (ix k) .park) (hrel.trans (relyW_at ft w₁ d)) (by rw [Array.getElem?_setIfInBounds_ne (by omega)]; exact h0) ((I.at d).parks hk hv hq) rfl (by simp)
    exact meas_less hlt.2 hpos (by simp) hi (Array.getElem?_setIfInBounds_self_of_lt hlt.2) e (putAt_self _ _ _) .park fun j hj hji => ⟨Array.getElem?_setIfInBounds_ne (Ne.symm hji),putAt_ne _ _ hji⟩
theorem Inv.main (I : Inv P W0 T ft gs w t st ix) (_h0 : gs[0]? = some g) {g' : Goroutine} {es : Array Event} (hgu : GuarW ft w w' es) :
  Inv P W0 T (ft.ext w.heap.size w'.heap.size) ((gs.map (woken P g g' w')).setIfInBounds 0 g') w' (t ++ MemOp.ofEvents 0 g.frame.fn g.frame.place es) st ix := by
 have hsz := hgu.size
 have hdf := fun j => deaf_evs (t := t) (i := 0) (fn := g.frame.fn) (pos := g.frame.place) hgu.evs I.lt j
 have heap : ∀ b y,T.ch b = some y → w'.heap[b]? = w.heap[b]? := fun b y hb => by
  obtain ⟨s,r,tm,e⟩ := I.chan b y hb
  exact hgu.heap b (Array.getElem?_eq_some_iff.1 e).1 fun hw => I.chft b y hb (I.sub b hw)
 have hch : ∀ b y,T.ch b = some y → ∃ s r tm,w'.heap[b]? = some (.chan y.1 y.2.1 y.2.2 s r tm) := fun b y hb => by
  rw [heap b y hb]
  exact I.chan b y hb
 refine { base := ⟨hgu.tape.trans I.base.tape,hgu.os.trans I.base.os,hgu.output.trans I.base.output,Nat.le_trans I.base.size hsz⟩,lt := fun b hb => ?_,sub := fun b hb => ?_,chan := hch,cnt := fun b y s r tm hb hw => I.cnt b y s r tm hb (by rw [← heap b y hb]; exact hw),chft := fun b y hb hr => ?_,own := I.own,nd := I.nd,ixr := fun l hl => by simpa using I.ixr l hl,inj := I.inj,pnd := fun l hl => ?_,old := fun j y hj hy hnj => ?_,disj := I.disj,above := fun j hj => ?_,hears := by rw [hdf]; exact I.hears,clean := fun said => I.known.noRace (I.clean said) hgu.evs,known := I.known.own hgu.evs I.seen,done := fun j a ha hm => ?_,seen := ?_ }
 ·rcases hb with hb | hb
  ·exact Nat.lt_of_lt_of_le (I.lt b hb) hsz
  ·exact hb.2
 ·rcases hb with hb | hb
  ·exact .inl (I.sub b hb)
  ·exact .inr hb
 ·rcases hr with hr | hr
  ·exact I.chft b y hb hr
  ·obtain ⟨s,r,tm,e⟩ := I.chan b y hb
   have hlt : b < w.heap.size := (Array.getElem?_eq_some_iff.1 e).1
   omega
 ·obtain ⟨y,h1,h2,h3⟩ := I.pnd l hl
  have hpos := (I.ixr l hl).1
  refine ⟨y,moved_put (by omega) h1 (I.still hch _ _ hpos h1),by rw [hdf]; exact h2,h3.imp (fun ⟨wl,fl,e,V⟩ => ⟨wl,fl,e,?_⟩) id⟩
  have heq : ∀ b,fl.rd b → w'.heap[b]? = w.heap[b]? := fun b hb => hgu.heap b (V.lt b hb) fun hw => V.d2 b hw hb
  refine ⟨V.way,V.rely.trans ⟨heq,hsz,hgu.tape,hgu.os,hgu.output⟩,fun b hb => Nat.lt_of_lt_of_le (V.lt b hb) hsz,V.sub,V.ch,fun b hb hr => ?_,fun b hb hr => ?_,V.know.other hgu.evs V.d2 V.d1⟩
  ·rcases hr with hr | hr
   ·exact V.d1 b hb hr
   ·have := V.lt b (V.sub b hb)
    omega
  ·rcases hb with hb | hb
   ·exact V.d2 b hb hr
   ·have := V.lt b hr
    omega
 ·obtain ⟨z,hz,rfl⟩ := moved_get (by omega) hy
  obtain ⟨n,e,hqz⟩ := I.old j z hj hz hnj
  refine ⟨n,e,?_⟩
  rw [woken_quitsD hqz,hdf]
  exact hqz
 ·rw [hdf]
  exact I.above j (by simpa using hj)
 ·rcases touch_app ha with ⟨_,h⟩ | ⟨op,hop,hg,h⟩
  ·exact (I.done j a h hm).imp (·.app _) fun ⟨l,hl,e⟩ => ⟨l,hl,g_app e⟩
  ·have := knows_own hg
   rw [mem_g hop] at this
   exact .inl this
 ·exact seen_app (fun op hop => MemAct.low_mono hsz (I.seen op hop)) fun op hop => MemAct.low_mono hsz (low_events hgu.evs I.lt op hop)
theorem JC.closed (P : Program) (W0 : World) (Post : Value → World → Prop) (T : Crew) : Closed P true (JC P W0 Post T) where
 rely := fun h hr gs w₂ sl t st ix hrel h0 I => h gs w₂ sl t st ix (hr.trans hrel) h0 I
 step := fun hrun h => JC.main hrun fun gs w₁ sl t st ix hrel h0 I => by
  obtain ⟨g',w',es,hgo,hr',hgu,hJ⟩ := h w₁ hrel
  refine ⟨_,_,runT_crowd_go (P := P) (sl := sl) (i := 0) h0 (show stepG P (0 == 0) _ w₁ = _ from hgo),?_⟩
  exact hJ _ w' sl _ st ix (RelyW.refl _ _) (moved_own h0) (I.main h0 hgu)
theorem JC.last {f' : Foot} (hp : T.pend = []) (hrd : ∀ b,f'.rd b → ft.rd b ∨ (T.ch b).isSome = true) (hsub : ∀ b,f'.wr b → f'.rd b)
  (h : ∀ w₂,RelyW ft w w₂ → (∀ b,(T.ch b).isSome = true → b < w₂.heap.size) → J1 P W0 Post g w₂ f') : JC P W0 Post T g w ft := by
 intro gs w₁ sl t st ix hrel h0 I
 have hchl : ∀ b,(T.ch b).isSome = true → b < w₁.heap.size := fun b hb => by
  obtain ⟨x,hx⟩ := Option.isSome_iff_exists.1 hb
  obtain ⟨s,r,tm,e⟩ := I.chan b x hx
  exact (Array.getElem?_eq_some_iff.1 e).1
 refine h w₁ hrel hchl gs w₁ sl t (fun i => match st i with | .quit n => n | _ => 0) (fun b hb => (hrd b hb).elim (I.lt b) (hchl b)) hsub (RelyW.refl _ _) I.base h0 ⟨fun j y hj hy => ?_,I.above⟩ ?_
 ·obtain ⟨n,e,hq⟩ := I.old j y hj hy (by rw [hp]; simp)
  rw [e]
  exact hq
 ·have kn : ∀ i a,touchAt t i = some a → a.loc.isMemory = true → Knows t 0 i := fun i a ha hm => by
   rcases I.done i a ha hm with h | ⟨k,hk,_⟩
   ·exact h
   ·rw [hp] at hk
    cases hk
  refine ⟨I.clean,fun i a ha hm => .inl (kn i a ha hm),fun i x hx hne hc => ?_,I.hears,I.seen⟩
  obtain ⟨a,ha,hm,_⟩ := hc
  obtain ⟨q,z,h1,h2,h3⟩ := kn i a ha hm
  rcases h3 with rfl | h3
  ·unfold Trace.g? at hx
   rw [h1] at hx
   simp at hx
   omega
  ·exact ⟨q,by unfold Trace.g?; rw [h1]; simp [h2],h3⟩
end
def Crew.more (T : Crew) (k : Nat) : Crew := { T with pend := T.pend ++ [k] }
def Foot.lend (ft : Foot) : Foot := ⟨ft.rd,fun _ => False,ft.tag⟩
section
variable {P : Program} {W0 : World} {Post : Value → World → Prop} {T : Crew} {g g0 : Goroutine} {w w₁ w' : World} {ft : Foot} {gs gs' : Array Goroutine} {t : Trace} {st st' : Nat → WS} {ix : Nat → Nat} {i k : Nat} {sl : Option (Nat × Nat)}
def hired (c : Nat) (f0 : FuncId) (p0 : String) (f1 : FuncId) (p1 : String) : Trace := #[{ g := 0,fn := f0,pos := p0,act := .go c },{ g := c,fn := f1,pos := p1,act := .start }]
theorem hired_quiet (c : Nat) (f0 : FuncId) (p0 : String) (f1 : FuncId) (p1 : String) (g : Nat) : ∀ op ∈ hired c f0 p0 f1 p1,∀ d,deafStep g d op = d := by
 intro op hop d
 simp only [hired,List.mem_toArray,List.mem_cons,List.not_mem_nil,or_false] at hop
 rcases hop with rfl | rfl <;> rfl
theorem hired_mute (c : Nat) (f0 : FuncId) (p0 : String) (f1 : FuncId) (p1 : String) : ∀ op ∈ hired c f0 p0 f1 p1,op.act.touch? = none := by
 intro op hop
 simp only [hired,List.mem_toArray,List.mem_cons,List.not_mem_nil,or_false] at hop
 rcases hop with rfl | rfl <;> rfl
theorem hired_low (c : Nat) (f0 : FuncId) (p0 : String) (f1 : FuncId) (p1 : String) (n : Nat) : ∀ op ∈ hired c f0 p0 f1 p1,op.act.low n := by
 intro op hop
 simp only [hired,List.mem_toArray,List.mem_cons,List.not_mem_nil,or_false] at hop
 rcases hop with rfl | rfl <;> trivial
theorem Inv.hire (I : Inv P W0 T ft gs w t st ix) (hlt0 : 0 < gs.size) (hk : k ∉ T.pend) (hown : T.ch T.c = some (0,#[],false)) {g' child : Goroutine} (hto : Toward P (AtSend P T.c (T.phi k)) child w ft.lend) (f0 : FuncId) (p0 : String) (f1 : FuncId) (p1 : String) :
  Inv P W0 (T.more k) ft.lend ((gs.setIfInBounds 0 g').push child) w (t ++ hired gs.size f0 p0 f1 p1) (putAt st gs.size (.way w ft.lend)) (putAt ix k gs.size) := by
 have hd := fun j => Deaf_quiet (t := t) (hired_quiet gs.size f0 p0 f1 p1 j)
 have hmu := hired_mute gs.size f0 p0 f1 p1
 have hix : ∀ l ∈ T.pend,putAt ix k gs.size l = ix l := fun l hl => putAt_ne _ _ fun e => hk (e ▸ hl)
 have hmem : ∀ {l},l ∈ (T.more k).pend → l ∈ T.pend ∨ l = k := fun hl => by simpa [Crew.more] using hl
 have hget : ∀ l ∈ T.pend,((gs.setIfInBounds 0 g').push child)[ix l]? = gs[ix l]? := fun l hl => by
  have := I.ixr l hl
  rw [Array.getElem?_push_lt (by simpa using this.2),Array.getElem_setIfInBounds (by simpa using this.2),if_neg (by omega),Array.getElem?_eq_getElem this.2]
 have hst : ∀ l ∈ T.pend,putAt st gs.size (.way w ft.lend) (ix l) = st (ix l) := fun l hl => putAt_ne _ _ (by have := I.ixr l hl; omega)
 have hkn : putAt ix k gs.size k = gs.size := putAt_self _ _ _
 have e0 : (t ++ hired gs.size f0 p0 f1 p1)[t.size]? = some { g := 0,fn := f0,pos := p0,act := .go gs.size } := by simp [hired]
 have e1 : (t ++ hired gs.size f0 p0 f1 p1)[t.size + 1]? = some { g := gs.size,fn := f1,pos := p1,act := .start } := by simp [hired]
 have edge : HappensBefore (t ++ hired gs.size f0 p0 f1 p1) t.size (t.size + 1) :=
  Relation.TransGen.single (.inr ⟨.spawn (act?_of e0) (act?_of e1) (g?_of e1),⟨0,g?_of e0,by rw [deaf_old (Nat.le_refl _)]; exact I.hears⟩,⟨gs.size,g?_of e1,by rw [deaf_quiet (hired_quiet gs.size f0 p0 f1 p1 gs.size) 1 (by simp [hired])]; exact I.above _ (Nat.le_refl _)⟩⟩)
 refine { base := I.base,lt := I.lt,sub := fun _ h => h.elim,chan := I.chan,cnt := I.cnt,chft := I.chft,own := fun _ => hown,nd := ?_,ixr := fun l hl => ?_,inj := fun a ha b hb e => ?_,pnd := fun l hl => ?_,old := fun j y hj hy hnj => ?_,disj := fun a ha b hb hab wa fa wb fb x1 x2 => ?_,above := fun j hj => ?_,hears := by rw [hd]; exact I.hears,clean := fun said => noRace_appendMute (I.clean said) hmu,known := (I.known.less (f' := ft.lend) (fun _ h => h) (fun _ h => h.elim)).mute hmu,done := fun j a ha hm => ?_,seen := seen_app I.seen (hired_low _ _ _ _ _ _) }
 ·show (T.pend ++ [k]).Nodup
  rw [List.nodup_append]
  exact ⟨I.nd,by simp,fun a ha b hb => by simp at hb; subst hb; exact fun e => hk (e ▸ ha)⟩
 ·rcases hmem hl with h | rfl
  ·rw [hix l h]
   have := I.ixr l h
   exact ⟨this.1,by simp; omega⟩
  ·rw [hkn]
   exact ⟨hlt0,by simp⟩
 ·rcases hmem ha with h | rfl <;> rcases hmem hb with h' | rfl
  ·rw [hix a h,hix b h'] at e
   exact I.inj a h b h' e
  ·rw [hix a h,hkn] at e
   have := I.ixr a h
   omega
  ·rw [hix b h',hkn] at e
   have := I.ixr b h'
   omega
  ·rfl
 ·rcases hmem hl with h | rfl
  ·rw [hix l h,hget l h,hst l h,hd]
   obtain ⟨y,h1,h2,h3⟩ := I.pnd l h
   exact ⟨y,h1,h2,h3.imp (fun ⟨wl,fl,e,V⟩ => ⟨wl,fl,e,V.way,V.rely,V.lt,V.sub,V.ch,V.d1,fun _ h => h.elim,V.know.mute hmu⟩) id⟩
  ·rw [hkn,hd,putAt_self]
   refine ⟨child,by rw [Array.getElem?_push,if_pos (by simp)],I.above _ (Nat.le_refl _),.inl ⟨w,_,rfl,hto,RelyW.refl _ _,I.lt,fun _ h => h.elim,I.chft,fun _ h => h.elim,fun _ h => h.elim,fun j a ha hm => ?_⟩⟩
   rcases touch_app ha with ⟨_,h⟩ | ⟨op,hop,_,h⟩
   ·rcases I.known j a h hm with hh | hh
    ·exact .inl ⟨t.size + 1,_,e1,rfl,.inr ((hh.hb_new (Nat.le_refl _) e0 rfl).trans edge)⟩
    ·exact .inr fun b hb => ⟨fun h => h.elim,(hh b hb).2⟩
   ·rw [hmu op hop] at h; cases h
 ·have hjs : j ≠ gs.size := fun e => hnj k (by simp [Crew.more]) (by rw [hkn]; exact e.symm)
  have hlt : j < gs.size := by
   have := (Array.getElem?_eq_some_iff.1 hy).1
   simp at this
   omega
  rw [Array.getElem?_push_lt (by simpa using hlt),Array.getElem_setIfInBounds (by simpa using hlt),if_neg (by omega),← Array.getElem?_eq_getElem hlt] at hy
  obtain ⟨n,e,hq⟩ := I.old j y hj hy fun l hl e => hnj l (by simp [Crew.more,hl]) (by rw [hix l hl]; exact e)
  exact ⟨n,by rw [putAt_ne _ _ hjs]; exact e,by rw [hd]; exact hq⟩
 ·rcases hmem ha with h | rfl <;> rcases hmem hb with h' | rfl
  ·rw [hix a h,hst a h] at x1
   rw [hix b h',hst b h'] at x2
   exact I.disj a h b h' hab wa fa wb fb x1 x2
  ·rw [hix a h,hst a h] at x1
   rw [hkn,putAt_self] at x2
   cases x2
   obtain ⟨y,_,_,h3⟩ := I.pnd a h
   rcases h3 with ⟨wl,fl,e,V⟩ | ⟨e,_⟩
   ·rw [e] at x1
    cases x1
    exact V.d1
   ·rw [e] at x1
    cases x1
  ·rw [hkn,putAt_self] at x1
   cases x1
   exact fun _ h => h.elim
  ·exact absurd rfl hab
 ·rw [hd]
  exact I.above j (by simp at hj; omega)
 ·rcases done_mute (ix := ix) I.done hmu j a ha hm with h | ⟨l,hl,e⟩
  ·exact .inl h
  ·exact .inr ⟨l,by simp [Crew.more,hl],by rw [hix l hl]; exact e⟩
theorem JC.spawn (hrun : g.status = .running) (hk : k ∉ T.pend) (hown : T.ch T.c = some (0,#[],false))
  (h : ∀ w₁,RelyW ft w w₁ → ∃ g' child,stepG P true g w₁ = .spawn g' child w₁ #[] ∧ Toward P (AtSend P T.c (T.phi k)) child w₁ ft.lend ∧ JC P W0 Post (T.more k) g' w₁ ft.lend) : JC P W0 Post T g w ft :=
 JC.main hrun fun gs w₁ sl t st ix hrel h0 I => by
  obtain ⟨g',child,hgo,hto,hJ⟩ := h w₁ hrel
  have hlt0 : 0 < gs.size := (Array.getElem?_eq_some_iff.1 h0).1
  refine ⟨_,_,runT_crowd_spawn (P := P) (sl := sl) (i := 0) h0 (show stepG P (0 == 0) _ w₁ = _ from hgo),?_⟩
  have e : t ++ ((MemOp.ofEvents 0 g.frame.fn g.frame.place #[]).push { g := 0,fn := g.frame.fn,pos := g.frame.place,act := .go gs.size } |>.push { g := gs.size,fn := child.frame.fn,pos := g.frame.place,act := .start }) = t ++ hired gs.size g.frame.fn g.frame.place child.frame.fn g.frame.place := by
   rw [ofEvents_eq]
   simp [hired]
  rw [e]
  refine hJ _ w₁ sl _ _ _ (RelyW.refl _ _) ?_ (I.hire hlt0 hk hown hto _ _ _ _)
  rw [Array.getElem?_push_lt (by simpa using hlt0),Array.getElem_setIfInBounds (by simpa using hlt0)]
  simp
end
section
variable {P : Program} {W0 : World} {Post : Value → World → Prop} {T : Crew} {g g0 : Goroutine} {w w₁ w' : World} {ft : Foot} {gs gs' : Array Goroutine} {t : Trace} {st st' : Nat → WS} {ix : Nat → Nat} {i k : Nat} {sl : Option (Nat × Nat)}
theorem mem_less {l : Nat} (h : l ∈ (T.less k).pend) : l ∈ T.pend := List.mem_of_mem_erase h
theorem ne_less {l : Nat} (hn : T.pend.Nodup) (h : l ∈ (T.less k).pend) : l ≠ k := fun e => by
 subst e
 exact (hn.not_mem_erase) h
theorem less_mem {l : Nat} (h : l ∈ T.pend) (hne : l ≠ k) : l ∈ (T.less k).pend := (List.mem_erase_of_ne hne).2 h
theorem passed_heap (w : World) (c s r : Nat) (tm : Bool) (b : Nat) : (w.setChan c 0 #[] false s r tm).heap[b]? = if b = c ∧ c < w.heap.size then some (.chan 0 #[] false s r tm) else w.heap[b]? := by
 unfold World.setChan
 by_cases h : c = b
 ·subst h
  by_cases hl : c < w.heap.size
  ·simp [hl]
  ·simp [hl]
 ·rw [if_neg (fun e => h e.1.symm)]
  simp [Array.getElem?_setIfInBounds_ne h]
theorem Inv.handed (I : Inv P W0 T ft gs w t st ix) (hk : k ∈ T.pend) {s r : Nat} {tm : Bool} (hc : w.heap[T.c]? = some (.chan 0 #[] false s r tm)) (hs : gs'.size = gs.size) {y : Goroutine} {n : Nat} (hy : gs'[ix k]? = some y) (hq : QuitsD P n 0 y)
  (ho : ∀ j,0 < j → j ≠ ix k → gs'[j]? = gs[j]?) (d : Nat) (fh : FuncId) (ph : String) (fj : FuncId) (pj : String) :
  Inv P W0 (T.less k) ft gs' ((w.at d).setChan T.c 0 #[] false (s + 1) (r + 1) tm) (t ++ met (ix k) 0 fh ph fj pj T.c s 0) (putAt st (ix k) (.quit n)) ix := by
 have hown := I.own (List.ne_nil_of_mem hk)
 have hsr : s = r := by have := I.cnt _ _ s r tm hown hc; simpa using this
 have hclt : T.c < w.heap.size := (Array.getElem?_eq_some_iff.1 hc).1
 have hd := fun j => Deaf_quiet (t := t) (met_quiet (ix k) 0 fh ph fj pj T.c s 0 j)
 have hmu := met_mute (ix k) 0 fh ph fj pj T.c s 0
 have hpas := fun b => passed_heap (w.at d) T.c (s + 1) (r + 1) tm b
 have hpos := (I.ixr k hk).1
 have e0 : (t ++ met (ix k) 0 fh ph fj pj T.c s 0)[t.size]? = some { g := ix k,fn := fh,pos := ph,act := .send T.c s } := by simp [met]
 have e3 : (t ++ met (ix k) 0 fh ph fj pj T.c s 0)[t.size + 3]? = some { g := 0,fn := fj,pos := pj,act := .recvDone T.c s } := by simp [met]
 have hdk : Deaf t (ix k) = 0 := by
  obtain ⟨_,_,h2,_⟩ := I.pnd k hk
  exact h2
 have edge : HappensBefore (t ++ met (ix k) 0 fh ph fj pj T.c s 0) t.size (t.size + 3) :=
  Relation.TransGen.single (.inr ⟨.handOver (act?_of e0) (act?_of e3),⟨ix k,g?_of e0,by rw [deaf_old (Nat.le_refl _)]; exact hdk⟩,⟨0,g?_of e3,by rw [deaf_quiet (met_quiet (ix k) 0 fh ph fj pj T.c s 0 0) 3 (by simp [met])]; exact I.hears⟩⟩)
 have heap : ∀ b,b ≠ T.c → ((w.at d).setChan T.c 0 #[] false (s + 1) (r + 1) tm).heap[b]? = w.heap[b]? := fun b hb => by
  rw [hpas,if_neg (fun e => hb e.1)]
  rfl
 have rel : ∀ {f : Foot},¬ f.rd T.c → RelyW f w ((w.at d).setChan T.c 0 #[] false (s + 1) (r + 1) tm) := fun hn =>
  ⟨fun b hb => heap b fun e => hn (e ▸ hb),by simp [World.setChan,World.at],rfl,rfl,rfl⟩
 have hsz : ((w.at d).setChan T.c 0 #[] false (s + 1) (r + 1) tm).heap.size = w.heap.size := by simp [World.setChan,World.at]
 have hst : ∀ l ∈ (T.less k).pend,putAt st (ix k) (.quit n) (ix l) = st (ix l) := fun l hl => putAt_ne _ _ fun e => ne_less I.nd hl (I.inj l (mem_less hl) k hk e)
 refine { base := ⟨I.base.tape,I.base.os,I.base.output,by rw [hsz]; exact I.base.size⟩,lt := fun b hb => by rw [hsz]; exact I.lt b hb,sub := I.sub,chan := fun b x hb => ?_,cnt := fun b x s' r' tm' hb hw => ?_,chft := I.chft,own := fun _ => hown,nd := I.nd.erase _,ixr := fun l hl => by rw [hs]; exact I.ixr l (mem_less hl),inj := fun a ha b hb e => I.inj a (mem_less ha) b (mem_less hb) e,pnd := fun l hl => ?_,old := fun j z hj hz hnj => ?_,disj := fun a ha b hb hab wa fa wb fb x1 x2 => ?_,above := fun j hj => by rw [hd]; exact I.above j (by omega),hears := by rw [hd]; exact I.hears,clean := fun said => noRace_appendMute (I.clean said) hmu,known := I.known.mute hmu,done := fun j a ha hm => ?_,seen := ?_ }
 ·by_cases hbc : b = T.c
  ·subst hbc
   rw [show (T.less k).ch T.c = T.ch T.c from rfl,hown] at hb
   cases hb
   exact ⟨_,_,_,by rw [hpas,if_pos ⟨rfl,hclt⟩]⟩
  ·rw [heap b hbc]
   exact I.chan b x hb
 ·by_cases hbc : b = T.c
  ·subst hbc
   rw [show (T.less k).ch T.c = T.ch T.c from rfl,hown] at hb
   cases hb
   rw [hpas,if_pos ⟨rfl,hclt⟩] at hw
   simp only [Option.some.injEq,Obj.chan.injEq] at hw
   obtain ⟨_,_,_,rfl,rfl,_⟩ := hw
   simp [hsr]
  ·rw [heap b hbc] at hw
   exact I.cnt b x s' r' tm' hb hw
 ·obtain ⟨z,h1,h2,h3⟩ := I.pnd l (mem_less hl)
  have hne : ix l ≠ ix k := fun e => ne_less I.nd hl (I.inj l (mem_less hl) k hk e)
  refine ⟨z,by rw [ho _ (I.ixr l (mem_less hl)).1 hne]; exact h1,by rw [hd]; exact h2,?_⟩
  rw [hst l hl]
  refine h3.imp (fun ⟨wl,fl,e,V⟩ => ⟨wl,fl,e,V.way,V.rely.trans (rel (V.ch _ _ hown)),fun b hb => by rw [hsz]; exact V.lt b hb,V.sub,V.ch,V.d1,V.d2,V.know.mute hmu⟩) id
 ·by_cases hjk : j = ix k
  ·subst hjk
   rw [hy] at hz
   cases hz
   exact ⟨n,putAt_self _ _ _,by rw [hd,hdk]; exact hq⟩
  ·rw [ho j hj hjk] at hz
   rw [putAt_ne _ _ hjk,hd]
   exact I.old j z hj hz fun l hl e => by
    by_cases hlk : l = k
    ·subst hlk
     exact hjk e.symm
    ·exact hnj l (less_mem hl hlk) e
 ·rw [hst a ha] at x1
  rw [hst b hb] at x2
  exact I.disj a (mem_less ha) b (mem_less hb) hab wa fa wb fb x1 x2
 ·rcases touch_app ha with ⟨_,h⟩ | ⟨op,hop,_,h⟩
  ·rcases I.done j a h hm with h | ⟨l,hl,e⟩
   ·exact .inl (h.app _)
   ·by_cases hlk : l = k
    ·subst hlk
     obtain ⟨z,hz,hzg⟩ := Option.map_eq_some_iff.1 e
     have hkn : Knows t (ix l) j := by
      have := knows_own hz
      rwa [hzg] at this
     exact .inl ⟨t.size + 3,_,e3,rfl,.inr ((hkn.hb_new (Nat.le_refl _) e0 rfl).trans edge)⟩
    ·exact .inr ⟨l,less_mem hl hlk,g_app e⟩
  ·rw [hmu op hop] at h; cases h
 ·rw [hsz]
  refine seen_app I.seen fun op hop => ?_
  simp only [met,List.mem_toArray,List.mem_cons,List.not_mem_nil,or_false] at hop
  rcases hop with rfl | rfl | rfl | rfl <;> exact hclt
theorem passed_rely {f : Foot} {c s r d : Nat} {tm : Bool} (hn : ¬ f.rd c) : RelyW f w ((w.at d).setChan c 0 #[] false s r tm) :=
 ⟨fun b hb => by
  have hne : b ≠ c := fun e => hn (e ▸ hb)
  rw [passed_heap,if_neg (fun e => hne e.1)]
  rfl,by simp [World.setChan,World.at],rfl,rfl,rfl⟩
theorem evs_front (u : Trace) (i : Nat) (fn : FuncId) (pos : String) : MemOp.ofEvents i fn pos #[] ++ u = u := by
 rw [ofEvents_eq]
 simp
theorem Inv.front (I : Inv P W0 T ft gs w t st ix) (hs : gs'.size = gs.size) (ho : ∀ j,0 < j → gs'[j]? = gs[j]?) : Inv P W0 T ft gs' w t st ix where
 base := I.base
 lt := I.lt
 sub := I.sub
 chan := I.chan
 cnt := I.cnt
 chft := I.chft
 own := I.own
 nd := I.nd
 ixr := fun k hk => by rw [hs]; exact I.ixr k hk
 inj := I.inj
 pnd := fun k hk => by
  rw [ho _ (I.ixr k hk).1]
  exact I.pnd k hk
 old := fun i g hi hg hn => I.old i g hi (by rw [← ho i hi]; exact hg) hn
 disj := I.disj
 above := fun j hj => I.above j (by omega)
 hears := I.hears
 clean := I.clean
 known := I.known
 done := I.done
 seen := I.seen
theorem finish_recv {g₂ : Goroutine} {cs : Array CommCase} {ok : Bool} {v : Value} : g₂.finishComm P cs (.recv ok) 0 v true = Conc.served g₂ (recvd ok v true) := finishComm_recv P g₂ cs ok 0 v true
theorem park_ends {g₂ : Goroutine} {z : Value} {ok : Bool} (hp : T.pend ≠ []) (hN : ∀ k ∈ T.pend,∀ v,T.phi k v → JC P W0 Post (T.less k) (Conc.served g₂ (recvd ok v true)) w ft) (h0 : gs[0]? = some (parked g₂ #[rcase T.c z] (.recv ok))) (hrel : RelyW ft w w₁)
  (I : Inv P W0 T ft gs w₁ t st ix) (hnp : ∀ k ∈ T.pend,st (ix k) ≠ .park) : Ends P Post (crowd gs w₁ sl) t := by
 have hown := I.own hp
 have hm : MainOk T (parked g₂ #[rcase T.c z] (.recv ok)) := .inr ⟨g₂,z,_,rfl,hown⟩
 have hacc := meas_acc I
 generalize hM : meas gs st = M at hacc
 generalize hn : gs.size = n at hacc
 induction hacc generalizing gs w₁ sl t st with
 | intro M _ ih =>
  obtain ⟨l,hl⟩ := List.exists_mem_of_ne_nil _ hp
  obtain ⟨y,hy,_,h3⟩ := I.pnd l hl
  have hyr : y.status = .running := by
   rcases h3 with ⟨_,_,_,V⟩ | ⟨e,_⟩
   ·exact V.way.running
   ·exact absurd e (hnp l hl)
  obtain ⟨i,x,d,sl',hi,hx,hst⟩ := crowd_pick (P := P) (w := w₁) (sl := sl) (I.awake h0 hm) ⟨ix l,y,hy,hyr⟩
  have hpos : 0 < i := by
   rcases Nat.eq_zero_or_pos i with rfl | h
   ·rw [h0] at hi
    cases hi
    cases hx
   ·exact h
  have hi0 : (i == 0) = false := by simp; omega
  rcases (I.at d).other (sl := sl') hm h0 hpos hi hx with ⟨gs',w',ops,st',hr,hs,h0',hrel',I',hl',hpk⟩ | ⟨k,wi,fi,hk,rfl,e,gk,v,zk,hgo,hv,n,hq⟩
  ·subst hM hn
   exact Ends.next (hst.trans hr) (ih _ hl' h0' ((hrel.trans (relyW_at ft w₁ d)).trans hrel') I' (fun k hk e => hnp k hk (hpk _ e)) rfl hs)
  ·obtain ⟨s,r,tm,hc⟩ := I.chan _ _ hown
   have hlt := I.ixr k hk
   have hmem : ∀ j b,(j,b) ∈ partners (gs.setIfInBounds (ix k) ph) T.c false → j = 0 ∧ b = 0 := fun j b hjb => by
    obtain ⟨y,hy,hb⟩ := mem_partners.1 hjb
    rcases getElem?_stand _ _ _ _ hy with ⟨_,rfl⟩ | ⟨_,hy⟩
    ·cases hb
    ·rcases Nat.eq_zero_or_pos j with rfl | hj
     ·rw [h0] at hy
      cases hy
      rw [offersAt_parked_recv,if_pos rfl] at hb
      exact ⟨rfl,by simpa using hb⟩
     ·rw [I.noRecv hj hy] at hb
      cases hb
   have h0k : (gs.setIfInBounds (ix k) ph)[0]? = some (parked g₂ #[rcase T.c z] (.recv ok)) := by rw [Array.getElem?_setIfInBounds_ne (by omega)]; exact h0
   obtain ⟨j,gj,zj,shj,d2,hij,hgj,hr⟩ := crowd_send_meets_some (P := P) (sl := sl') (gs := gs) (w := w₁.at d) (w₁ := w₁.at d) hi (show stepG P (ix k == 0) x (w₁.at d) = _ from by rw [hi0]; exact hgo) (show (w₁.at d).heap[T.c]? = _ from hc)
    (fun e => by
     have : (0,0) ∈ partners (gs.setIfInBounds (ix k) ph) T.c false := mem_partners.2 ⟨_,h0k,by rw [offersAt_parked_recv,if_pos rfl]; simp⟩
     rw [e] at this
     cases this)
    (fun j b hjb => by
     obtain ⟨rfl,rfl⟩ := hmem j b hjb
     exact ⟨rfl,by omega,g₂,z,_,h0⟩)
   have hj0 : j = 0 := by
    rcases Nat.eq_zero_or_pos j with h | h
    ·exact h
    ·have := I.noRecv h hgj T.c
     rw [offersAt_parked_recv,if_pos rfl] at this
     cases this
   subst hj0
   rw [h0] at hgj
   have hpe : parked g₂ #[rcase T.c z] (.recv ok) = parked gj #[rcase T.c zj] shj := Option.some.inj hgj
   have hoff := congrArg Goroutine.offers hpe
   simp only [parked,rcase,Option.some.injEq,Prod.mk.injEq] at hoff
   obtain ⟨ho1,rfl⟩ := hoff
   have hz : z = zj := by simpa using ho1
   subst hz
   have hgeq : gj.finishComm P #[rcase T.c z] (.recv ok) 0 v true = Conc.served g₂ (recvd ok v true) := by
    rw [← finish_recv (P := P) (cs := #[rcase T.c z]),← finishComm_parked P gj _ #[rcase T.c z] _ (.recv ok),← hpe,finishComm_parked]
   have hsr : s = r := by have := I.cnt _ _ s r tm hown hc; simpa using this
   subst hsr
   subst hM hn
   rw [hgeq,finishComm_send] at hr
   refine Ends.next (hst.trans hr) ?_
   rw [evs_front]
   exact hN k hk v hv _ _ sl' _ _ ix (hrel.trans ((relyW_at ft w₁ d).trans (passed_rely (I.chft _ _ hown)))) (by rw [Array.getElem?_setIfInBounds_ne (by omega),Array.getElem?_setIfInBounds_self_of_lt (by omega)])
    ((I.at d).handed (n := n) (y := Conc.served gk undef) hk hc (by simp) (Array.getElem?_setIfInBounds_self_of_lt (by simpa using hlt.2)) hq
     (fun j h1 h2 => by rw [Array.getElem?_setIfInBounds_ne (Ne.symm h2),Array.getElem?_setIfInBounds_ne (by omega)]) d2 gk.frame.fn gk.frame.place gj.frame.fn gj.frame.place)
theorem Inv.sends (I : Inv P W0 T ft gs w t st ix) {j b : Nat} {y : Goroutine} (hj : 0 < j) (hy : gs[j]? = some y) (hb : b ∈ offersAt y T.c true) : ∃ k ∈ T.pend,ix k = j ∧ b = 0 ∧ ParkOk P T k y := by
 by_cases hp : ∃ k ∈ T.pend,ix k = j
 ·obtain ⟨k,hk,rfl⟩ := hp
  obtain ⟨z,h1,_,h3⟩ := I.pnd k hk
  rw [hy] at h1
  cases h1
  rcases h3 with ⟨_,_,_,W⟩ | ⟨_,hpk⟩
  ·rw [offersAt_of_not_blocked (by rw [W.way.running]; simp)] at hb
   cases hb
  ·refine ⟨k,hk,rfl,?_,hpk⟩
   obtain ⟨g₂,v,z,rfl,_⟩ := hpk
   rw [offersAt_parked_send,if_pos rfl] at hb
   simpa using hb
 ·obtain ⟨n,_,hq⟩ := I.old j _ hj hy fun k hk e => hp ⟨k,hk,e⟩
  rw [offersAt_of_not_blocked (by rcases hq.status with h | h <;> rw [h] <;> simp)] at hb
  cases hb
theorem JC.recv (hrun : g.status = .running) (hp : T.pend ≠ []) {ok : Bool}
  (h : ∀ w₁,RelyW ft w w₁ → ∃ g₂ z,stepG P true g w₁ = .comm g₂ #[rcase T.c z] true (.recv ok) w₁ #[] ∧ ∀ k ∈ T.pend,∀ v,T.phi k v → JC P W0 Post (T.less k) (Conc.served g₂ (recvd ok v true)) w₁ ft) : JC P W0 Post T g w ft :=
 JC.main hrun fun gs w₁ sl t st ix hrel h0 I => by
  obtain ⟨g₂,z,hgo,hN⟩ := h w₁ hrel
  have hown := I.own hp
  obtain ⟨s,r,tm,hc⟩ := I.chan _ _ hown
  have hlt0 : 0 < gs.size := (Array.getElem?_eq_some_iff.1 h0).1
  have hsr : s = r := by have := I.cnt _ _ s r tm hown hc; simpa using this
  subst hsr
  by_cases hpk : ∃ k ∈ T.pend,st (ix k) = .park
  ·obtain ⟨k0,hk0,e0⟩ := hpk
   obtain ⟨y0,hy0,_,h3⟩ := I.pnd k0 hk0
   have hpar : ParkOk P T k0 y0 := by
    rcases h3 with ⟨_,_,e,_⟩ | ⟨_,hpk⟩
    ·rw [e0] at e; cases e
    ·exact hpk
   have hpos0 := (I.ixr k0 hk0).1
   obtain ⟨j,gj,vj,zj,shj,d,hij,hgj,hr⟩ := crowd_recv_meets_some (P := P) (sl := sl) (gs := gs) (w := w₁) (w₁ := w₁) (i := 0) h0 (show stepG P (0 == 0) _ w₁ = _ from hgo) hc
    (fun e => by
     obtain ⟨gp,vp,zp,rfl,_⟩ := hpar
     have : (ix k0,0) ∈ partners (gs.setIfInBounds 0 ph) T.c true := mem_partners.2 ⟨_,by rw [Array.getElem?_setIfInBounds_ne (by omega)]; exact hy0,by rw [offersAt_parked_send,if_pos rfl]; simp⟩
     rw [e] at this
     cases this)
    (fun j b hjb => by
     obtain ⟨y,hy,hb⟩ := mem_partners.1 hjb
     rcases getElem?_stand _ _ _ _ hy with ⟨_,rfl⟩ | ⟨hj0,hy⟩
     ·cases hb
     ·obtain ⟨k,hk,rfl,rfl,gp,vp,zp,rfl,_⟩ := I.sends (by omega) hy hb
      exact ⟨rfl,hj0,gp,vp,zp,_,hy⟩)
   obtain ⟨k,hk,rfl,_,gp,vp,zp,hpe,hv,n,hq⟩ := I.sends (b := 0) (Nat.pos_of_ne_zero hij) hgj (by rw [offersAt_parked_send,if_pos rfl]; simp)
   have hoff := congrArg Goroutine.offers hpe
   simp only [parked,scase,Option.some.injEq,Prod.mk.injEq] at hoff
   obtain ⟨ho1,rfl⟩ := hoff
   have hz : vj = vp ∧ zj = zp := by simpa using ho1
   obtain ⟨rfl,rfl⟩ := hz
   have hgeq : gj.finishComm P #[scase T.c vj zj] .send 0 undef false = Conc.served gp undef := by
    rw [← finishComm_send P gp #[scase T.c vj zj] 0 undef false,← finishComm_parked P gj _ #[scase T.c vj zj] _ .send,hpe,finishComm_parked]
   refine ⟨_,_,hr,?_⟩
   rw [hgeq,finish_recv,evs_front]
   have hlt := I.ixr k hk
   exact hN k hk vj hv _ _ sl _ _ ix (passed_rely (I.chft _ _ hown)) (Array.getElem?_setIfInBounds_self_of_lt (by simpa using hlt0))
    (I.handed (n := n) (y := Conc.served gp undef) hk hc (by simp) (by rw [Array.getElem?_setIfInBounds_ne (by omega)]; exact Array.getElem?_setIfInBounds_self_of_lt hlt.2) hq
     (fun j h1 h2 => by rw [Array.getElem?_setIfInBounds_ne (by omega),Array.getElem?_setIfInBounds_ne (Ne.symm h2)]) d gj.frame.fn gj.frame.place g₂.frame.fn g₂.frame.place)
  ·have hr := crowd_waits (P := P) (sl := sl) (gs := gs) (w := w₁) (i := 0) h0 (show stepG P (0 == 0) _ w₁ = _ from hgo) fun cc hcc => by
    obtain rfl : cc = rcase T.c z := by simpa using hcc
    refine ways_recv_none hc (partners_nil fun j y hy => ?_)
    rcases getElem?_stand _ _ _ _ hy with ⟨_,rfl⟩ | ⟨hj0,hy⟩
    ·rfl
    ·cases e : offersAt y T.c true with
     | nil => rfl
     | cons b l =>
      obtain ⟨k,hk,rfl,rfl,gp,vp,zp,rfl,_⟩ := I.sends (b := b) (by omega) hy (by rw [e]; simp)
      exfalso
      obtain ⟨z',h1,_,h3⟩ := I.pnd k hk
      rw [hy] at h1
      cases h1
      rcases h3 with ⟨_,_,_,W⟩ | ⟨e',_⟩
      ·have := W.way.running
       cases this
      ·exact hpk ⟨k,hk,e'⟩
   refine ⟨_,_,hr,?_⟩
   rw [evs_nil]
   have h0' : (gs.setIfInBounds 0 (parked g₂ #[rcase T.c z] (.recv ok)))[0]? = some (parked g₂ #[rcase T.c z] (.recv ok)) := Array.getElem?_setIfInBounds_self_of_lt hlt0
   refine park_ends hp hN h0' (RelyW.refl _ _) (I.front (by simp) fun j hj => Array.getElem?_setIfInBounds_ne (by omega)) fun k hk e => hpk ⟨k,hk,e⟩
end
section
variable {P : Program} {W0 : World} {Post : Value → World → Prop} {T : Crew} {g : Goroutine} {w w₁ w' : World} {ft f' : Foot}
theorem J1.crew (hp : T.pend = []) (hch : ∀ b x,T.ch b = some x → ft.rd b ∧ x.2 = (#[],false) ∧ w.heap[b]? = some (.chan x.1 #[] false 0 0 false))
  (hrd : ∀ b,f'.rd b → ft.rd b ∧ T.ch b = none) (hwr : ∀ b,f'.wr b → ft.wr b ∧ f'.rd b) (h : JC P W0 Post T g w f') : J1 P W0 Post g w ft := by
 intro gs w₁ sl t q hbd hsub hrel hbase h0 hL hP
 have heap : ∀ b x,T.ch b = some x → w₁.heap[b]? = some (.chan x.1 x.2.1 x.2.2 0 0 false) := fun b x hb => by
  obtain ⟨h1,h2,h3⟩ := hch b x hb
  rw [hrel.heap b h1,h3,h2]
 have no : ∀ k,k ∉ T.pend := fun k hk => by rw [hp] at hk; cases hk
 refine h gs w₁ sl t (fun i => .quit (q i)) (fun _ => 0) ⟨fun b hb => hrel.heap b (hrd b hb).1,hrel.size,hrel.tape,hrel.os,hrel.output⟩ h0
  { base := hbase,lt := fun b hb => hbd b (hrd b hb).1,sub := fun b hb => (hwr b hb).2,chan := fun b x hb => ⟨0,0,false,heap b x hb⟩,cnt := fun b x s r tm hb hw => ?_,chft := fun b x hb hr => ?_,own := fun hne => absurd hp hne,nd := by rw [hp]; exact List.nodup_nil,ixr := fun k hk => absurd hk (no k),inj := fun k hk => absurd hk (no k),pnd := fun k hk => absurd hk (no k),old := fun i y hi hy _ => ⟨q i,rfl,hL.old i y hi hy⟩,disj := fun k hk => absurd hk (no k),above := hL.above,hears := hP.hears,clean := hP.clean,known := fun i a ha hm => .inl ((hP.known i a ha hm).resolve_right fun x => x.1),done := fun i a ha hm => .inl ((hP.known i a ha hm).resolve_right fun x => x.1),seen := hP.seen }
 ·rw [heap b x hb] at hw
  obtain ⟨_,h2,_⟩ := hch b x hb
  simp only [Option.some.injEq,Obj.chan.injEq] at hw
  obtain ⟨_,_,_,rfl,rfl,_⟩ := hw
  rw [h2]
  rfl
 ·have := (hrd b hr).2
  rw [hb] at this
  cases this
def base0 (P : Program) : Frame := { (default : Frame) with fn := P.funcs.size,defers := [],mode := .panicking [goexitEntry] }
theorem base_catches (P : Program) : (base0 P).catches P = false := by
 have e : (base0 P).todo = [] := rfl
 unfold Frame.catches
 rw [e]
 split
 ·rename_i h
  cases h
 ·rfl
theorem base_quits (hc : (base0 P).catches P = false) : QuitsD P 1 0 (G (base0 P) []) := by
 refine .inr ⟨rfl,{ frame := base0 P,callers := [],status := .finished,dying := none },#[],by simp,fun w => ?_,rfl,rfl⟩
 have e1 : (base0 P).defers = [] := rfl
 have e2 : (base0 P).mode = .panicking [goexitEntry] := rfl
 simp only [G,stepG,e2,unwind,e1,hc]
 simp [goexitEntry]
theorem quiet_run {α : Type} {s : Go.Sem α} {w : World} {Q : α → World → Prop} (h : RunsTo P (fun _ => False) s w Q) : ∃ v w',s.runT P w #[] = (.ok v w',#[]) ∧ Q v w' := by
 obtain ⟨v,w',es,hr,he,hq⟩ := h #[] (by simp)
 have hes : es = #[] := by
  apply Array.eq_empty_of_size_eq_zero
  cases hs : es.size with
  | zero => rfl
  | succ n => exact (he es[0] (Array.getElem_mem (by omega))).elim
 subst hes
 exact ⟨v,w',hr,hq⟩
variable {b : FB} {a : Act} {cs : List Frame} {ops : Array Oper} {fn : Func}
theorem worker_quits (hk : b.kind = .deferred) (hr : b.ro = none) (hbd : b.dfs = []) (hd : a.defers = []) (hf : P.funcs[b.fn]? = some fn) (hres : fn.results = #[]) (hc : (base0 P).catches P = false) :
  QuitsD P 4 0 (G (b.at a [.inRegion ops []]) [base0 P]) := by
 obtain ⟨bf,bk,br,bd⟩ := b
 simp only at hk hr hf hbd
 subst hk hr hbd
 refine .ctl (g' := G (FB.at ⟨bf,.deferred,none,[]⟩ a []) [base0 P]) rfl (fun w => by simp [G,stepG,stepG.exec,FB.at]) ?_
 refine .ctl (g' := G { FB.at ⟨bf,.deferred,none,[]⟩ a [] with mode := .returning } [base0 P]) rfl (fun w => by simp [G,stepG,stepG.exec,FB.at]) ?_
 refine .ctl (g' := G (base0 P) []) rfl (fun w => ?_) (base_quits hc)
 have he : (results fn a.tmps).runT P w #[] = (.ok (.tuple #[]) w,#[]) := by
  have hrun : RunsTo P (fun _ => False) (results fn a.tmps) w fun v w' => v = .tuple #[] ∧ w' = w := by
   unfold results
   rw [hres,Array.mapM_eq_mapM_toList]
   exact RunsTo.bind (RunsTo.map (RunsTo.pure (RunsTo.pure ⟨by simp,rfl⟩)))
  obtain ⟨v,w',hr,rfl,rfl⟩ := quiet_run hrun
  exact hr
 simp only [G,stepG,FB.at,unwind,hd,hf,he,List.append_nil]
 simp [doReturn,base0,goexitEntry,GStep.after,seen]
theorem born_toward {Stop : JT} {d : Deferred} {g : FuncId} {caps : List Value} (hd : d = { target := .fn (.func g) ⟨caps⟩,args := #[] }) (hcl : callable P g = true)
  (h : Toward P Stop (G (Frame.enter P g ⟨caps⟩ .deferred) [base0 P]) w ft) : Toward P Stop (born P d) w ft := by
 subst hd
 refine (Toward.closed P Stop).step rfl fun w₁ h₁ => ?_
 have hrun : RunsTo P (EvOk ft) (invoke (.fn (.func g) ⟨caps⟩) #[]) w₁ fun nx w' => nx = .enter g ⟨caps⟩ ∧ w' = w₁ := by
  unfold invoke
  simp only
  refine callFunc_run hcl ⟨?_,rfl⟩
  congr 1
  apply Array.ext'
  simp
 obtain ⟨nx,w',es,hr,he,rfl,rfl⟩ := hrun #[] (by simp)
 have hes : ∀ e ∈ seen P P.funcs.size es,EvOk ft e := fun e hm => he e (mem_seen hm)
 refine ⟨G (Frame.enter P g ⟨caps⟩ .deferred) [base0 P],w',seen P P.funcs.size es,?_,rfl,(Stays.refl ft w').guar hes,?_⟩
 ·simp only [stepG,born,unwind,callDeferred,hr]
  simp [GStep.after,G,base0]
 ·rw [Foot.ext_self]
  exact h.rely h₁
end
section
variable {P : Program} {main : Bool} {W0 : World} {Post : Value → World → Prop} {T : Crew} {w w₁ w' : World} {ft : Foot} {ρ : Env} {h : List AObj} {FC : Frm} {N : Nat} {f : RG} {b : FB} {a : Act} {cs : List Frame} {K : List Item} {ops : Array Oper} {i : Nat} {rest : List Nat} {o : Oper}
theorem stepG_go (hk : b.kind ≠ .early) (ho : ops[i]? = some o) (hg : gd ops o f.r = some true) (A : ActRel h.length ρ N f a) {x : Operand} {ats : Array TypeId} (hop : o.op = .go { callee := .value x,args := #[],argTypes := ats })
  {g : FuncId} {cap : List Value} (hx : ev f.r x = .func (.func g) ⟨[]⟩ ⟨cap⟩) (w : World) :
  stepG P main (G (b.at a (.inRegion ops (i :: rest) :: K)) cs) w = .spawn (G (b.at (a.put o.dst undef) (.inRegion ops rest :: K)) cs) (born P { target := .fn (.func g) ⟨cap.map (ren ρ)⟩,args := #[] }) w #[] := by
 have hw := gd_wanted A hg
 have hnd : ∀ c,o.op ≠ .defer c := fun c e => by rw [hop] at e; cases e
 have hk' : (b.kind == CallKind.early) = false := by simpa using hk
 obtain ⟨hok,hv⟩ := (ev_rel A.regs x).val (by rw [hx]; simp [unk])
 rw [hx] at hv
 simp only [ren,renFn,renA,renL_eq,List.map_nil] at hv
 have hr : (execOp a.eval o).runT P w #[] = (.ok (.spawn { target := .fn (.func g) ⟨cap.map (ren ρ)⟩,args := #[] }) w,#[]) := by
  have hrun : RunsTo P (fun _ => False) (execOp a.eval o) w fun nx w' => nx = .spawn { target := .fn (.func g) ⟨cap.map (ren ρ)⟩,args := #[] } ∧ w' = w := by
   unfold execOp
   rw [hop]
   simp only [resolve,hv,Deferred.ofValue]
   refine RunsTo.bind (RunsTo.pure (RunsTo.pure ⟨?_,rfl⟩))
   congr 2
   simp
  obtain ⟨v,w',hr,rfl,rfl⟩ := quiet_run hrun
  exact hr
 have hf := FB.finish_at b a ops i rest K undef
 rw [ho] at hf
 simp only [Option.bind_some] at hf
 rw [stepG_op ho hw hnd,← hf]
 simp only [stepG.apply,hr,if_true]
 simp [FB.at,hk',GStep.after,G,born,seen]
theorem stepG_recv (hk : b.kind ≠ .early) (ho : ops[i]? = some o) (hg : gd ops o f.r = some true) (A : ActRel h.length ρ N f a) {x : Operand} {t : TypeId} {ok : Bool} (hop : o.op = .recv t x ok)
  {dir : ChanDir} {e : TypeId} (hu : P.underlying t = some (.chan dir e)) {ie : TypeInfo} (hi : P.info? e = some ie) {z : Value} (hz : ie.zero = some z) {c : Nat} (hx : ev f.r x = .chan (some c)) (w : World) :
  stepG P main (G (b.at a (.inRegion ops (i :: rest) :: K)) cs) w = .comm (G (b.at a (.inRegion ops (i :: rest) :: K)) cs) #[rcase (ρ.blk c) z] true (.recv ok) w #[] := by
 have hw := gd_wanted A hg
 have hnd : ∀ c,o.op ≠ .defer c := fun c e => by rw [hop] at e; cases e
 have hk' : (b.kind == CallKind.early) = false := by simpa using hk
 obtain ⟨hok,hv⟩ := (ev_rel A.regs x).val (by rw [hx]; simp [unk])
 rw [hx] at hv
 simp only [ren] at hv
 have hrun : RunsTo P (fun _ => False) (execOp a.eval o) w fun nx w' => nx = .comm #[rcase (ρ.blk c) z] true (.recv ok) ∧ w' = w := by
  unfold execOp
  rw [hop]
  simp only
  refine RunsTo.bind (RunsTo.underlying hu ?_)
  simp only
  refine RunsTo.bind (RunsTo.zeroValue hi hz (RunsTo.pure ⟨?_,rfl⟩))
  rw [hv]
  rfl
 obtain ⟨nx,w',hr,rfl,rfl⟩ := quiet_run hrun
 rw [stepG_op ho hw hnd]
 simp only [stepG.apply,hr,if_true]
 simp [FB.at,hk',GStep.after,G,seen]
theorem stepG_send (hk : b.kind ≠ .early) (ho : ops[i]? = some o) (hg : gd ops o f.r = some true) (A : ActRel h.length ρ N f a) {x y : Operand} (hop : o.op = .send x y) {c : Nat} (hx : ev f.r x = .chan (some c)) {v : Value} (hy : ev f.r y = v) (hv : v ≠ unk) (w : World) :
  stepG P main (G (b.at a (.inRegion ops (i :: rest) :: K)) cs) w = .comm (G (b.at a (.inRegion ops (i :: rest) :: K)) cs) #[scase (ρ.blk c) (ren ρ v) (.tuple #[])] true .send w #[] := by
 have hw := gd_wanted A hg
 have hnd : ∀ c,o.op ≠ .defer c := fun c e => by rw [hop] at e; cases e
 have hk' : (b.kind == CallKind.early) = false := by simpa using hk
 have hxv := ((ev_rel A.regs x).val (by rw [hx]; simp [unk])).2
 have hyv := ((ev_rel A.regs y).val (by rw [hy]; exact hv)).2
 rw [hx] at hxv
 rw [hy] at hyv
 simp only [ren] at hxv
 have hr : (execOp a.eval o).runT P w #[] = (.ok (.comm #[scase (ρ.blk c) (ren ρ v) (.tuple #[])] true .send) w,#[]) := by
  unfold execOp
  rw [hop]
  simp only [hxv,hyv]
  rfl
 rw [stepG_op ho hw hnd]
 simp only [stepG.apply,hr,if_true]
 simp [FB.at,hk',GStep.after,G,seen]
theorem served_at (v : Value) : Conc.served (G (b.at a (.inRegion ops (i :: rest) :: K)) cs) v = G (b.at (a.put ((ops[i]?).bind (·.dst)) v) (.inRegion ops rest :: K)) cs := by
 rw [← FB.finish_at]
 rfl
theorem go_step (hk : b.kind ≠ .early) (ho : ops[i]? = some o) (hg : gd ops o f.r = some true) (A : ActRel h.length ρ N f a) {x : Operand} {ats : Array TypeId} (hop : o.op = .go { callee := .value x,args := #[],argTypes := ats })
  {g : FuncId} {cap : List Value} (hx : ev f.r x = .func (.func g) ⟨[]⟩ ⟨cap⟩) (hcl : callable P g = true) {k : Nat} (hkp : k ∉ T.pend) (hown : T.ch T.c = some (0,#[],false))
  (hto : ∀ w₁,RelyW ft w w₁ → Toward P (AtSend P T.c (T.phi k)) (G (Frame.enter P g ⟨cap.map (ren ρ)⟩ .deferred) [base0 P]) w₁ ft.lend)
  (hJ : ∀ w₁,RelyW ft w w₁ → JC P W0 Post (T.more k) (G (b.at (a.put o.dst undef) (.inRegion ops rest :: K)) cs) w₁ ft.lend) :
  JC P W0 Post T (G (b.at a (.inRegion ops (i :: rest) :: K)) cs) w ft :=
 JC.spawn rfl hkp hown fun w₁ h₁ => ⟨_,_,stepG_go hk ho hg A hop hx w₁,born_toward rfl hcl (hto w₁ h₁),hJ w₁ h₁⟩
theorem recv_step (hk : b.kind ≠ .early) (ho : ops[i]? = some o) (hg : gd ops o f.r = some true) (A : ActRel h.length ρ N f a) {x : Operand} {t : TypeId} {ok : Bool} (hop : o.op = .recv t x ok)
  {dir : ChanDir} {e : TypeId} (hu : P.underlying t = some (.chan dir e)) {ie : TypeInfo} (hi : P.info? e = some ie) {z : Value} (hz : ie.zero = some z) {c : Nat} (hx : ev f.r x = .chan (some c)) (hc : ρ.blk c = T.c) (hp : T.pend ≠ [])
  (hN : ∀ k ∈ T.pend,∀ v,T.phi k v → ∀ w₁,RelyW ft w w₁ → JC P W0 Post (T.less k) (G (b.at (a.put o.dst (recvd ok v true)) (.inRegion ops rest :: K)) cs) w₁ ft) :
  JC P W0 Post T (G (b.at a (.inRegion ops (i :: rest) :: K)) cs) w ft :=
 JC.recv rfl hp fun w₁ h₁ => ⟨_,z,by rw [← hc]; exact stepG_recv hk ho hg A hop hu hi hz hx w₁,fun k hk v hv => by
  rw [served_at,ho]
  exact hN k hk v hv w₁ h₁⟩
theorem send_stop (hk : b.kind = .deferred) (hr : b.ro = none) (hbd : b.dfs = []) (ho : ops[i]? = some o) (hg : gd ops o f.r = some true) (A : ActRel h.length ρ N f a) (hds : f.ds = []) {x y : Operand} (hop : o.op = .send x y) (hdst : o.dst = none) {c : Nat} (hx : ev f.r x = .chan (some c)) (hc : ρ.blk c = T.c) {v : Value} (hy : ev f.r y = v) (hv : v ≠ unk)
  {k : Nat} (hphi : T.phi k (ren ρ v)) {fn : Func} (hf : P.funcs[b.fn]? = some fn) (hres : fn.results = #[]) (hca : (base0 P).catches P = false) :
  Toward P (AtSend P T.c (T.phi k)) (G (b.at a [.inRegion ops [i]]) [base0 P]) w ft :=
 .stop rfl fun w₁ _ => ⟨_,_,_,by rw [← hc]; exact stepG_send (by rw [hk]; simp) ho hg A hop hx hy hv w₁,hphi,4,by
  rw [served_at,ho]
  simp only [Option.bind_some,hdst]
  exact worker_quits hk hr hbd (by simp [Act.put,A.defers,hds]) hf hres hca⟩
end
def frzO : AObj → AObj
 | .cells c _ sz => .cells c false sz
 | .map es _ => .map es false
 | _ => .dead
def frz (h : List AObj) : List AObj := h.map frzO
def unchO : AObj → AObj
 | .chan _ => .dead
 | .group _ => .dead
 | o => o
theorem unchO_place {x : AObj} {t : Nat} (h : unchO x = .place t) : x = .place t := by cases x <;> first | exact h | cases h
def unch (h : List AObj) : List AObj := h.map unchO
def Chs (ρ : Env) (h : List AObj) (b : Nat) : Prop := ∃ i cap,h[i]? = some (.chan cap) ∧ ρ.blk i = b
open Classical in
noncomputable def keepF (ρ : Env) (h : List AObj) (w : World) (ft : Foot) : Frm := ⟨fun b => if ft.rd b ∧ ¬ Chs ρ h b then w.heap[b]? else none,fun _ => False⟩
def lentF (ρ : Env) (h : List AObj) (ft : Foot) : Foot := ⟨fun b => ft.rd b ∧ ¬ Chs ρ h b,fun _ => False,ft.tag⟩
section
variable {ρ ρ' : Env} {h h' g : List AObj} {FC : Frm} {w w' : World} {ft ft' : Foot}
theorem frz_len : (frz h).length = h.length := by simp [frz]
theorem frz_get {i : Nat} {o : AObj} (e : (frz h)[i]? = some o) : ∃ x,h[i]? = some x ∧ frzO x = o := by
 unfold frz at e
 rw [List.getElem?_map] at e
 exact Option.map_eq_some_iff.1 e
theorem frz_wrt (o : AObj) : (frzO o).wrt = false := by cases o <;> rfl
theorem frz_live {o : AObj} (hl : (frzO o).live = true) : o.live = true ∧ ∀ cap,o ≠ .chan cap := by
 cases o <;> first | (cases hl; done) | exact ⟨rfl,fun _ e => by cases e⟩
theorem unch_len : (unch h).length = h.length := by simp [unch]
theorem not_chs (H : HRel ρ h FC w ft) {i : Nat} {o : AObj} (hi : h[i]? = some o) (hl : o.live = true) (hn : ∀ cap,o ≠ .chan cap) : ¬ Chs ρ h (ρ.blk i) := by
 rintro ⟨j,cap,hj,e⟩
 have := H.inj i j _ _ hi hj hl rfl (.inr rfl) e.symm
 subst this
 rw [hi] at hj
 cases hj
 exact hn cap rfl
theorem frz_orel {n b : Nat} {o : AObj} {x : Option Obj} (ho : ORel n ρ b o x) : ORel n ρ b (frzO o) x := by
 cases o with
 | cells c wr sz =>
  match x,ho with
  | some (.cells c' ty fr),ho =>
   obtain ⟨h1,h2,h3,_⟩ := ho
   exact ⟨fun i v hv => (h1 i v hv).imp (fun e => ⟨e.1,rfl⟩) id,h2,h3,fun e => by cases e⟩
 | map es wr =>
  match x,ho with
  | some (.map es' ty),ho => exact ho
 | _ => trivial
theorem frz_rel (H : HRel ρ h FC w ft) : HRel ρ (frz h) (keepF ρ h w ft) w (lentF ρ h ft) where
 obj := fun i o hi => by
  obtain ⟨x,hx,rfl⟩ := frz_get hi
  rw [frz_len]
  exact frz_orel (H.obj i x hx)
 inj := fun i j o o' hi hj l l' lw e => by
  obtain ⟨x,hx,rfl⟩ := frz_get hi
  obtain ⟨y,hy,rfl⟩ := frz_get hj
  exact lw.elim (fun k => by rw [frz_wrt] at k; cases k) fun k => by rw [frz_wrt] at k; cases k
 rd := fun i o hi l => by
  obtain ⟨x,hx,rfl⟩ := frz_get hi
  exact ⟨H.rd i x hx (frz_live l).1,not_chs H hx (frz_live l).1 (frz_live l).2⟩
 wr := fun i o hi l => by
  obtain ⟨x,hx,rfl⟩ := frz_get hi
  rw [frz_wrt] at l
  cases l
 lt := fun b hb => H.lt b hb.1
 sub := fun _ hb => hb.elim
 kept := fun b o hb => by
  unfold keepF at hb
  simp only at hb
  split at hb
  ·rename_i hc
   refine ⟨hb,hc,fun i oi hi l => ?_⟩
   obtain ⟨x,hx,rfl⟩ := frz_get hi
   rw [frz_wrt] at l
   cases l
  ·cases hb
 keptW := fun _ hb => hb.elim
 tag := fun i x hi => by
  obtain ⟨y,_,e⟩ := frz_get hi
  cases y <;> cases e
theorem lend_rel (H : HRel ρ h FC w ft) (hn : ∀ o ∈ h,o.wrt = false) (hw : ∀ b,¬ FC.wr b) : HRel ρ h FC w ft.lend where
 obj := H.obj
 inj := H.inj
 rd := H.rd
 wr := fun i o hi l => by rw [hn o (List.mem_of_getElem? hi)] at l; cases l
 lt := H.lt
 sub := fun _ hb => hb.elim
 kept := H.kept
 keptW := fun b hb => (hw b hb).elim
 tag := H.tag
def thawF (ρ : Env) (h : List AObj) (ft ft' : Foot) : Foot := ⟨fun b => ft'.rd b ∨ Chs ρ h b,fun b => ft.wr b ∨ ft'.wr b,ft'.tag⟩
theorem keep_ob (_H : HRel ρ h FC w ft) {b : Nat} (hr : ft.rd b) (hc : ¬ Chs ρ h b) : (keepF ρ h w ft).ob b = w.heap[b]? := if_pos ⟨hr,hc⟩
theorem thaw_rel (H : HRel ρ h FC w ft) (H' : HRel ρ' (frz h ++ g) (keepF ρ h w ft) w' ft') (hu : Env.upto h.length ρ ρ') (hg : ∀ o ∈ g,o.live = true → o.wrt = true) (hs : ∀ b,Chs ρ h b → b < w'.heap.size) :
  HRel ρ' (unch h ++ g) FC w' (thawF ρ h ft ft') ∧ (∀ b,(thawF ρ h ft ft').wr b → (thawF ρ h ft ft').rd b) := by
 have stay : ∀ b,ft.rd b → ¬ Chs ρ h b → w'.heap[b]? = w.heap[b]? ∧ ft'.rd b ∧ ∀ (a : Nat) (oa : AObj),(frz h ++ g)[a]? = some oa → oa.wrt = true → ρ'.blk a ≠ b := fun b hr hc => by
  have hlt := H.lt b hr
  have := H'.kept b w.heap[b] (by rw [keep_ob H hr hc,Array.getElem?_eq_getElem hlt])
  exact ⟨by rw [this.1,Array.getElem?_eq_getElem hlt],this.2⟩
 have hblk : ∀ i o,h[i]? = some o → ρ'.blk i = ρ.blk i := fun i o hi => (hu i (List.getElem?_eq_some_iff.1 hi).1).1
 -- what is met in the heap
 have get : ∀ {i : Nat} {o : AObj},(unch h ++ g)[i]? = some o → (∃ x,h[i]? = some x ∧ unchO x = o) ∨ (h.length ≤ i ∧ g[i - h.length]? = some o ∧ (frz h ++ g)[i]? = some o) := fun {i o} e => by
  rw [List.getElem?_append] at e
  split at e
  ·unfold unch at e
   rw [List.getElem?_map] at e
   exact .inl (Option.map_eq_some_iff.1 e)
  ·rename_i hge
   rw [unch_len] at hge e
   exact .inr ⟨by omega,e,by rw [List.getElem?_append_right (by rw [frz_len]; omega),frz_len]; exact e⟩
 have live : ∀ {x : AObj},(unchO x).live = true → x.live = true ∧ (∀ cap,x ≠ .chan cap) ∧ unchO x = x := fun {x} l => by
  cases x <;> first | (cases l; done) | exact ⟨rfl,(fun _ e => by cases e),rfl⟩
 have wlive : ∀ {o : AObj},o.wrt = true → o.live = true := fun {o} l => by cases o <;> first | (cases l; done) | rfl
 have old : ∀ {i : Nat} {x : AObj},h[i]? = some x → (unchO x).live = true → ft.rd (ρ.blk i) ∧ ¬ Chs ρ h (ρ.blk i) := fun {i x} hx l => by
  obtain ⟨l1,l2,_⟩ := live l
  exact ⟨H.rd i x hx l1,not_chs H hx l1 l2⟩
 have hsub : ∀ b,(thawF ρ h ft ft').wr b → (thawF ρ h ft ft').rd b := fun b hb => by
  rcases hb with hb | hb
  ·by_cases hc : Chs ρ h b
   ·exact .inr hc
   ·exact .inl (stay b (H.sub b hb) hc).2.1
  ·exact .inl (H'.sub b hb)
 refine ⟨⟨fun i o hi => ?_,fun i j o o' hi hj l l' lw e => ?_,fun i o hi l => ?_,fun i o hi l => ?_,fun b hb => hb.elim (H'.lt b) (hs b),hsub,fun b o hb => ?_,fun b hb => .inl (H.keptW b hb),fun i x hi => (by
  rcases get hi with ⟨y,_,e⟩ | ⟨_,_,hfi⟩
  ·cases y <;> cases e
  ·exact H'.tag i x hfi)⟩,hsub⟩
 ·rcases get hi with ⟨x,hx,rfl⟩ | ⟨hge,hgi,hfi⟩
  ·by_cases l : (unchO x).live = true
   ·obtain ⟨o1,o2⟩ := old hx l
    obtain ⟨_,_,e⟩ := live l
    rw [e,hblk i x hx,(stay _ o1 o2).1]
    have := (H.obj i x hx).congr (m := (unch h ++ g).length) hu (by rw [List.length_append,unch_len]; omega) (List.getElem?_eq_some_iff.1 hx).1
    exact this
   ·cases hx' : unchO x <;> rw [hx'] at l <;> first | trivial | exact (hblk i x hx).trans (by have := H.obj i x hx; rw [unchO_place hx'] at this; exact this) | exact absurd rfl l
  ·have := H'.obj i o hfi
   rw [List.length_append,frz_len] at this
   rw [List.length_append,unch_len]
   exact this
 ·rcases get hi with ⟨x,hx,rfl⟩ | ⟨hge,hgi,hfi⟩ <;> rcases get hj with ⟨y,hy,rfl⟩ | ⟨hge',hgj,hfj⟩
  ·rw [hblk i x hx,hblk j y hy] at e
   exact H.inj i j x y hx hy (live l).1 (live l').1 (by rw [(live l).2.2,(live l').2.2] at lw; exact lw) e
  ·exfalso
   obtain ⟨o1,o2⟩ := old hx l
   refine (stay _ o1 o2).2.2 j o' hfj (hg o' (List.mem_of_getElem? hgj) l') ?_
   rw [← e,hblk i x hx]
  ·exfalso
   obtain ⟨o1,o2⟩ := old hy l'
   refine (stay _ o1 o2).2.2 i o hfi (hg o (List.mem_of_getElem? hgi) l) ?_
   rw [e,hblk j y hy]
  ·exact H'.inj i j o o' hfi hfj l l' lw e
 ·rcases get hi with ⟨x,hx,rfl⟩ | ⟨hge,hgi,hfi⟩
  ·obtain ⟨o1,o2⟩ := old hx l
   rw [hblk i x hx]
   exact .inl (stay _ o1 o2).2.1
  ·exact .inl (H'.rd i o hfi l)
 ·rcases get hi with ⟨x,hx,rfl⟩ | ⟨hge,hgi,hfi⟩
  ·obtain ⟨_,_,e⟩ := live (wlive l)
   rw [e] at l
   rw [hblk i x hx]
   exact .inl (H.wr i x hx l)
  ·exact .inr (H'.wr i o hfi l)
 ·obtain ⟨a1,a2,a3⟩ := H.kept b o hb
  have hc : ¬ Chs ρ h b := fun ⟨i,cap,hi,e⟩ => a3 i _ hi rfl e
  obtain ⟨s1,s2,s3⟩ := stay b a2 hc
  refine ⟨by rw [s1]; exact a1,.inl s2,fun i oi hi l => ?_⟩
  rcases get hi with ⟨x,hx,rfl⟩ | ⟨hge,hgi,hfi⟩
  ·obtain ⟨_,_,e⟩ := live (wlive l)
   rw [e] at l
   rw [hblk i x hx]
   exact a3 i x hx l
  ·exact s3 i oi hfi l
end
def At (J : JT) (N : Nat) (b : FB) (cs : List Frame) (FC : Frm) (ρ0 : Env) (m : Nat) (k : List Item) (f : RG) (h : List AObj) : Prop :=
 ∀ (a : Act) (ρ : Env) (w : World) (ft : Foot),ActRel h.length ρ N f a → HRel ρ h FC w ft → Env.upto m ρ0 ρ → m ≤ h.length → J (G (b.at a k) cs) w ft
section
variable {P : Program} {main : Bool} {J : JT} {N m n1 : Nat} {fn : FuncId} {b : FB} {cs : List Frame} {FC : Frm} {ρ0 : Env} {k : List Item} {f : RG} {h : List AObj} {Q : QT} {c x y : Code} {ops : Array Oper} {i : Nat} {rest : List Nat} {o : Oper}
theorem At.ctrl (hJ : Closed P main J) {k' : List Item} (hst : ∀ a w,stepG P main (G (b.at a k) cs) w = .go (G (b.at a k') cs) w #[]) (h' : At J N b cs FC ρ0 m k' f h) : At J N b cs FC ρ0 m k f h :=
 fun a ρ w ft A H hu hm => hJ.ctrl rfl rfl (hst a) (h' a ρ w ft A H hu hm)
theorem At.seq (hJ : Closed P main J) (h' : At J N b cs FC ρ0 m (.code x :: .code y :: k) f h) : At J N b cs FC ρ0 m (.code (.seq x y) :: k) f h :=
 At.ctrl hJ (fun a w => by simp [G,stepG,stepG.exec,FB.at]) h'
theorem At.block (hJ : Closed P main J) {id : Nat} (h' : At J N b cs FC ρ0 m (.code c :: .inBlock id :: k) f h) : At J N b cs FC ρ0 m (.code (.block id c) :: k) f h :=
 At.ctrl hJ (fun a w => by simp [G,stepG,stepG.exec,FB.at]) h'
theorem At.inBlock (hJ : Closed P main J) {id : Nat} (h' : At J N b cs FC ρ0 m k f h) : At J N b cs FC ρ0 m (.inBlock id :: k) f h :=
 At.ctrl hJ (fun a w => by simp [G,stepG,stepG.exec,FB.at]) h'
theorem At.loop (hJ : Closed P main J) (h' : At J N b cs FC ρ0 m (.code c :: .inLoop c :: k) f h) : At J N b cs FC ρ0 m (.code (.loop c) :: k) f h :=
 At.ctrl hJ (fun a w => by simp [G,stepG,stepG.exec,FB.at]) h'
theorem At.inLoop (hJ : Closed P main J) (h' : At J N b cs FC ρ0 m (.code c :: .inLoop c :: k) f h) : At J N b cs FC ρ0 m (.inLoop c :: k) f h :=
 At.ctrl hJ (fun a w => by simp [G,stepG,stepG.exec,FB.at]) h'
theorem At.region (hJ : Closed P main J) {id : Nat} (h' : At J N b cs FC ρ0 m (.inRegion ops (List.range ops.size) :: k) f h) : At J N b cs FC ρ0 m (.code (.region id ops false) :: k) f h :=
 At.ctrl hJ (fun a w => by simp [G,stepG,stepG.exec,FB.at]) h'
theorem At.ops_nil (hJ : Closed P main J) (h' : At J N b cs FC ρ0 m k f h) : At J N b cs FC ρ0 m (.inRegion ops [] :: k) f h :=
 At.ctrl hJ (fun a w => by simp [G,stepG,stepG.exec,FB.at]) h'
theorem At.piece (hb : b.tag = fn) (hk : b.kind ≠ .early) (hs : Sem J N n1 fn c f h Q) (h1 : m ≤ n1) (h2 : n1 ≤ h.length) (hq : ∀ e f' h',Q e f' h' → (e = .normal ∧ At J N b cs FC ρ0 m k f' h') ∨ ∃ id k',e = .exit id ∧ exitTo id k = some k' ∧ At J N b cs FC ρ0 m k' f' h') : At J N b cs FC ρ0 m (.code c :: k) f h := by
 intro a ρ w ft A H hu hm
 refine hs b a k cs (fun _ _ _ _ => False) ρ FC w ft hb hk (fun _ _ _ _ _ hf _ => hf.elim) A H h2 fun e f' h' ρ' w' ft' a' q A' H' hu' hl' => ?_
 have up : Env.upto m ρ0 ρ' := Env.upto_trans hu (Env.upto_le hu' h1)
 rcases hq e f' h' q with ⟨rfl,hat⟩ | ⟨id,k',rfl,hex,hat⟩
 ·exact hat a' ρ' w' ft' A' H' up (Nat.le_trans h1 hl')
 ·unfold AfterJ
  simp only [hex,renX]
  exact hat a' ρ' w' ft' A' H' up (Nat.le_trans h1 hl')
theorem At.op (hJ : Closed P main J) (hk : b.kind ≠ .early) (ho : ops[i]? = some o) (hd : dstOk N o = true) (hg : gd ops o f.r = some true) (hop : opW P (Good P J) o f.r h fun v h' => h.length ≤ h'.length → At J N b cs FC ρ0 m (.inRegion ops rest :: k) (f.putO o.dst v) h') :
  At J N b cs FC ρ0 m (.inRegion ops (i :: rest) :: k) f h := fun _a _ρ _w _ft A H hu hm =>
 step_any hJ hk ho hg (dstOk_lt hd) A H hop fun _v _h' ρ' w' ft' a' hK A' H' hu' hl' => hK hl' a' ρ' w' ft' A' H' (Env.upto_trans hu (Env.upto_le hu' hm)) (Nat.le_trans hm hl')
theorem At.drop {g : List AObj} {f' : RG} (ok : heapOk h) (hf : ∀ t,f'.r t = unk ∨ (f'.r t = f.r t ∧ VOk h.length (f'.r t))) (hd : f'.ds = f.ds) (hds : ∀ b ∈ f.ds,b < h.length) (hm' : m ≤ h.length) (h' : At J N b cs FC ρ0 m k f' h) : At J N b cs FC ρ0 m k f (h ++ g) := by
 intro a ρ w ft A H hu hm
 have gc := gc_drop (g := g) ok (Nat.le_refl h.length)
 have hcomp : ρ.comp id = ρ := rfl
 have H2 := gc.rel H
 rw [hcomp] at H2
 refine h' a ρ w ft ⟨fun t => ?_,A.size,by rw [hd]; exact A.defers,by rw [hd]; exact hds⟩ H2 hu hm'
 rcases hf t with e | ⟨e,hv⟩
 ·exact .inl e
 ·rcases A.regs t with e2 | ⟨_,e2⟩
  ·exact .inl (e.trans e2)
  ·exact .inr ⟨hv,by rw [e2,e]⟩
end
section
variable {P : Program} {W0 : World} {Post : Value → World → Prop} {T : Crew} {N m : Nat} {b : FB} {cs : List Frame} {FC : Frm} {ρ0 : Env} {K : List Item} {f : RG} {h : List AObj} {ops : Array Oper} {i : Nat} {rest : List Nat} {o : Oper}
theorem At.go (hk : b.kind ≠ .early) (ho : ops[i]? = some o) (hg : gd ops o f.r = some true) {x : Operand} {ats : Array TypeId} (hop : o.op = .go { callee := .value x,args := #[],argTypes := ats }) (hdst : o.dst = none)
  {g : FuncId} {cap : List Value} (hx : ev f.r x = .func (.func g) ⟨[]⟩ ⟨cap⟩) (hcl : callable P g = true) {k : Nat} (hkp : k ∉ T.pend) (hown : T.ch T.c = some (0,#[],false))
  {h0 hd : List AObj} (hh : h = h0 ++ hd) (hn : ∀ o ∈ h0,o.wrt = false) (hw : ∀ b,¬ FC.wr b) (ok : heapOk h0) (hm0 : m ≤ h0.length)
  (hto : ∀ (ρ : Env) (w : World) (ft : Foot),HRel ρ (frz h) (keepF ρ h w ft) w ft.lend → Env.upto m ρ0 ρ → Toward P (AtSend P T.c (T.phi k)) (G (Frame.enter P g ⟨cap.map (ren ρ)⟩ .deferred) [base0 P]) w ft.lend)
  (hnc : ∀ cap,.chan cap ∉ h)
  {f' : RG} (hf : ∀ t,f'.r t = unk ∨ (f'.r t = f.r t ∧ VOk h0.length (f'.r t))) (hfd : f'.ds = f.ds) (hds : ∀ b ∈ f.ds,b < h0.length)
  (hJ : At (JC P W0 Post (T.more k)) N b cs FC ρ0 m (.inRegion ops rest :: K) f' h0) :
  At (JC P W0 Post T) N b cs FC ρ0 m (.inRegion ops (i :: rest) :: K) f h := by
 intro a ρ w ft A H hu hm
 have nc : ∀ b,¬ Chs ρ h b := fun b ⟨j,cap,hj,_⟩ => hnc cap (List.mem_of_getElem? hj)
 refine go_step hk ho hg A hop hx hcl hkp hown (fun w₁ h₁ => ?_) fun w₁ h₁ => ?_
 ·have hlf : lentF ρ h ft = ft.lend := by
   unfold lentF Foot.lend
   simp only [Foot.mk.injEq,and_true]
   funext b
   simp [nc b]
  have hfr := frz_rel (H.rely h₁)
  rw [hlf] at hfr
  exact hto ρ w₁ ft hfr hu
 ·subst hh
  have gc := gc_drop (g := hd) ok (Nat.le_refl h0.length)
  have H2 := gc.rel (H.rely h₁)
  rw [show ρ.comp id = ρ from rfl] at H2
  refine hJ _ ρ w₁ ft.lend ⟨fun t => ?_,by simp [Act.put,hdst,A.size],by simp [Act.put,hdst,hfd,A.defers],by rw [hfd]; exact hds⟩ (lend_rel H2 hn hw) hu hm0
  simp only [Act.put,hdst]
  rcases hf t with e | ⟨e,hv⟩
  ·exact .inl e
  ·rcases A.regs t with e2 | ⟨_,e2⟩
   ·exact .inl (e.trans e2)
   ·exact .inr ⟨hv,by rw [e2,e]⟩
theorem At.recv (hk : b.kind ≠ .early) (ho : ops[i]? = some o) (hd : dstOk N o = true) (hg : gd ops o f.r = some true) {x : Operand} {t : TypeId} {ok : Bool} (hop : o.op = .recv t x ok)
  {dir : ChanDir} {e : TypeId} (hu : P.underlying t = some (.chan dir e)) {ie : TypeInfo} (hi : P.info? e = some ie) {z : Value} (hz : ie.zero = some z) {c : Nat} (hx : ev f.r x = .chan (some c)) (hcm : c < m) (hc : ρ0.blk c = T.c) (hp : T.pend ≠ [])
  (hN : ∀ k ∈ T.pend,∀ v,T.phi k v → ∃ v0,v = v0 ∧ VOk 0 v0 ∧ At (JC P W0 Post (T.less k)) N b cs FC ρ0 m (.inRegion ops rest :: K) (f.putO o.dst (recvd ok v0 true)) h) :
  At (JC P W0 Post T) N b cs FC ρ0 m (.inRegion ops (i :: rest) :: K) f h := by
 intro a ρ w ft A H hu' hm
 refine recv_step hk ho hg A hop hu hi hz hx (by rw [(hu' c hcm).1]; exact hc) hp fun k hkm v hv w₁ h₁ => ?_
 obtain ⟨v0,rfl,hv0,hat⟩ := hN k hkm v hv
 refine hat _ ρ w₁ ft (act_put A (dstOk_lt hd) (.inr ?_)) (H.rely h₁) hu' hm
 have h0 : VOk 0 (recvd ok v true) := by
  unfold recvd
  cases ok
  ·exact hv0
  ·simp [VOk,AOk,LOk,hv0]
 exact ⟨VOk.mono (Nat.zero_le _) _ h0,(ren0 _ h0).symm⟩
end
def lastOk (ops ops' : Array Oper) (last : Nat) : Nat → Array Bool → Array Bool → Bool
 | 0,L,L' => (Region.ready .any ops L == [last]) && (Region.ready .any ops' L').isEmpty
 | n + 1,L,L' => (Region.ready .any ops L == Region.ready .any ops' L') && !(Region.ready .any ops L).isEmpty && (Region.ready .any ops L).all fun i => lastOk ops ops' last n (L.setIfInBounds i true) (L'.setIfInBounds i true)
section
variable {P : Program} {main : Bool} {J : JT} {N m : Nat} {b : FB} {cs : List Frame} {FC : Frm} {ρ0 : Env} {k : List Item} {f : RG} {h : List AObj} {ops ops' : Array Oper} {last : Nat}
theorem At.orders (hJ : Closed P main J) (hk : b.kind ≠ .early) (hsame : ∀ (i : Nat) (o : Oper),ops'[i]? = some o → ops[i]? = some o ∧ ∀ r,gd ops' o r = gd ops o r) {S : List AObj → Prop} {K : RG → List AObj → Prop}
  (hK : ∀ f h,K f h → At J N b cs FC ρ0 m (.inRegion ops [last] :: k) f h) : ∀ (n t : Nat) (L L' : Array Bool) (f : RG) (h : List AObj),lastOk ops ops' last n L L' = true → AnyH P (Good P J) N ops' S n L' f h K → At J N b cs FC ρ0 m (.inRegion ops (Region.linearise.go .any ops (n + 1) t L []) :: k) f h := by
 intro n
 induction n with
 | zero =>
  intro t L L' f h hc hA
  unfold lastOk at hc
  have hr : Region.ready .any ops L = [last] := by simp at hc; exact hc.1
  have e : Region.linearise.go .any ops (0 + 1) t L [] = [last] := by
   simp only [Region.linearise.go]
   change (match (Region.ready .any ops L)[t % (Region.ready .any ops L).length]? with
    | some i => [i].reverse
    | none => [].reverse) = [last]
   rw [hr]
   simp [Nat.mod_one]
  rw [e]
  exact hK f h hA.2
 | succ n ih =>
  intro t L L' f h hc hA
  obtain ⟨_,h₁⟩ := hA
  unfold lastOk at hc
  simp only [Bool.and_eq_true,beq_iff_eq,Bool.not_eq_true',List.all_eq_true] at hc
  obtain ⟨⟨hr,hne⟩,hall⟩ := hc
  rw [Region.linearise.go]
  change At J N b cs FC ρ0 m (.inRegion ops (match (Region.ready .any ops L)[t % (Region.ready .any ops L).length]? with
   | some i => Region.linearise.go .any ops (n + 1) (t / (Region.ready .any ops L).length) (L.setIfInBounds i true) [i]
   | none => [].reverse) :: k) f h
  cases hi : (Region.ready .any ops L)[t % (Region.ready .any ops L).length]? with
  | none =>
   exfalso
   have hpos : 0 < (Region.ready .any ops L).length := by
    cases hr2 : Region.ready .any ops L with
    | nil => rw [hr2] at hne; cases hne
    | cons x xs => simp
   have := Nat.mod_lt t hpos
   rw [List.getElem?_eq_none_iff] at hi
   omega
  | some i =>
   simp only []
   rw [linearise_go_acc,List.reverse_singleton,List.singleton_append]
   have hm := List.mem_of_getElem? hi
   have hm' : i ∈ Region.ready .any ops' L' := by rw [← hr]; exact hm
   have hm2 := hm'
   rw [mem_ready] at hm2
   obtain ⟨_,o,ho',_⟩ := hm2
   obtain ⟨ho,hgd⟩ := hsame i o ho'
   obtain ⟨hN,K',hK',hsub⟩ := h₁ i hm' o ho'
   intro a ρ w ft A H hu hm0
   unfold opG at hK'
   rw [hgd] at hK'
   split at hK'
   ·rename_i hg
    exact step_any hJ hk ho hg hN A H hK' fun v h' ρ' w' ft' a' kk A' H' hu' hl' => ih _ _ _ _ _ (hall i hm) (hsub v h' kk).2 a' ρ' w' ft' A' H' (Env.upto_trans hu (Env.upto_le hu' hm0)) (Nat.le_trans hm0 hl')
   ·rename_i hg
    refine step_skip hJ ho hg A ?_
    exact ih _ _ _ _ _ (hall i hm) (hsub _ _ hK').2 _ ρ w ft (act_put A hN (vrel_undef _ _)) H hu hm0
   ·exact hK'.elim
theorem At.draw (hJ : Closed P main J) (hm : P.follows .mixedOrders = true) (hk : b.kind ≠ .early) (hsame : ∀ (i : Nat) (o : Oper),ops'[i]? = some o → ops[i]? = some o ∧ ∀ r,gd ops' o r = gd ops o r) {K : RG → List AObj → Prop} {id n : Nat} (hn : ops.size = n + 1) (_hn' : ops'.size = n)
  (hl : lastOk ops ops' last n (Array.replicate (n + 1) false) (Array.replicate n false) = true) {p : Plan} (hp : planOk P ops' p n (Array.replicate n false) none = true) {B : Option (List Nat)}
  (hq : planW P (Good P J) N ops' B h p true [] f h K) (hB : B ≠ none)
  (hK : ∀ f h,K f h → At J N b cs FC ρ0 m (.inRegion ops [last] :: k) f h) : At J N b cs FC ρ0 m (.code (.region id ops true) :: k) f h := by
 have hA : AnyH P (Good P J) N ops' (SameB B h) n (Array.replicate n false) f h K := by
  refine anyW_sound _ _ true [] f h down_init (fun j b e => by cases e) (fun _ => ?_) ?_
  ·cases B with
   | none => exact absurd rfl hB
   | some B => exact fun _ _ => rfl
  ·have := planW_eq (C := Good P J) (P := P) (N := N) (B := B) (h0 := h) (K := K) p n (Array.replicate n false) none true [] f h hp
   simp only [planT] at this
   rw [← this]
   exact hq
 intro a ρ w ft A H hu hm0
 refine hJ.step rfl fun w₁ h₁ => ⟨G (b.at a (.inRegion ops (Region.schedule (P.follows .mixedOrders) ops (w₁.tape w₁.drawn (.order b.fn id))) :: k)) cs,{ w₁ with drawn := w₁.drawn + 1 },#[],?_,rfl,(Stays.drawn ft w₁ _).guar (by simp),?_⟩
 ·simp [G,stepG,stepG.exec,FB.at,choose,Go.Sem.run,Question.forced,Question.cut]
 ·rw [show ({ w₁ with drawn := w₁.drawn + 1 } : World).heap = w₁.heap from rfl,Foot.ext_self]
  have H₁ := (H.rely h₁).of_drawn (w₁.drawn + 1)
  simp only [Region.schedule,hm,Bool.true_or,if_true]
  have := At.orders hJ hk hsame hK n (w₁.tape w₁.drawn (.order b.fn id)) _ _ f h hl hA a ρ _ ft A H₁ hu hm0
  rw [← hn] at this
  exact this
theorem At.enter {g : FuncId} {fn : Func} (hf : P.funcs[g]? = some fn) {c : Code} (hb : fn.body = some c) {args : List Value} (ha : args.length ≤ fn.ntmps) (hv : ∀ v ∈ args,VOk h.length v) {ρ : Env} {w : World} {ft : Foot} (H : HRel ρ h FC w ft)
  (hA : At J fn.ntmps ⟨g,.deferred,none,[]⟩ cs FC ρ h.length [.code c] ⟨regs args,[]⟩ h) : J (G (Frame.enter P g ⟨args.map (ren ρ)⟩ .deferred) cs) w ft := by
 have he : Frame.enter P g ⟨args.map (ren ρ)⟩ .deferred = FB.at ⟨g,.deferred,none,[]⟩ ⟨⟨args.map (ren ρ)⟩ ++ Array.replicate (fn.ntmps - args.length) undef,[]⟩ [.code c] := by
  simp [Frame.enter,FB.at,hf,hb]
 rw [he]
 refine hA _ ρ w ft ⟨fun t => ?_,by simp; omega,rfl,by simp⟩ H (fun _ _ => ⟨rfl,rfl⟩) (Nat.le_refl _)
 have ht : ((⟨args.map (ren ρ)⟩ : Array Value) ++ Array.replicate (fn.ntmps - args.length) undef).getD t undef = (args.map (ren ρ)).getD t undef := by
  rw [Array.getD_eq_getD_getElem?,List.getD_eq_getElem?_getD]
  by_cases hx : t < args.length
  ·rw [Array.getElem?_append_left (by simpa using hx)]
   simp
  ·rw [Array.getElem?_append_right (by simp; omega),List.getElem?_eq_none (by simp; omega)]
   simp only [Array.getElem?_replicate]
   split <;> rfl
 rw [ht]
 by_cases hx : t < args.length
 ·refine .inr ?_
  show VOk h.length (regs args t) ∧ _
  have e1 : regs args t = args[t] := by simp [regs,List.getD_eq_getElem?_getD,List.getElem?_eq_getElem hx]
  rw [e1]
  refine ⟨hv _ (List.getElem_mem hx),?_⟩
  show _ = ren ρ (regs args t)
  rw [e1]
  simp [List.getD_eq_getElem?_getD,List.getElem?_eq_getElem hx]
 ·refine .inl ?_
  show regs args t = unk
  simp [regs,List.getD_eq_getElem?_getD,List.getElem?_eq_none (Nat.le_of_not_lt hx)]
end
end Go.Proofs.YtcmgjbflljmphaaGreatDoor
namespace Go.Proofs.YtcmgjbflljmphaaGreatDoor
open Go.Conc Go.Proofs.Tryz
set_option maxRecDepth 100000
set_option maxHeartbeats 4000000
set_option linter.unusedVariables false
section
variable {main : Bool} {J : JT} {n0 : Nat} {h : List AObj} {K : Value → List AObj → Prop}
theorem at81 : prog.funcs[81]? = some f81 := by kernel_rfl
theorem body81 : f81.body = some (codeOf f81) := by kernel_rfl
def pl81 : Plans := []
def ct81 : Cuts := .go
theorem pok81 : plansOk prog pl81 (codeOf f81) = true := by kernel_rfl
theorem e81 {a0 a1 : Value} : W prog J 19 h.length 81 (codeOf f81) (RG.mk (regs [a0,a1]) []) h (RetQ prog [.tmp 4] h.length K) =
(aLenS a0 fun v1 =>
 Sem J 19 h.length 81 (subC [1,0,1,0] (codeOf f81)) (RG.p (RG.p (RG.p (RG.p (RG.mk (regs [a0,a1]) []) 4 (vint 0)) 6 a0) 7 v1) 8 (vint 0)) h (contX pl81 prog J 19 h.length 81 ct81 [1,0,1,0] (codeOf f81) [] (RetQ prog [.tmp 4] h.length K))) := top_eq pok81 ct81 (by kernel_rfl)
theorem g81 (hJ : Closed prog main J) {a0 a1 : Value} (hs : heapOk h → W prog J 19 h.length 81 (codeOf f81) (RG.mk (regs [a0,a1]) []) h (RetQ prog [.tmp 4] h.length K)) : Good prog J 81 [a0,a1] h K :=
 good_of_W hJ mixed at81 body81 (by kernel_rfl) (Nat.le_of_ble_eq_true rfl) hs
theorem s81_1 {f : RG} {nx0 : RG → List AObj → Prop} : W prog J 19 n0 81 (subC [1,0,1,0,0] (codeOf f81)) f h (thenK nx0 (contX pl81 prog J 19 n0 81 ct81 [1,0,1,0] (codeOf f81) [] (RetQ prog [.tmp 4] n0 K))) =
(aBin prog .lss 3 (f.r 8) (f.r 7) fun v1 =>
 cnd v1
(aIdx 1 (f.r 0) (f.r 8) fun v2 =>
 aLoad false 1 v2 h fun v3 =>
 aBin prog .eql 3 (f.r 1) v3 fun v4 =>
 cnd v4
(retL n0 K f.ds [(f.r 8)] h)
(aBin prog .add 3 (f.r 8) (vint 1) fun v5 =>
 nx0 (RG.p (RG.p (RG.p (RG.p (RG.p (RG.p (RG.p (RG.p (RG.p (RG.p (RG.p f 9 v1) 10 (f.r 8)) 5 (f.r 8)) 11 (f.r 1)) 12 (f.r 0)) 13 (f.r 8)) 14 v2) 15 v3) 16 v4) 18 v5) 8 v5) h))
(retL n0 K f.ds [(vint (-1))] h)) := sub_eq pok81 ct81 (by kernel_rfl)
theorem l81_1 (hJ : Closed prog main J) {S : Type} (μ : S → Nat) (I : S → RG → List AObj → Prop) (hI : ∀ s f h,I s f h → heapOk h → n0 ≤ h.length → W prog J 19 n0 81 (subC [1,0,1,0,0] (codeOf f81)) f h (thenK (Nx n0 μ I s) (contX pl81 prog J 19 n0 81 ct81 [1,0,1,0] (codeOf f81) [] (RetQ prog [.tmp 4] n0 K))))
 {s : S} {f : RG} (hi : Gets n0 I s f h) : Sem J 19 n0 81 (subC [1,0,1,0] (codeOf f81)) f h (contX pl81 prog J 19 n0 81 ct81 [1,0,1,0] (codeOf f81) [] (RetQ prog [.tmp 4] n0 K)) :=
 loop_rule hJ mixed (b := subC [1,0,1,0,0] (codeOf f81)) (by kernel_rfl) μ I hI hi
theorem at64 : prog.funcs[64]? = some f64 := by kernel_rfl
theorem body64 : f64.body = some (codeOf f64) := by kernel_rfl
def pl64 : Plans := []
def ct64 : Cuts := .go
theorem pok64 : plansOk prog pl64 (codeOf f64) = true := by kernel_rfl
theorem e64 {a0 a1 : Value} : W prog J 9 h.length 64 (codeOf f64) (RG.mk (regs [a0,a1]) []) h (RetQ prog [.tmp 4] h.length K) =
(Good prog J 81 [a0,a1] h fun v1 h2 =>
 aBin prog .geq 3 v1 (vint 0) fun v3 =>
 retL h.length K [] [v3] h2) := top_eq pok64 ct64 (by kernel_rfl)
theorem g64 (hJ : Closed prog main J) {a0 a1 : Value} (hs : heapOk h → W prog J 9 h.length 64 (codeOf f64) (RG.mk (regs [a0,a1]) []) h (RetQ prog [.tmp 4] h.length K)) : Good prog J 64 [a0,a1] h K :=
 good_of_W hJ mixed at64 body64 (by kernel_rfl) (Nat.le_of_ble_eq_true rfl) hs
theorem at63 : prog.funcs[63]? = some f63 := by kernel_rfl
theorem body63 : f63.body = some (codeOf f63) := by kernel_rfl
def pl63 : Plans := []
def ct63 : Cuts := .go
theorem pok63 : plansOk prog pl63 (codeOf f63) = true := by kernel_rfl
theorem e63 {a0 : Value} : W prog J 8 h.length 63 (codeOf f63) (RG.mk (regs [a0]) []) h (RetQ prog [.tmp 2] h.length K) =
(aBin prog .eql 27 a0 (Value.slice none 0 0) fun v1 =>
 cnd v1
(retL h.length K [] [(Value.slice none 0 0)] h)
((((0 * 1 : Nat) ≤ 16777216 ∧ (0 : Nat) ≤ 16777216 ∧ List.length [(vint 0)] = 1) ∧ aFill (zrep [(vint 0)] 0) [] fun c2 =>
 aNewS 0 c2 h fun v3 h4 =>
((List.length [(vint 0)] = 1 ∧ 0 < (1 : Nat) ∧ 0 < (8 : Nat) ∧ (8 : Nat) ≤ 1024) ∧ aApp 1 v3 a0 h4 fun v5 h6 =>
 retL h.length K [] [v5] h6)))) := top_eq pok63 ct63 (by kernel_rfl)
theorem g63 (hJ : Closed prog main J) {a0 : Value} (hs : heapOk h → W prog J 8 h.length 63 (codeOf f63) (RG.mk (regs [a0]) []) h (RetQ prog [.tmp 2] h.length K)) : Good prog J 63 [a0] h K :=
 good_of_W hJ mixed at63 body63 (by kernel_rfl) (Nat.le_of_ble_eq_true rfl) hs
theorem at43 : prog.funcs[43]? = some f43 := by kernel_rfl
theorem body43 : f43.body = some (codeOf f43) := by kernel_rfl
def pl43 : Plans := []
def ct43 : Cuts := .go
theorem pok43 : plansOk prog pl43 (codeOf f43) = true := by kernel_rfl
theorem e43 {a0 a1 : Value} : W prog J 32 h.length 43 (codeOf f43) (RG.mk (regs [a0,a1]) []) h (RetQ prog [.tmp 4] h.length K) =
(aLenS a1 fun v1 =>
 aBin prog .eql 3 v1 a0 fun v2 =>
 cnd v2
((((1 * 1 : Nat) ≤ 16777216 ∧ (1 : Nat) ≤ 16777216 ∧ List.length [(Value.slice none 0 0)] = 1) ∧ aFill (zrep [(Value.slice none 0 0)] 1) [(0,1,a1)] fun c3 =>
 aNewS 1 c3 h fun v4 h5 =>
 retL h.length K [] [v4] h5))
(Sem J 32 h.length 43 (subC yp0 (codeOf f43)) (RG.p (RG.p (RG.p (RG.p (RG.p (RG.p (RG.p (RG.p (RG.mk (regs [a0,a1]) []) 4 (Value.slice none 0 0)) 7 a1) 8 v1) 9 a0) 10 v2) 5 (Value.slice none 0 0)) 13 a0) 14 (vint 0)) h (contX pl43 prog J 32 h.length 43 ct43 yp0 (codeOf f43) [] (RetQ prog [.tmp 4] h.length K)))) := top_eq pok43 ct43 (by kernel_rfl)
theorem g43 (hJ : Closed prog main J) {a0 a1 : Value} (hs : heapOk h → W prog J 32 h.length 43 (codeOf f43) (RG.mk (regs [a0,a1]) []) h (RetQ prog [.tmp 4] h.length K)) : Good prog J 43 [a0,a1] h K :=
 good_of_W hJ mixed at43 body43 (by kernel_rfl) (Nat.le_of_ble_eq_true rfl) hs
theorem s43_1 {f : RG} {nx0 : RG → List AObj → Prop} : W prog J 32 n0 43 (subC yp3 (codeOf f43)) f h (thenK nx0 (contX pl43 prog J 32 n0 43 ct43 yp0 (codeOf f43) [] (RetQ prog [.tmp 4] n0 K))) =
(aBin prog .lss 3 (f.r 14) (f.r 13) fun v1 =>
 cnd v1
(Good prog J 64 [(f.r 1),(f.r 14)] h fun v2 h3 =>
 aUn .not v2 fun v4 =>
 cnd v4
(Good prog J 63 [(f.r 1)] h3 fun v5 h6 =>
(((1 * 1 : Nat) ≤ 16777216 ∧ (1 : Nat) ≤ 16777216 ∧ List.length [(vint 0)] = 1) ∧ aFill (zrep [(vint 0)] 1) [(0,1,(f.r 14))] fun c7 =>
 aNewS 1 c7 h6 fun v8 h9 =>
((List.length [(vint 0)] = 1 ∧ 0 < (1 : Nat) ∧ 0 < (8 : Nat) ∧ (8 : Nat) ≤ 1024) ∧ aApp 1 v5 v8 h9 fun v10 h11 =>
 Good prog J 43 [(f.r 0),v10] h11 fun v12 h13 =>
((List.length [(Value.slice none 0 0)] = 1 ∧ 0 < (1 : Nat) ∧ 0 < (24 : Nat) ∧ (24 : Nat) ≤ 1024) ∧ aApp 1 (f.r 5) v12 h13 fun v14 h15 =>
 aBin prog .add 3 (f.r 14) (vint 1) fun v16 =>
 nx0 (RG.p (RG.p (RG.p (RG.p (RG.p (RG.p (RG.p (RG.p (RG.p (RG.p (RG.p (RG.p (RG.p (RG.p (RG.p (RG.p (RG.p (RG.p (RG.p f 15 v1) 16 (f.r 14)) 6 (f.r 14)) 17 (f.r 1)) 18 (f.r 14)) 19 v2) 20 v4) 21 (f.r 5)) 22 (f.r 0)) 23 (f.r 1)) 24 v5) 25 (f.r 14)) 26 v8) 27 v10) 28 v12) 29 v14) 5 v14) 30 v16) 14 v16) h15))))
(aBin prog .add 3 (f.r 14) (vint 1) fun v17 =>
 nx0 (RG.p (RG.p (RG.p (RG.p (RG.p (RG.p (RG.p (RG.p (RG.p f 15 v1) 16 (f.r 14)) 6 (f.r 14)) 17 (f.r 1)) 18 (f.r 14)) 19 v2) 20 v4) 30 v17) 14 v17) h3))
(retL n0 K f.ds [(f.r 5)] h)) := sub_eq pok43 ct43 (by kernel_rfl)
theorem l43_1 (hJ : Closed prog main J) {S : Type} (μ : S → Nat) (I : S → RG → List AObj → Prop) (hI : ∀ s f h,I s f h → heapOk h → n0 ≤ h.length → W prog J 32 n0 43 (subC yp3 (codeOf f43)) f h (thenK (Nx n0 μ I s) (contX pl43 prog J 32 n0 43 ct43 yp0 (codeOf f43) [] (RetQ prog [.tmp 4] n0 K))))
 {s : S} {f : RG} (hi : Gets n0 I s f h) : Sem J 32 n0 43 (subC yp0 (codeOf f43)) f h (contX pl43 prog J 32 n0 43 ct43 yp0 (codeOf f43) [] (RetQ prog [.tmp 4] n0 K)) :=
 loop_rule hJ mixed (b := subC yp3 (codeOf f43)) (by kernel_rfl) μ I hI hi
end
section
variable {main : Bool} {J : JT} {n0 : Nat} {h : List AObj} {K : Value → List AObj → Prop}
theorem at48 : prog.funcs[48]? = some f48 := by kernel_rfl
theorem body48 : f48.body = some (codeOf f48) := by kernel_rfl
def pl48 : Plans := []
def ct48 : Cuts := .go
theorem pok48 : plansOk prog pl48 (codeOf f48) = true := by kernel_rfl
theorem e48 {a0 : Value} : W prog J 17 h.length 48 (codeOf f48) (RG.mk (regs [a0]) []) h (RetQ prog [.cell 2 100] h.length K) =
(aBox a0 h fun v1 h2 =>
 aAlloc [(vint 0),(vint 0),(vint 0)] h2 fun v3 h4 =>
 aOff v1 0 fun v5 =>
 aOff v5 1 fun v6 =>
 aLoad false 1 v6 h4 fun v7 =>
 aOff v1 0 fun v8 =>
 aOff v8 0 fun v9 =>
 aLoad false 1 v9 h4 fun v10 =>
 aOff v1 0 fun v11 =>
 aOff v11 2 fun v12 =>
 aLoad false 1 v12 h4 fun v13 =>
 aBin prog .add 3 v10 v13 fun v14 =>
 aMin v7 [v14] fun v15 =>
 aOff v1 0 fun v16 =>
 aOff v16 0 fun v17 =>
 aStore 1 v17 v15 h4 fun h18 =>
 aLoad true 3 v1 h18 fun v19 =>
 aStore 3 v3 v19 h18 fun h20 =>
 RetQ prog [.cell 2 100] h.length K .ret (RG.p (RG.p (RG.p (RG.p (RG.p (RG.p (RG.p (RG.p (RG.p (RG.p (RG.p (RG.p (RG.p (RG.p (RG.p (RG.p (RG.mk (regs [a0]) []) 1 v1) 2 v3) 3 v5) 4 v6) 5 v7) 6 v8) 7 v9) 8 v10) 9 v11) 10 v12) 11 v13) 12 v14) 13 v15) 14 v16) 15 v17) 16 v19) h20) := top_eq pok48 ct48 (by kernel_rfl)
theorem g48 (hJ : Closed prog main J) {a0 : Value} (hs : heapOk h → W prog J 17 h.length 48 (codeOf f48) (RG.mk (regs [a0]) []) h (RetQ prog [.cell 2 100] h.length K)) : Good prog J 48 [a0] h K :=
 good_of_W hJ mixed at48 body48 (by kernel_rfl) (Nat.le_of_ble_eq_true rfl) hs
theorem at51 : prog.funcs[51]? = some f51 := by kernel_rfl
theorem body51 : f51.body = some (codeOf f51) := by kernel_rfl
def pl51 : Plans := []
def ct51 : Cuts := .go
theorem pok51 : plansOk prog pl51 (codeOf f51) = true := by kernel_rfl
theorem e51 {a0 a1 : Value} : W prog J 25 h.length 51 (codeOf f51) (RG.mk (regs [a0,a1]) []) h (RetQ prog [.cell 4 100,.tmp 5] h.length K) =
(aBox a0 h fun v1 h2 =>
 aAlloc [(vint 0),(vint 0),(vint 0)] h2 fun v3 h4 =>
 aOff v1 0 fun v5 =>
 aOff v5 0 fun v6 =>
 aLoad false 1 v6 h4 fun v7 =>
 aBin prog .lss 3 v7 a1 fun v8 =>
 aOff v1 0 fun v9 =>
 aOff v9 0 fun v10 =>
 aLoad false 1 v10 h4 fun v11 =>
 aOff v1 0 fun v12 =>
 aOff v12 0 fun v13 =>
 aLoad false 1 v13 h4 fun v14 =>
 aMin v14 [a1] fun v15 =>
 aBin prog .sub 3 v11 v15 fun v16 =>
 aOff v1 0 fun v17 =>
 aOff v17 0 fun v18 =>
 aStore 1 v18 v16 h4 fun h19 =>
 aLoad true 3 v1 h19 fun v20 =>
 aStore 3 v3 v20 h19 fun h21 =>
 RetQ prog [.cell 4 100,.tmp 5] h.length K .ret (RG.p (RG.p (RG.p (RG.p (RG.p (RG.p (RG.p (RG.p (RG.p (RG.p (RG.p (RG.p (RG.p (RG.p (RG.p (RG.p (RG.p (RG.p (RG.p (RG.p (RG.p (RG.p (RG.p (RG.mk (regs [a0,a1]) []) 2 v1) 4 v3) 5 (Value.bool false)) 7 v5) 8 v6) 9 v7) 10 a1) 11 v8) 6 v8) 12 v9) 13 v10) 14 v11) 15 v12) 16 v13) 17 v14) 18 a1) 19 v15) 20 v16) 21 v17) 22 v18) 23 v20) 24 v8) 5 v8) h21) := top_eq pok51 ct51 (by kernel_rfl)
theorem g51 (hJ : Closed prog main J) {a0 a1 : Value} (hs : heapOk h → W prog J 25 h.length 51 (codeOf f51) (RG.mk (regs [a0,a1]) []) h (RetQ prog [.cell 4 100,.tmp 5] h.length K)) : Good prog J 51 [a0,a1] h K :=
 good_of_W hJ mixed at51 body51 (by kernel_rfl) (Nat.le_of_ble_eq_true rfl) hs
theorem at45 : prog.funcs[45]? = some f45 := by kernel_rfl
theorem body45 : f45.body = some (codeOf f45) := by kernel_rfl
def pl45 : Plans := [(6,true,.take 0 (.take 1 (.take 2 (.take 3 (.take 4 (.take 5 (.take 6 (.take 7 (.take 8 (.take 9 (.take 10 (.take 11 (.take 12 (.take 13 (.take 14 (.take 15 (.take 16 (.take 17 (.fin))))))))))))))))))),
 (7,false,.take 0 (.take 1 (.take 2 (.take 3 (.take 4 (.take 5 (.take 6 (.last 7 true (.take 8 (.take 9 (.take 10 (.last 11 false (.fin)))))))))))))]
def ct45 : Cuts := .bin (.go) (.bin (.go) (.bin (.go) (.un (.un (.bin (.un (.bin (.go) (.bin (.go) (.bin (.bin (.go) (.cut (.go))) (.bin (.go) (.bin (.go) (.cut (.go)))))))) (.go))))))
theorem pok45 : plansOk prog pl45 (codeOf f45) = true := by kernel_rfl
theorem e45 {a0 a1 a2 : Value} : W prog J 86 h.length 45 (codeOf f45) (RG.mk (regs [a0,a1,a2]) []) h (RetQ prog [.tmp 6] h.length K) =
(aBox a0 h fun v1 h2 =>
 aOff v1 0 fun v3 =>
 aLoad true 3 v3 h2 fun v4 =>
 aFill [(vint 0),(vint 0),(vint 0)] [(0,3,v4)] fun c5 =>
 aAlloc [(vint 0),(vint 0),(vint 0)] h2 fun v6 h7 =>
 aStore 3 v6 (Value.agg ⟨c5⟩) h7 fun h8 =>
 Sem J 86 h.length 45 (subC [1,1,1,0] (codeOf f45)) (RG.p (RG.p (RG.p (RG.p (RG.p (RG.p (RG.p (RG.p (RG.p (RG.mk (regs [a0,a1,a2]) []) 3 v1) 6 (vint 0)) 13 v3) 14 v4) 15 (Value.agg ⟨c5⟩)) 7 v6) 8 (vint 0)) 9 (vint 0)) 10 (vint 0)) h8 (contX pl45 prog J 86 h.length 45 ct45 [1,1,1,0] (codeOf f45) [] (RetQ prog [.tmp 6] h.length K))) := top_eq pok45 ct45 (by kernel_rfl)
theorem g45 (hJ : Closed prog main J) {a0 a1 a2 : Value} (hs : heapOk h → W prog J 86 h.length 45 (codeOf f45) (RG.mk (regs [a0,a1,a2]) []) h (RetQ prog [.tmp 6] h.length K)) : Good prog J 45 [a0,a1,a2] h K :=
 good_of_W hJ mixed at45 body45 (by kernel_rfl) (Nat.le_of_ble_eq_true rfl) hs
theorem s45_1 {f : RG} {nx0 : RG → List AObj → Prop} : W prog J 86 n0 45 (subC [1,1,1,0,0] (codeOf f45)) f h (thenK nx0 (contX pl45 prog J 86 n0 45 ct45 [1,1,1,0] (codeOf f45) [] (RetQ prog [.tmp 6] n0 K))) =
(aIdx 1 (f.r 2) (f.r 9) fun v1 =>
 aLoad false 1 v1 h fun v2 =>
 aOff (f.r 7) 0 fun v3 =>
 aOff v3 0 fun v4 =>
 aLoad false 1 v4 h fun v5 =>
 aIdx 1 (f.r 1) v2 fun v6 =>
 aLoad false 1 v6 h fun v7 =>
 aBin prog .geq 3 (f.r 10) v7 fun v8 =>
 cnd v8
(aOff (f.r 7) 0 fun v9 =>
 aOff v9 0 fun v10 =>
 aLoad false 1 v10 h fun v11 =>
 aOff (f.r 3) 3 fun v12 =>
 aLoad false 1 v12 h fun v13 =>
 aIdx 2 v13 v2 fun v14 =>
 aOff v14 0 fun v15 =>
 aLoad false 1 v15 h fun v16 =>
 aBin prog .geq 3 v11 v16 fun v17 =>
 Hold (W prog J 86 n0 45 (subC yp5 (codeOf f45)) (RG.p (RG.p (RG.p (RG.p (RG.p (RG.p (RG.p (RG.p (RG.p (RG.p (RG.p (RG.p (RG.p (RG.p (RG.p (RG.p (RG.p (RG.p (RG.p (RG.p (RG.p (RG.p (RG.p (RG.p (RG.p (RG.p (RG.p (RG.p f 18 (f.r 2)) 19 (f.r 9)) 20 v1) 21 v2) 11 v2) 22 v3) 23 v4) 24 v5) 12 v5) 25 (f.r 10)) 26 (f.r 1)) 27 v2) 28 v6) 29 v7) 30 v8) 31 v8) 31 (Value.bool true)) 32 v9) 33 v10) 34 v11) 35 v12) 36 v13) 37 v2) 38 v14) 39 v15) 40 v16) 41 v17) 42 v17) h (contX pl45 prog J 86 n0 45 ct45 yp5 (codeOf f45) [nx0] (RetQ prog [.tmp 6] n0 K))))
(Hold (W prog J 86 n0 45 (subC yp5 (codeOf f45)) (RG.p (RG.p (RG.p (RG.p (RG.p (RG.p (RG.p (RG.p (RG.p (RG.p (RG.p (RG.p (RG.p (RG.p (RG.p (RG.p (RG.p (RG.p (RG.p (RG.p (RG.p (RG.p (RG.p (RG.p (RG.p (RG.p (RG.p (RG.p f 18 (f.r 2)) 19 (f.r 9)) 20 v1) 21 v2) 11 v2) 22 v3) 23 v4) 24 v5) 12 v5) 25 (f.r 10)) 26 (f.r 1)) 27 v2) 28 v6) 29 v7) 30 v8) 31 v8) 31 (Value.bool false)) 32 undef) 33 undef) 34 undef) 35 undef) 36 undef) 37 undef) 38 undef) 39 undef) 40 undef) 41 undef) 42 (Value.bool false)) h (contX pl45 prog J 86 n0 45 ct45 yp5 (codeOf f45) [nx0] (RetQ prog [.tmp 6] n0 K))))) := sub_eq pok45 ct45 (by kernel_rfl)
theorem l45_1 (hJ : Closed prog main J) {S : Type} (μ : S → Nat) (I : S → RG → List AObj → Prop) (hI : ∀ s f h,I s f h → heapOk h → n0 ≤ h.length → W prog J 86 n0 45 (subC [1,1,1,0,0] (codeOf f45)) f h (thenK (Nx n0 μ I s) (contX pl45 prog J 86 n0 45 ct45 [1,1,1,0] (codeOf f45) [] (RetQ prog [.tmp 6] n0 K))))
 {s : S} {f : RG} (hi : Gets n0 I s f h) : Sem J 86 n0 45 (subC [1,1,1,0] (codeOf f45)) f h (contX pl45 prog J 86 n0 45 ct45 [1,1,1,0] (codeOf f45) [] (RetQ prog [.tmp 6] n0 K)) :=
 loop_rule hJ mixed (b := subC [1,1,1,0,0] (codeOf f45)) (by kernel_rfl) μ I hI hi
theorem s45_2 {f : RG} {nx0 : RG → List AObj → Prop} : W prog J 86 n0 45 (subC yp5 (codeOf f45)) f h (contX pl45 prog J 86 n0 45 ct45 yp5 (codeOf f45) [nx0] (RetQ prog [.tmp 6] n0 K)) =
(cnd (f.r 42)
((∃ B,aLoad true 3 (f.r 7) h fun v1 =>
 RdOk (some B) (ptrBlk (f.r 7)) ∧ (aOff (f.r 3) 3 fun v2 =>
 aLoad false 1 v2 h fun v3 =>
 RdOk (some B) (ptrBlk v2) ∧ (aIdx 2 v3 (f.r 11) fun v4 =>
 aOff v4 0 fun v5 =>
 aLoad false 1 v5 h fun v6 =>
 RdOk (some B) (ptrBlk v5) ∧ (Good prog J 51 [v1,v6] h fun v7 h8 =>
 SameB (some B) h h8 ∧ (aExt v7 0 fun v9 =>
 aExt v7 1 fun v10 =>
 aStore 3 (f.r 7) v9 h8 fun h11 =>
 aIdx 1 (f.r 1) (f.r 11) fun v12 =>
 aLoad false 1 v12 h11 fun v13 =>
 aBin prog .sub 3 (f.r 10) v13 fun v14 =>
 aBin prog .add 3 (f.r 8) v14 fun v15 =>
 aBin prog .add 3 (f.r 9) (vint 1) fun v16 =>
 aLenS (f.r 2) fun v17 =>
 aBin prog .eql 3 v16 v17 fun v18 =>
 cnd v18
(retL n0 K f.ds [v15] h11)
(aLoad true 3 (f.r 7) h11 fun v19 =>
 Good prog J 48 [v19] h11 fun v20 h21 =>
 aStore 3 (f.r 7) v20 h21 fun h22 =>
 aBin prog .add 3 (f.r 10) (vint 1) fun v23 =>
 nx0 (RG.p (RG.p (RG.p (RG.p (RG.p (RG.p (RG.p (RG.p (RG.p (RG.p (RG.p (RG.p (RG.p (RG.p (RG.p (RG.p (RG.p (RG.p (RG.p (RG.p (RG.p (RG.p (RG.p (RG.p (RG.p (RG.p (RG.p (RG.p (RG.p (RG.p (RG.p (RG.p f 44 v1) 45 v2) 46 v3) 47 (f.r 11)) 48 v4) 49 v5) 50 v6) 51 v7) 43 v7) 52 v9) 53 v10) 54 (f.r 8)) 55 (f.r 10)) 56 (f.r 1)) 57 (f.r 11)) 58 v12) 59 v13) 60 v14) 61 v15) 8 v15) 62 (f.r 9)) 63 v16) 9 v16) 64 v16) 65 (f.r 2)) 66 v17) 67 v18) 69 v19) 70 v20) 16 (f.r 10)) 17 v23) 10 v23) h22)))))))
(aLoad true 3 (f.r 7) h fun v24 =>
 Good prog J 48 [v24] h fun v25 h26 =>
 aStore 3 (f.r 7) v25 h26 fun h27 =>
 aOff (f.r 7) 0 fun v28 =>
 aOff v28 0 fun v29 =>
 aLoad false 1 v29 h27 fun v30 =>
 aBin prog .eql 3 v30 (f.r 12) fun v31 =>
 cnd v31
(aIdx 1 (f.r 1) (f.r 11) fun v32 =>
 aLoad false 1 v32 h27 fun v33 =>
 aBin prog .geq 3 (f.r 10) v33 fun v34 =>
 Hold (W prog J 86 n0 45 (subC yp8 (codeOf f45)) (RG.p (RG.p (RG.p (RG.p (RG.p (RG.p (RG.p (RG.p (RG.p (RG.p (RG.p (RG.p (RG.p (RG.p (RG.p (RG.p f 71 v24) 72 v25) 73 v28) 74 v29) 75 v30) 76 (f.r 12)) 77 v31) 78 v31) 78 (Value.bool true)) 79 (f.r 10)) 80 (f.r 1)) 81 (f.r 11)) 82 v32) 83 v33) 84 v34) 85 v34) h27 (contX pl45 prog J 86 n0 45 ct45 yp8 (codeOf f45) [nx0] (RetQ prog [.tmp 6] n0 K))))
(Hold (W prog J 86 n0 45 (subC yp8 (codeOf f45)) (RG.p (RG.p (RG.p (RG.p (RG.p (RG.p (RG.p (RG.p (RG.p (RG.p (RG.p (RG.p (RG.p (RG.p (RG.p (RG.p f 71 v24) 72 v25) 73 v28) 74 v29) 75 v30) 76 (f.r 12)) 77 v31) 78 v31) 78 (Value.bool false)) 79 undef) 80 undef) 81 undef) 82 undef) 83 undef) 84 undef) 85 (Value.bool false)) h27 (contX pl45 prog J 86 n0 45 ct45 yp8 (codeOf f45) [nx0] (RetQ prog [.tmp 6] n0 K)))))) := sub_eq pok45 ct45 (by kernel_rfl)
theorem s45_3 {f : RG} {nx0 : RG → List AObj → Prop} : W prog J 86 n0 45 (subC yp8 (codeOf f45)) f h (contX pl45 prog J 86 n0 45 ct45 yp8 (codeOf f45) [nx0] (RetQ prog [.tmp 6] n0 K)) =
(cnd (f.r 85)
(retL n0 K f.ds [(vint (-1))] h)
(aBin prog .add 3 (f.r 10) (vint 1) fun v1 =>
 nx0 (RG.p (RG.p (RG.p f 16 (f.r 10)) 17 v1) 10 v1) h)) := sub_eq pok45 ct45 (by kernel_rfl)
end
section
variable {main : Bool} {J : JT} {n0 : Nat} {h : List AObj} {K : Value → List AObj → Prop}
theorem at37 : prog.funcs[37]? = some f37 := by kernel_rfl
theorem body37 : f37.body = some (codeOf f37) := by kernel_rfl
def pl37 : Plans := []
def ct37 : Cuts := .go
theorem pok37 : plansOk prog pl37 (codeOf f37) = true := by kernel_rfl
theorem e37 {a0 a1 a2 : Value} : W prog J 15 h.length 37 (codeOf f37) (RG.mk (regs [a0,a1,a2]) []) h (RetQ prog [.tmp 6] h.length K) =
(aBin prog .leq 3 a1 a0 fun v1 =>
 cnd v1
(aBin prog .leq 3 a0 a2 fun v2 =>
 retL h.length K [] [v2] h)
(retL h.length K [] [(Value.bool false)] h)) := top_eq pok37 ct37 (by kernel_rfl)
theorem g37 (hJ : Closed prog main J) {a0 a1 a2 : Value} (hs : heapOk h → W prog J 15 h.length 37 (codeOf f37) (RG.mk (regs [a0,a1,a2]) []) h (RetQ prog [.tmp 6] h.length K)) : Good prog J 37 [a0,a1,a2] h K :=
 good_of_W hJ mixed at37 body37 (by kernel_rfl) (Nat.le_of_ble_eq_true rfl) hs
theorem at42 : prog.funcs[42]? = some f42 := by kernel_rfl
theorem body42 : f42.body = some (codeOf f42) := by kernel_rfl
def pl42 : Plans := []
def ct42 : Cuts := .go
theorem pok42 : plansOk prog pl42 (codeOf f42) = true := by kernel_rfl
theorem e42 {a0 a1 a2 : Value} : W prog J 15 h.length 42 (codeOf f42) (RG.mk (regs [a0,a1,a2]) []) h (RetQ prog [.tmp 6] h.length K) =
(aBin prog .lss 3 a0 a1 fun v1 =>
 cnd v1
(retL h.length K [] [(vint 7)] h)
(aBin prog .gtr 3 a0 a2 fun v2 =>
 cnd v2
(retL h.length K [] [(vint 6)] h)
(retL h.length K [] [(vint 0)] h))) := top_eq pok42 ct42 (by kernel_rfl)
theorem g42 (hJ : Closed prog main J) {a0 a1 a2 : Value} (hs : heapOk h → W prog J 15 h.length 42 (codeOf f42) (RG.mk (regs [a0,a1,a2]) []) h (RetQ prog [.tmp 6] h.length K)) : Good prog J 42 [a0,a1,a2] h K :=
 good_of_W hJ mixed at42 body42 (by kernel_rfl) (Nat.le_of_ble_eq_true rfl) hs
theorem at46 : prog.funcs[46]? = some f46 := by kernel_rfl
theorem body46 : f46.body = some (codeOf f46) := by kernel_rfl
def pl46 : Plans := []
def ct46 : Cuts := .bin (.go) (.bin (.bin (.go) (.cut (.go))) (.go))
theorem pok46 : plansOk prog pl46 (codeOf f46) = true := by kernel_rfl
theorem e46 {a0 : Value} : W prog J 18 h.length 46 (codeOf f46) (RG.mk (regs [a0]) []) h (RetQ prog [.tmp 2] h.length K) =
(aBox a0 h fun v1 h2 =>
 aOff v1 1 fun v3 =>
 aLoad false 1 v3 h2 fun v4 =>
 Good prog J 37 [v4,(vint 1),(vint 40)] h2 fun v5 h6 =>
 cnd v5
(aOff v1 0 fun v7 =>
 aLoad false 1 v7 h6 fun v8 =>
 aOff v1 1 fun v9 =>
 aLoad false 1 v9 h6 fun v10 =>
 Good prog J 37 [v8,(vint 0),v10] h6 fun v11 h12 =>
 cnd v11
(aOff v1 2 fun v13 =>
 aLoad false 1 v13 h12 fun v14 =>
 Good prog J 37 [v14,(vint 0),(vint 20)] h12 fun v15 h16 =>
 Hold (W prog J 18 h.length 46 (subC [1,0,1] (codeOf f46)) (RG.p (RG.p (RG.p (RG.p (RG.p (RG.p (RG.p (RG.p (RG.p (RG.p (RG.p (RG.p (RG.p (RG.p (RG.p (RG.p (RG.p (RG.p (RG.p (RG.mk (regs [a0]) []) 1 v1) 2 (vint 0)) 3 v3) 4 v4) 5 v5) 6 v5) 6 (Value.bool true)) 7 v7) 8 v8) 9 v9) 10 v10) 11 v11) 12 v11) 13 v11) 13 (Value.bool true)) 14 v13) 15 v14) 16 v15) 17 v15) h16 (contX pl46 prog J 18 h.length 46 ct46 [1,0,1] (codeOf f46) [] (RetQ prog [.tmp 2] h.length K))))
(Hold (W prog J 18 h.length 46 (subC [1,0,1] (codeOf f46)) (RG.p (RG.p (RG.p (RG.p (RG.p (RG.p (RG.p (RG.p (RG.p (RG.p (RG.p (RG.p (RG.p (RG.p (RG.p (RG.p (RG.p (RG.p (RG.p (RG.mk (regs [a0]) []) 1 v1) 2 (vint 0)) 3 v3) 4 v4) 5 v5) 6 v5) 6 (Value.bool true)) 7 v7) 8 v8) 9 v9) 10 v10) 11 v11) 12 v11) 13 v11) 13 (Value.bool false)) 14 undef) 15 undef) 16 undef) 17 (Value.bool false)) h12 (contX pl46 prog J 18 h.length 46 ct46 [1,0,1] (codeOf f46) [] (RetQ prog [.tmp 2] h.length K)))))
(Hold (W prog J 18 h.length 46 (subC [1,0,1] (codeOf f46)) (RG.p (RG.p (RG.p (RG.p (RG.p (RG.p (RG.p (RG.p (RG.p (RG.p (RG.p (RG.p (RG.p (RG.p (RG.p (RG.p (RG.p (RG.p (RG.p (RG.mk (regs [a0]) []) 1 v1) 2 (vint 0)) 3 v3) 4 v4) 5 v5) 6 v5) 6 (Value.bool false)) 7 undef) 8 undef) 9 undef) 10 undef) 11 undef) 12 (Value.bool false)) 13 (Value.bool false)) 13 (Value.bool false)) 14 undef) 15 undef) 16 undef) 17 (Value.bool false)) h6 (contX pl46 prog J 18 h.length 46 ct46 [1,0,1] (codeOf f46) [] (RetQ prog [.tmp 2] h.length K))))) := top_eq pok46 ct46 (by kernel_rfl)
theorem g46 (hJ : Closed prog main J) {a0 : Value} (hs : heapOk h → W prog J 18 h.length 46 (codeOf f46) (RG.mk (regs [a0]) []) h (RetQ prog [.tmp 2] h.length K)) : Good prog J 46 [a0] h K :=
 good_of_W hJ mixed at46 body46 (by kernel_rfl) (Nat.le_of_ble_eq_true rfl) hs
theorem s46_1 {f : RG} : W prog J 18 n0 46 (subC [1,0,1] (codeOf f46)) f h (contX pl46 prog J 18 n0 46 ct46 [1,0,1] (codeOf f46) [] (RetQ prog [.tmp 2] n0 K)) =
(cnd (f.r 17)
(retL n0 K f.ds [(vint 0)] h)
(retL n0 K f.ds [(vint 1)] h)) := sub_eq pok46 ct46 (by kernel_rfl)
theorem at27 : prog.funcs[27]? = some f27 := by kernel_rfl
theorem body27 : f27.body = some (codeOf f27) := by kernel_rfl
def pl27 : Plans := []
def ct27 : Cuts := .bin (.go) (.bin (.go) (.bin (.go) (.bin (.bin (.go) (.un (.un (.bin (.go) (.bin (.go) (.bin (.un (.bin (.go) (.bin (.go) (.cut (.go))))) (.go))))))) (.go))))
theorem pok27 : plansOk prog pl27 (codeOf f27) = true := by kernel_rfl
theorem e27 {a0 : Value} : W prog J 38 h.length 27 (codeOf f27) (RG.mk (regs [a0]) []) h (RetQ prog [.tmp 2] h.length K) =
(aBox a0 h fun v1 h2 =>
 aOff v1 0 fun v3 =>
 aLoad true 3 v3 h2 fun v4 =>
 Good prog J 46 [v4] h2 fun v5 h6 =>
 aBin prog .neq 35 v5 (vint 0) fun v7 =>
 cnd v7
(retL h.length K [] [v5] h6)
(aOff v1 3 fun v8 =>
 aLoad false 1 v8 h6 fun v9 =>
 aLenS v9 fun v10 =>
 Good prog J 42 [v10,(vint 1),(vint 3)] h6 fun v11 h12 =>
 aBin prog .neq 35 v11 (vint 0) fun v13 =>
 cnd v13
(retL h.length K [] [v11] h12)
(aOff v1 3 fun v14 =>
 aLoad false 1 v14 h12 fun v15 =>
 aLenS v15 fun v16 =>
 Sem J 38 h.length 27 (subC yp0 (codeOf f27)) (RG.p (RG.p (RG.p (RG.p (RG.p (RG.p (RG.p (RG.p (RG.p (RG.p (RG.p (RG.p (RG.p (RG.p (RG.p (RG.p (RG.p (RG.p (RG.p (RG.mk (regs [a0]) []) 1 v1) 2 (vint 0)) 7 v3) 8 v4) 9 v5) 3 v5) 10 v5) 11 v7) 13 v8) 14 v9) 15 v10) 16 v11) 4 v11) 17 v11) 18 v13) 20 v14) 21 v15) 22 v16) 23 (vint 0)) h12 (contX pl27 prog J 38 h.length 27 ct27 yp0 (codeOf f27) [] (RetQ prog [.tmp 2] h.length K))))) := top_eq pok27 ct27 (by kernel_rfl)
theorem g27 (hJ : Closed prog main J) {a0 : Value} (hs : heapOk h → W prog J 38 h.length 27 (codeOf f27) (RG.mk (regs [a0]) []) h (RetQ prog [.tmp 2] h.length K)) : Good prog J 27 [a0] h K :=
 good_of_W hJ mixed at27 body27 (by kernel_rfl) (Nat.le_of_ble_eq_true rfl) hs
theorem s27_1 {f : RG} {nx0 : RG → List AObj → Prop} : W prog J 38 n0 27 (subC yp3 (codeOf f27)) f h (thenK nx0 (contX pl27 prog J 38 n0 27 ct27 yp0 (codeOf f27) [] (RetQ prog [.tmp 2] n0 K))) =
(aBin prog .lss 3 (f.r 23) (f.r 22) fun v1 =>
 cnd v1
(aIdx 2 (f.r 21) (f.r 23) fun v2 =>
 aLoad true 2 v2 h fun v3 =>
 aAlloc [(vint 0),(vint 0)] h fun v4 h5 =>
 aStore 2 v4 v3 h5 fun h6 =>
 aOff v4 0 fun v7 =>
 aLoad false 1 v7 h6 fun v8 =>
 Good prog J 37 [v8,(vint 1),(vint 40)] h6 fun v9 h10 =>
 aUn .not v9 fun v11 =>
 cnd v11
(Hold (W prog J 38 n0 27 (subC yp13 (codeOf f27)) (RG.p (RG.p (RG.p (RG.p (RG.p (RG.p (RG.p (RG.p (RG.p (RG.p (RG.p (RG.p (RG.p (RG.p (RG.p f 24 v1) 25 v2) 26 v3) 6 v4) 27 v7) 28 v8) 29 v9) 30 v11) 31 v11) 31 (Value.bool true)) 32 undef) 33 undef) 34 undef) 35 undef) 36 (Value.bool true)) h10 (contX pl27 prog J 38 n0 27 ct27 yp13 (codeOf f27) [nx0] (RetQ prog [.tmp 2] n0 K))))
(aOff v4 1 fun v12 =>
 aLoad false 1 v12 h10 fun v13 =>
 Good prog J 37 [v13,(vint 1),(vint 8)] h10 fun v14 h15 =>
 aUn .not v14 fun v16 =>
 Hold (W prog J 38 n0 27 (subC yp13 (codeOf f27)) (RG.p (RG.p (RG.p (RG.p (RG.p (RG.p (RG.p (RG.p (RG.p (RG.p (RG.p (RG.p (RG.p (RG.p (RG.p f 24 v1) 25 v2) 26 v3) 6 v4) 27 v7) 28 v8) 29 v9) 30 v11) 31 v11) 31 (Value.bool false)) 32 v12) 33 v13) 34 v14) 35 v16) 36 v16) h15 (contX pl27 prog J 38 n0 27 ct27 yp13 (codeOf f27) [nx0] (RetQ prog [.tmp 2] n0 K)))))
(retL n0 K f.ds [(vint 0)] h)) := sub_eq pok27 ct27 (by kernel_rfl)
theorem l27_1 (hJ : Closed prog main J) {S : Type} (μ : S → Nat) (I : S → RG → List AObj → Prop) (hI : ∀ s f h,I s f h → heapOk h → n0 ≤ h.length → W prog J 38 n0 27 (subC yp3 (codeOf f27)) f h (thenK (Nx n0 μ I s) (contX pl27 prog J 38 n0 27 ct27 yp0 (codeOf f27) [] (RetQ prog [.tmp 2] n0 K))))
 {s : S} {f : RG} (hi : Gets n0 I s f h) : Sem J 38 n0 27 (subC yp0 (codeOf f27)) f h (contX pl27 prog J 38 n0 27 ct27 yp0 (codeOf f27) [] (RetQ prog [.tmp 2] n0 K)) :=
 loop_rule hJ mixed (b := subC yp3 (codeOf f27)) (by kernel_rfl) μ I hI hi
theorem s27_2 {f : RG} {nx0 : RG → List AObj → Prop} : W prog J 38 n0 27 (subC yp13 (codeOf f27)) f h (contX pl27 prog J 38 n0 27 ct27 yp13 (codeOf f27) [nx0] (RetQ prog [.tmp 2] n0 K)) =
(cnd (f.r 36)
(retL n0 K f.ds [(vint 1)] h)
(aBin prog .add 3 (f.r 23) (vint 1) fun v1 =>
 nx0 (RG.p (RG.p f 37 v1) 23 v1) h)) := sub_eq pok27 ct27 (by kernel_rfl)
end
end Go.Proofs.YtcmgjbflljmphaaGreatDoor
namespace Go.Proofs.YtcmgjbflljmphaaGreatDoor
open Go.Conc
section
variable {P : Program} {t : TypeId} {K : Value → Prop} {H : Value → List AObj → Prop} {HL : List AObj → Prop} {a b : Int} {h g : List AObj} {A B : Prop}
theorem box_agg {cs : List Value} (h1 : cs.all one = true) (hk : H (ptr h.length 0) (h ++ [.cells cs true 0])) : aBox (.agg ⟨cs⟩) h H := ⟨h1,hk⟩
theorem box_one {v : Value} (hc : v.cells = #[v]) (h1 : one v = true) (hk : H (ptr h.length 0) (h ++ [.cells [v] true 0])) : aBox v h H := by
 unfold aBox
 rw [hc]
 exact ⟨by simpa using h1,hk⟩
theorem load_part {b o s : Nat} {cs c : List Value} {wr : Bool} {sz : Nat} (hb : h[b]? = some (.cells cs wr sz)) (hl : o + s ≤ cs.length) (hc : (cs.drop o).take s = c) (hn : kn c = true) (hk : K (.agg ⟨c⟩)) : aLoad true s (ptr b o) h K := by
 simp only [aLoad,hb,cond_true,hc]
 exact ⟨hl,hn,hk⟩
theorem store_agg {b : Nat} {cs c : List Value} {s : Nat} {sz : Nat} (hb : h[b]? = some (.cells cs true sz)) (hl : c.length = s) (hs : cs.length = s) (h1 : c.all one = true) (hk : HL (h.set b (.cells c true sz))) : aStore s (ptr b 0) (.agg ⟨c⟩) h HL := by
 have e : ∀ (c cs : List Value) (pre : List Value),cs.length = c.length → wrAt (pre ++ cs) pre.length c = pre ++ c := by
  intro c
  induction c with
  | nil =>
   intro cs pre h
   have : cs = [] := List.length_eq_zero_iff.1 (by simpa using h)
   subst this
   rfl
  | cons x c ih =>
   intro cs pre h
   cases cs with
   | nil => simp at h
   | cons y cs =>
    unfold wrAt
    have := ih cs (pre ++ [x]) (by simpa using h)
    simp only [List.length_append,List.length_cons,List.length_nil,List.append_assoc,List.cons_append,List.nil_append] at this
    simp only [List.set_append_right _ _ (Nat.le_refl _),Nat.sub_self,List.set_cons_zero]
    exact this
 simp only [aStore,hb,Value.cells]
 refine ⟨by simpa using hl,h1,by omega,?_⟩
 have := e c cs [] (by omega)
 simp only [List.nil_append,List.length_nil] at this
 rw [this]
 exact hk
theorem resW_cell {rs : List ResultVar} {r : Nat → Value} {x : Nat} {gg : Bool} {s : Nat} {KL : List Value → Prop} (ht : tk P t = some (gg,s)) (hk : aLoad gg s (r x) h fun v => resW P rs r h fun vs => KL (v :: vs)) : resW P (.cell x t :: rs) r h KL := by
 unfold resW
 rw [ht]
 exact hk
theorem resW_tmp {rs : List ResultVar} {r : Nat → Value} {x : Nat} {KL : List Value → Prop} (hn : r x ≠ unk) (hk : resW P rs r h fun vs => KL (r x :: vs)) : resW P (.tmp x :: rs) r h KL := ⟨hn,hk⟩
theorem resW_nil {r : Nat → Value} {KL : List Value → Prop} (hk : KL []) : resW P [] r h KL := hk
theorem resW_imp : ∀ (rs : List ResultVar) {r : Nat → Value} {h : List AObj} {K K' : List Value → Prop},resW P rs r h K → (∀ vs,K vs → K' vs) → resW P rs r h K'
 | [],r,h,K,K',hx,hk => hk _ hx
 | .tmp t :: rs,r,h,K,K',hx,hk => ⟨hx.1,resW_imp rs hx.2 fun vs => hk _⟩
 | .cell a t :: rs,r,h,K,K',hx,hk => by
  unfold resW at hx ⊢
  split at hx
  ·obtain ⟨v,k1,k2⟩ := pin_aLoad _ hx
   exact k2 (fun v => resW P rs r h fun vs => K' (v :: vs)) (resW_imp rs k1 fun vs => hk _)
  ·exact hx.elim
theorem retQ_drop {rs : List ResultVar} {n0 : Nat} {f : RG} (ds : f.ds = []) (ok : heapOk h) (hn : n0 ≤ h.length) (hr : resW P rs f.r (h ++ g) fun vs => VOk h.length (pack vs) ∧ H (pack vs) h) : RetQ P rs n0 H .ret f (h ++ g) := by
 unfold RetQ
 rw [ds]
 exact resW_imp rs hr fun vs hv => .inr ⟨id,h,pack vs,gc_drop ok hn,(sub_id hv.1).symm,hv.1,hv.2⟩
end
end Go.Proofs.YtcmgjbflljmphaaGreatDoor
namespace Go.Proofs.YtcmgjbflljmphaaGreatDoor
open Go.Conc Go.Proofs.Tryz
set_option maxRecDepth 100000
set_option maxHeartbeats 4000000
set_option linter.unusedVariables false
section
variable {main : Bool} {J : JT} {n0 : Nat} {h : List AObj} {K : Value → List AObj → Prop}
theorem at70 : prog.funcs[70]? = some f70 := by kernel_rfl
theorem body70 : f70.body = some (codeOf f70) := by kernel_rfl
theorem e70 {a0 : Value} : W prog J 72 h.length 70 (codeOf f70) (RG.mk (regs [a0]) []) h (RetQ prog [.tmp 2] h.length K) =
(aNil a0 fun v1 =>
 aOff v1 1 fun v2 =>
 aLoad false 1 v2 h fun v3 =>
 aConvI .u64 v3 fun v4 =>
 aNil a0 fun v5 =>
 aOff v5 1 fun v6 =>
 aLoad false 1 v6 h fun v7 =>
 aNil a0 fun v8 =>
 aOff v8 0 fun v9 =>
 aLoad false 1 v9 h fun v10 =>
 aLenS v10 fun v11 =>
 aBin prog .lss 3 v7 v11 fun v12 =>
 cnd v12
(aNil a0 fun v13 =>
 aOff v13 0 fun v14 =>
 aLoad false 1 v14 h fun v15 =>
 aNil a0 fun v16 =>
 aOff v16 1 fun v17 =>
 aLoad false 1 v17 h fun v18 =>
 aIdx 1 v15 v18 fun v19 =>
 aLoad false 1 v19 h fun v20 =>
 aConvI .u64 v20 fun v21 =>
 aNil a0 fun v22 =>
 aOff v22 1 fun v23 =>
 aLoad false 1 v23 h fun v24 =>
 aBin prog .add 3 v24 (vint 1) fun v25 =>
 aNil a0 fun v26 =>
 aOff v26 1 fun v27 =>
 aStore 1 v27 v25 h fun h28 =>
 aNil a0 fun v29 =>
 aOff v29 2 fun v30 =>
 aLoad false 1 v30 h28 fun v31 =>
 aBin prog .mul 65 v21 (Value.int .u64 11400714819323198485) fun v32 =>
 aBin prog .xor 65 v31 v32 fun v33 =>
 aBin prog .shl 65 v33 (Value.int .u64 13) fun v34 =>
 aBin prog .xor 65 v33 v34 fun v35 =>
 aBin prog .shr 65 v35 (Value.int .u64 7) fun v36 =>
 aBin prog .xor 65 v35 v36 fun v37 =>
 aBin prog .shl 65 v37 (Value.int .u64 17) fun v38 =>
 aBin prog .xor 65 v37 v38 fun v39 =>
 aBin prog .add 65 v39 (Value.int .u64 7146057691288625177) fun v40 =>
 aNil a0 fun v41 =>
 aOff v41 2 fun v42 =>
 aStore 1 v42 v40 h28 fun h43 =>
 aBin prog .shr 65 v39 (Value.int .u64 31) fun v44 =>
 aBin prog .xor 65 v39 v44 fun v45 =>
 aBin prog .mul 65 v45 (Value.int .u64 13787848793156543929) fun v46 =>
 aBin prog .shr 65 v46 (Value.int .u64 29) fun v47 =>
 aBin prog .xor 65 v46 v47 fun v48 =>
 aBin prog .shr 65 v48 (Value.int .u64 11) fun v49 =>
 retL h.length K [] [v49] h43)
(aNil a0 fun v50 =>
 aOff v50 1 fun v51 =>
 aLoad false 1 v51 h fun v52 =>
 aBin prog .add 3 v52 (vint 1) fun v53 =>
 aNil a0 fun v54 =>
 aOff v54 1 fun v55 =>
 aStore 1 v55 v53 h fun h56 =>
 aNil a0 fun v57 =>
 aOff v57 2 fun v58 =>
 aLoad false 1 v58 h56 fun v59 =>
 aBin prog .mul 65 v4 (Value.int .u64 11400714819323198485) fun v60 =>
 aBin prog .xor 65 v59 v60 fun v61 =>
 aBin prog .shl 65 v61 (Value.int .u64 13) fun v62 =>
 aBin prog .xor 65 v61 v62 fun v63 =>
 aBin prog .shr 65 v63 (Value.int .u64 7) fun v64 =>
 aBin prog .xor 65 v63 v64 fun v65 =>
 aBin prog .shl 65 v65 (Value.int .u64 17) fun v66 =>
 aBin prog .xor 65 v65 v66 fun v67 =>
 aBin prog .add 65 v67 (Value.int .u64 7146057691288625177) fun v68 =>
 aNil a0 fun v69 =>
 aOff v69 2 fun v70 =>
 aStore 1 v70 v68 h56 fun h71 =>
 aBin prog .shr 65 v67 (Value.int .u64 31) fun v72 =>
 aBin prog .xor 65 v67 v72 fun v73 =>
 aBin prog .mul 65 v73 (Value.int .u64 13787848793156543929) fun v74 =>
 aBin prog .shr 65 v74 (Value.int .u64 29) fun v75 =>
 aBin prog .xor 65 v74 v75 fun v76 =>
 aBin prog .shr 65 v76 (Value.int .u64 11) fun v77 =>
 retL h.length K [] [v77] h71)) := by kernel_rfl
theorem g70 (hJ : Closed prog main J) {a0 : Value} (hs : heapOk h → W prog J 72 h.length 70 (codeOf f70) (RG.mk (regs [a0]) []) h (RetQ prog [.tmp 2] h.length K)) : Good prog J 70 [a0] h K :=
 good_of_W hJ mixed at70 body70 (by kernel_rfl) (Nat.le_of_ble_eq_true rfl) hs
theorem at52 : prog.funcs[52]? = some f52 := by kernel_rfl
theorem body52 : f52.body = some (codeOf f52) := by kernel_rfl
theorem e52 {a0 a1 : Value} : W prog J 14 h.length 52 (codeOf f52) (RG.mk (regs [a0,a1]) []) h (RetQ prog [.tmp 4] h.length K) =
(aBin prog .leq 3 a1 (vint 0) fun v1 =>
 cnd v1
(retL h.length K [] [(vint 0)] h)
(Good prog J 70 [a0] h fun v2 h3 =>
 aBin prog .add 3 a1 (vint 1) fun v4 =>
 aConvI .u64 v4 fun v5 =>
 aBin prog .rem 65 v2 v5 fun v6 =>
 aConvI .i64 v6 fun v7 =>
 retL h.length K [] [v7] h3)) := by kernel_rfl
theorem g52 (hJ : Closed prog main J) {a0 a1 : Value} (hs : heapOk h → W prog J 14 h.length 52 (codeOf f52) (RG.mk (regs [a0,a1]) []) h (RetQ prog [.tmp 4] h.length K)) : Good prog J 52 [a0,a1] h K :=
 good_of_W hJ mixed at52 body52 (by kernel_rfl) (Nat.le_of_ble_eq_true rfl) hs
theorem at25 : prog.funcs[25]? = some f25 := by kernel_rfl
theorem body25 : f25.body = some (codeOf f25) := by kernel_rfl
theorem e25 {a0 a1 a2 : Value} : W prog J 14 h.length 25 (codeOf f25) (RG.mk (regs [a0,a1,a2]) []) h (RetQ prog [.tmp 6] h.length K) =
(aBin prog .sub 3 a2 a1 fun v1 =>
 Good prog J 52 [a0,v1] h fun v2 h3 =>
 aBin prog .add 3 a1 v2 fun v4 =>
 retL h.length K [] [v4] h3) := by kernel_rfl
theorem g25 (hJ : Closed prog main J) {a0 a1 a2 : Value} (hs : heapOk h → W prog J 14 h.length 25 (codeOf f25) (RG.mk (regs [a0,a1,a2]) []) h (RetQ prog [.tmp 6] h.length K)) : Good prog J 25 [a0,a1,a2] h K :=
 good_of_W hJ mixed at25 body25 (by kernel_rfl) (Nat.le_of_ble_eq_true rfl) hs
theorem at8 : prog.funcs[8]? = some f8 := by kernel_rfl
theorem body8 : f8.body = some (codeOf f8) := by kernel_rfl
theorem e8 {a0 : Value} : W prog J 6 h.length 8 (codeOf f8) (RG.mk (regs [a0]) []) h (RetQ prog [.tmp 2] h.length K) =
(aFill [(Value.slice none 0 0),(vint 0),(Value.int .u64 0)] [(0,1,a0),(2,1,(Value.int .u64 88172645463325252))] fun c1 =>
 aBox (Value.agg ⟨c1⟩) h fun v2 h3 =>
 retL h.length K [] [v2] h3) := by kernel_rfl
theorem g8 (hJ : Closed prog main J) {a0 : Value} (hs : heapOk h → W prog J 6 h.length 8 (codeOf f8) (RG.mk (regs [a0]) []) h (RetQ prog [.tmp 2] h.length K)) : Good prog J 8 [a0] h K :=
 good_of_W hJ mixed at8 body8 (by kernel_rfl) (Nat.le_of_ble_eq_true rfl) hs
theorem at26 : prog.funcs[26]? = some f26 := by kernel_rfl
theorem body26 : f26.body = some (codeOf f26) := by kernel_rfl
theorem e26 {a0 a1 a2 : Value} : W prog J 20 h.length 26 (codeOf f26) (RG.mk (regs [a0,a1,a2]) []) h (RetQ prog [.tmp 6] h.length K) =
(aLenS a2 fun v1 =>
 Good prog J 52 [a0,v1] h fun v2 h3 =>
 aBin prog .gtr 3 v2 (vint 0) fun v4 =>
 cnd v4
(aBin prog .sub 3 v2 (vint 1) fun v5 =>
 aIdx 1 a2 v5 fun v6 =>
 aLoad false 1 v6 h3 fun v7 =>
 retL h.length K [] [v7] h3)
(retL h.length K [] [a1] h3)) := by kernel_rfl
theorem g26 (hJ : Closed prog main J) {a0 a1 a2 : Value} (hs : heapOk h → W prog J 20 h.length 26 (codeOf f26) (RG.mk (regs [a0,a1,a2]) []) h (RetQ prog [.tmp 6] h.length K)) : Good prog J 26 [a0,a1,a2] h K :=
 good_of_W hJ mixed at26 body26 (by kernel_rfl) (Nat.le_of_ble_eq_true rfl) hs
theorem at23 : prog.funcs[23]? = some f23 := by kernel_rfl
theorem body23 : f23.body = some (codeOf f23) := by kernel_rfl
theorem e23 {a0 a1 : Value} : W prog J 26 h.length 23 (codeOf f23) (RG.mk (regs [a0,a1]) []) h (RetQ prog [.tmp 4] h.length K) =
(aLenS a0 fun v1 =>
 aLenS a1 fun v2 =>
 aBin prog .neq 3 v1 v2 fun v3 =>
 cnd v3
(retL h.length K [] [(Value.bool false)] h)
(Sem J 26 h.length 23 (subC yp1 (codeOf f23)) (RG.p (RG.p (RG.p (RG.p (RG.p (RG.p (RG.p (RG.mk (regs [a0,a1]) []) 4 (Value.bool false)) 6 a0) 7 v1) 8 a1) 9 v2) 10 v3) 5 (vint 0)) h (contQ prog J 26 h.length 23 [1,1,0,1,0] (codeOf f23) [] (RetQ prog [.tmp 4] h.length K)))) := by kernel_rfl
theorem g23 (hJ : Closed prog main J) {a0 a1 : Value} (hs : heapOk h → W prog J 26 h.length 23 (codeOf f23) (RG.mk (regs [a0,a1]) []) h (RetQ prog [.tmp 4] h.length K)) : Good prog J 23 [a0,a1] h K :=
 good_of_W hJ mixed at23 body23 (by kernel_rfl) (Nat.le_of_ble_eq_true rfl) hs
theorem s23_1 {f : RG} {nx0 : RG → List AObj → Prop} : W prog J 26 n0 23 (subC [1,1,0,1,0,0] (codeOf f23)) f h (thenK nx0 (contQ prog J 26 n0 23 [1,1,0,1,0] (codeOf f23) [] (RetQ prog [.tmp 4] n0 K))) =
(aLenS (f.r 0) fun v1 =>
 aBin prog .lss 3 (f.r 5) v1 fun v2 =>
 cnd v2
(aIdx 1 (f.r 0) (f.r 5) fun v3 =>
 aLoad false 1 v3 h fun v4 =>
 aIdx 1 (f.r 1) (f.r 5) fun v5 =>
 aLoad false 1 v5 h fun v6 =>
 aBin prog .neq 3 v4 v6 fun v7 =>
 cnd v7
(retL n0 K f.ds [(Value.bool false)] h)
(aBin prog .add 3 (f.r 5) (vint 1) fun v8 =>
 nx0 (RG.p (RG.p (RG.p (RG.p (RG.p (RG.p (RG.p (RG.p (RG.p (RG.p (RG.p (RG.p (RG.p (RG.p (RG.p (RG.p f 11 (f.r 5)) 12 (f.r 0)) 13 v1) 14 v2) 17 (f.r 0)) 18 (f.r 5)) 19 v3) 20 v4) 21 (f.r 1)) 22 (f.r 5)) 23 v5) 24 v6) 25 v7) 15 (f.r 5)) 16 v8) 5 v8) h))
(retL n0 K f.ds [(Value.bool true)] h)) := by kernel_rfl
theorem l23_1 (hJ : Closed prog main J) {S : Type} (μ : S → Nat) (I : S → RG → List AObj → Prop) (hI : ∀ s f h,I s f h → heapOk h → n0 ≤ h.length → W prog J 26 n0 23 (subC [1,1,0,1,0,0] (codeOf f23)) f h (thenK (Nx n0 μ I s) (contQ prog J 26 n0 23 [1,1,0,1,0] (codeOf f23) [] (RetQ prog [.tmp 4] n0 K))))
 {s : S} {f : RG} (hi : Gets n0 I s f h) : Sem J 26 n0 23 (subC yp1 (codeOf f23)) f h (contQ prog J 26 n0 23 [1,1,0,1,0] (codeOf f23) [] (RetQ prog [.tmp 4] n0 K)) :=
 loop_rule hJ mixed (b := subC [1,1,0,1,0,0] (codeOf f23)) (by kernel_rfl) μ I hI hi
end
end Go.Proofs.YtcmgjbflljmphaaGreatDoor
namespace Go.Proofs.YtcmgjbflljmphaaGreatDoor
open Go.Conc Go.Proofs.Tryz
structure HandAt (h : List AObj) (b : Nat) (nv : Value) (nums : List Int) (k : Nat) (s : Int) : Prop where
 at_ : h[b]? = some (.cells [nv,vint k,.int .u64 s] true 0)
 list : Sli h nv 1 nums.length (nums.map vint)
 sane : nums.length < 4611686018427387904
 few : k < 4611686018427387904
 lo : 0 ≤ s
 hi : s < 18446744073709551616
section
variable {main : Bool} {J : JT} {h : List AObj} {K : Value → List AObj → Prop}
theorem nil_ok {b o : Nat} {K : Value → Prop} : aNil (ptr b o) K = K (ptr b o) := rfl
theorem off_ok {b o d : Nat} {K : Value → Prop} : aOff (ptr b o) d K = K (ptr b (o + d)) := rfl
theorem conv_u {n : Int} {K : Value → Prop} (hk : ∀ y,0 ≤ y → y < 18446744073709551616 → K (.int .u64 y)) : aConvI .u64 (vint n) K := hk _ (wrapU _).1 (wrapU _).2
theorem u_shr11 {t : TypeId} {y : Int} (_h1 : 0 ≤ y) (_h2 : y < 18446744073709551616) {K : Value → Prop} : aBin prog .shr t (.int .u64 y) (.int .u64 11) K = K (.int .u64 (y / 2048)) := by
 have e : min (Int.toNat 11) IntKind.u64.bits = 11 := by decide
 simp only [aBin,aShift,e]
 rw [Int.fdiv_eq_ediv_of_nonneg _ (by decide)]
 simp
theorem set_twice {b : Nat} {x y : AObj} (hb : h[b]? = some x) : (h.set b y)[b]? = some y := by
 have : b < h.length := (List.getElem?_eq_some_iff.1 hb).1
 simp [this]
theorem good70 (hJ : Closed prog main J) {b : Nat} {nv : Value} {nums : List Int} {k : Nat} {s : Int} (H : HandAt h b nv nums k s)
  (hK : ∀ x s',0 ≤ x → x < 9007199254740992 → 0 ≤ s' → s' < 18446744073709551616 → K (.int .u64 x) (h.set b (.cells [nv,vint (k + 1),.int .u64 s'] true 0))) : Good prog J 70 [ptr b 0] h K := by
 refine g70 hJ fun ok => ?_
 rw [e70]
 obtain ⟨hb,hl,hsane,hfew,hlo,hhi⟩ := H
 have hnv : kn1 nv = true := by
  obtain ⟨_,_,rfl,_⟩ := hl
  rfl
 have l0 : ∀ K,aLoad false 1 (ptr b 0) h K = K nv := fun K => load_cell hb rfl hnv
 have l1 : ∀ K,aLoad false 1 (ptr b 1) h K = K (vint k) := fun K => load_cell hb rfl rfl
 -- what stands behind the joining of the ways
 have rest : ∀ x : Int,aBin prog .add 3 (vint k) (vint 1) fun v25 =>
   aStore 1 (ptr b 1) v25 h fun h28 =>
   aLoad false 1 (ptr b 2) h28 fun v31 =>
   aBin prog .mul 65 (.int .u64 x) (Value.int .u64 11400714819323198485) fun v32 =>
   aBin prog .xor 65 v31 v32 fun v33 =>
   aBin prog .shl 65 v33 (Value.int .u64 13) fun v34 =>
   aBin prog .xor 65 v33 v34 fun v35 =>
   aBin prog .shr 65 v35 (Value.int .u64 7) fun v36 =>
   aBin prog .xor 65 v35 v36 fun v37 =>
   aBin prog .shl 65 v37 (Value.int .u64 17) fun v38 =>
   aBin prog .xor 65 v37 v38 fun v39 =>
   aBin prog .add 65 v39 (Value.int .u64 7146057691288625177) fun v40 =>
   aStore 1 (ptr b 2) v40 h28 fun h43 =>
   aBin prog .shr 65 v39 (Value.int .u64 31) fun v44 =>
   aBin prog .xor 65 v39 v44 fun v45 =>
   aBin prog .mul 65 v45 (Value.int .u64 13787848793156543929) fun v46 =>
   aBin prog .shr 65 v46 (Value.int .u64 29) fun v47 =>
   aBin prog .xor 65 v46 v47 fun v48 =>
   aBin prog .shr 65 v48 (Value.int .u64 11) fun v49 =>
   retL h.length K [] [v49] h43 := by
  intro x
  rw [b_add (by omega)]
  refine store_cell hb (by simp) rfl rfl ?_
  have hb2 : (h.set b (.cells ([nv,vint k,.int .u64 s].set 1 (vint (k + 1))) true 0))[b]? = some (.cells [nv,vint (k + 1),.int .u64 s] true 0) := set_twice hb
  rw [load_cell hb2 rfl rfl]
  refine u_mul fun y1 a1 b1 => u_xor fun y2 a2 b2 => u_shl (by omega) fun y3 a3 b3 => u_xor fun y4 a4 b4 => u_shr (by omega) a4 b4 fun y5 a5 b5 => u_xor fun y6 a6 b6 => u_shl (by omega) fun y7 a7 b7 => u_xor fun y8 a8 b8 => u_add fun y9 a9 b9 => ?_
  refine store_cell hb2 (by simp) rfl rfl ?_
  refine u_shr (by omega) a8 b8 fun z1 c1 d1 => u_xor fun z2 c2 d2 => u_mul fun z3 c3 d3 => u_shr (by omega) c3 d3 fun z4 c4 d4 => u_xor fun z5 c5 d5 => ?_
  rw [u_shr11 c5 d5]
  refine retL_same (by simp [unk]) ?_
  rw [List.set_set]
  exact hK _ _ (by omega) (by omega) a9 b9
 simp only [nil_ok,off_ok,Nat.zero_add,l0,l1]
 refine conv_u fun x0 _ _ => ?_
 simp only [sli_len hl,b_lss,cnd_dec]
 refine ⟨fun hlt => idx_load hl ⟨by omega,by omega⟩ (map_get (by simpa using hlt)) fun p => conv_u fun x1 _ _ => rest x1,fun _ => rest x0⟩
def Dealt (h : List AObj) (b : Nat) (nv : Value) (k n : Nat) (h' : List AObj) : Prop :=
 ∃ (k' : Nat) (s' : Int),k' ≤ k + n ∧ 0 ≤ s' ∧ s' < 18446744073709551616 ∧ h' = h.set b (.cells [nv,vint k',.int .u64 s'] true 0)
theorem good52 (hJ : Closed prog main J) {b : Nat} {nv : Value} {nums : List Int} {k : Nat} {s m : Int} (H : HandAt h b nv nums k s) (hm : m < 9223372036854775807)
  (hK : ∀ y h',0 ≤ y → (y ≤ m ∨ y = 0) → Dealt h b nv k 1 h' → K (vint y) h') : Good prog J 52 [ptr b 0,vint m] h K := by
 refine g52 hJ fun ok => ?_
 rw [e52]
 simp only [b_leq,cnd_dec]
 refine ⟨fun h0 => retL_same (by simp [unk]) (hK 0 h (by omega) (.inr rfl) ⟨k,s,by omega,H.lo,H.hi,?_⟩),fun h0 => ?_⟩
 ·have hb : b < h.length := (List.getElem?_eq_some_iff.1 H.at_).1
  apply List.ext_getElem?
  intro i
  rw [List.getElem?_set]
  split
  ·rename_i e
   subst e
   exact H.at_
  ·rfl
 ·refine good70 hJ H fun x s' hx hx2 hs hs2 => ?_
  rw [b_add (by omega)]
  have e1 : ∀ n : Int,0 ≤ n → n < 9223372036854775808 → IntKind.u64.wrap n = n := fun n a b => by
   simp only [IntKind.wrap,IntKind.bits,IntKind.signed]
   simp
   omega
  have hmod : Int.tmod x (m + 1) = x % (m + 1) := Int.tmod_eq_emod_of_nonneg hx
  have h1 := Int.emod_nonneg x (b := m + 1) (by omega)
  have h2 := Int.emod_lt_of_pos x (b := m + 1) (by omega)
  simp only [aConvI,e1 (m + 1) (by omega) (by omega),aBin,aInt,true_and]
  rw [hmod,wrap64 (by omega) (by omega)]
  exact ⟨by omega,retL_same (by simp [unk]) (hK _ _ h1 (.inl (by omega)) ⟨k + 1,s',by omega,hs,hs2,rfl⟩)⟩
theorem good25 (hJ : Closed prog main J) {b : Nat} {nv : Value} {nums : List Int} {k : Nat} {s lo hi : Int} (H : HandAt h b nv nums k s) (h1 : -1000000000000 ≤ lo ∧ lo ≤ 1000000000000) (h2 : -1000000000000 ≤ hi ∧ hi ≤ 1000000000000)
  (hK : ∀ y h',lo ≤ y → (y ≤ hi ∨ y = lo) → Dealt h b nv k 1 h' → K (vint y) h') : Good prog J 25 [ptr b 0,vint lo,vint hi] h K := by
 refine g25 hJ fun ok => ?_
 rw [e25,b_sub (by omega)]
 refine good52 hJ H (by omega) fun y h' hy hy2 hd => ?_
 rw [b_add (by omega)]
 exact retL_same (by simp [unk]) (hK _ _ (by omega) (by omega) hd)
theorem good8 (hJ : Closed prog main J) {base : Option Addr} {n c : Nat}
  (hK : K (ptr h.length 0) (h ++ [.cells [.slice base n c,vint 0,.int .u64 88172645463325252] true 0])) : Good prog J 8 [.slice base n c] h K := by
 refine g8 hJ fun ok => ?_
 rw [e8]
 simp [aFill,aBox,wrAt,Value.cells,one]
 exact retL_same (vs := [ptr h.length 0]) (by simp [unk]) hK
theorem good26 (hJ : Closed prog main J) {b : Nat} {nv ov : Value} {nums others : List Int} {k : Nat} {s a : Int} (H : HandAt h b nv nums k s) (ho : ∀ h',Dealt h b nv k 1 h' → Sli h' ov 1 others.length (others.map vint)) (hl : others.length < 1000000)
  (hK : ∀ y h',(y = a ∨ y ∈ others) → Dealt h b nv k 1 h' → K (vint y) h') : Good prog J 26 [ptr b 0,vint a,ov] h K := by
 refine g26 hJ fun ok => ?_
 rw [e26]
 have hd0 : Dealt h b nv k 1 h := by
  refine ⟨k,s,by omega,H.lo,H.hi,?_⟩
  apply List.ext_getElem?
  intro i
  rw [List.getElem?_set]
  split
  ·rename_i e
   subst e
   have hb : b < h.length := (List.getElem?_eq_some_iff.1 H.at_).1
   rw [if_pos hb]
   exact H.at_
  ·rfl
 rw [sli_len (ho h hd0)]
 refine good52 hJ H (by omega) fun y h' hy hy2 hd => ?_
 simp only [b_gtr,cnd_dec]
 refine ⟨fun hg => ?_,fun _ => retL_same (by simp [unk]) (hK _ _ (.inl rfl) hd)⟩
 rw [b_sub (by omega)]
 refine idx_load (ho h' hd) ⟨by omega,by omega⟩ (map_get (by omega)) fun p => ?_
 refine retL_same (by simp [unk]) (hK _ _ (.inr ?_) hd)
 have : (y - 1).toNat < others.length := by omega
 simp only [List.getD_eq_getElem?_getD,List.getElem?_eq_getElem this,Option.getD_some]
 exact List.getElem_mem this
end
end Go.Proofs.YtcmgjbflljmphaaGreatDoor
namespace Go.Proofs.YtcmgjbflljmphaaGreatDoor
open Go.Conc Go.Proofs.Tryz
section
variable {main : Bool} {J : JT} {h : List AObj} {K : Value → List AObj → Prop}
theorem good23 (hJ : Closed prog main J) {av bv : Value} {xs ys : List Int} (ha : Sli h av 1 xs.length (xs.map vint)) (hb : Sli h bv 1 ys.length (ys.map vint)) (hl : xs.length < 4611686018427387904)
  (hK : K (.bool (decide (xs = ys))) h) : Good prog J 23 [av,bv] h K := by
 refine g23 hJ fun ok => ?_
 rw [e23]
 simp only [sli_len ha,sli_len hb,b_neq,cnd_dec]
 refine ⟨fun hne => retL_same (by simp [unk]) ?_,fun heq => ?_⟩
 ·have : xs ≠ ys := fun e => hne (by rw [e])
  simpa [pack,this] using hK
 ·have hlen : xs.length = ys.length := by omega
  refine l23_1 hJ (fun i => xs.length - i) (fun i f h' => h' = h ∧ f.ds = [] ∧ f.r 0 = av ∧ f.r 1 = bv ∧ f.r 5 = vint (i : Nat) ∧ i ≤ xs.length ∧ xs.take i = ys.take i) ?_ (s := 0) (.inl ⟨rfl,rfl,rfl,rfl,rfl,by omega,by simp⟩)
  rintro i f h' ⟨rfl,hds,h0,h1,h5,hi,ht⟩ _ hn
  rw [s23_1]
  simp only [h0,h1,h5,hds,sli_len ha,b_lss,cnd_dec]
  refine ⟨fun hlt => ?_,fun hge => ?_⟩
  ·have e1 : i < xs.length := by omega
   refine idx_load ha ⟨by omega,by omega⟩ (map_get (by omega)) fun p1 => ?_
   refine idx_load hb ⟨by omega,by omega⟩ (map_get (by omega)) fun p2 => ?_
   simp only [b_neq,cnd_dec,Int.toNat_natCast]
   refine ⟨fun hne => retL_same (by simp [unk]) ?_,fun heq => ?_⟩
   ·have : xs ≠ ys := fun e => hne (by rw [e])
    simpa [pack,this] using hK
   ·rw [b_add (by omega)]
    refine ⟨i + 1,by dsimp only; omega,.inl ⟨rfl,hds,h0,h1,rfl,by omega,?_⟩⟩
    have heq : xs.getD i 0 = ys.getD i 0 := by simpa using heq
    simp only [List.getD_eq_getElem?_getD,List.getElem?_eq_getElem e1,List.getElem?_eq_getElem (show i < ys.length by omega),Option.getD_some] at heq
    rw [List.take_add_one,List.take_add_one,ht,List.getElem?_eq_getElem e1,List.getElem?_eq_getElem (show i < ys.length by omega),heq]
  ·have : i = xs.length := by omega
   subst this
   rw [List.take_length,hlen,List.take_length] at ht
   refine retL_same (by simp [unk]) ?_
   simpa [pack,ht] using hK
theorem ints_ok (n : Nat) (xs : List Int) : LOk n (xs.map vint) := by
 rw [LOk_iff]
 intro v hv
 obtain ⟨x,_,rfl⟩ := List.mem_map.1 hv
 simp [VOk]
end
end Go.Proofs.YtcmgjbflljmphaaGreatDoor
namespace Go.Proofs.YtcmgjbflljmphaaGreatDoor
open Go.Conc Go.Proofs.Tryz
section
variable {main : Bool} {J : JT} {h : List AObj} {K : Value → List AObj → Prop}
def HF (h : List AObj) (nv : Value) (k : Nat) (s : Int) (rest : List AObj) : List AObj := h ++ (.cells [nv,vint k,.int .u64 s] true 0 :: rest)
theorem hf_len {h : List AObj} {nv : Value} {k : Nat} {s : Int} {rest : List AObj} : (HF h nv k s rest).length = h.length + 1 + rest.length := by
 simp [HF]; omega
theorem hf_app {h : List AObj} {nv : Value} {k : Nat} {s : Int} {rest g : List AObj} : HF h nv k s rest ++ g = HF h nv k s (rest ++ g) := by
 simp [HF]
theorem hf_hand {h : List AObj} {nv : Value} {ns : List Int} {k : Nat} {s : Int} {rest : List AObj} (sn : Sli h nv 1 ns.length (ns.map vint)) (hln : ns.length < 4611686018427387904) (hk : k < 1000000) (h0 : 0 ≤ s) (h1 : s < 18446744073709551616) :
  HandAt (HF h nv k s rest) h.length nv ns k s :=
 ⟨by simp [HF],sli_app sn,hln,by omega,h0,h1⟩
theorem hf_dealt {h h' : List AObj} {nv : Value} {k n : Nat} {s : Int} {rest : List AObj} (hd : Dealt (HF h nv k s rest) h.length nv k n h') : ∃ k' s',k' ≤ k + n ∧ 0 ≤ s' ∧ s' < 18446744073709551616 ∧ h' = HF h nv k' s' rest := by
 obtain ⟨k',s',a,b,c,rfl⟩ := hd
 refine ⟨k',s',a,b,c,?_⟩
 simp [HF]
end
end Go.Proofs.YtcmgjbflljmphaaGreatDoor
namespace Go.Proofs.YtcmgjbflljmphaaGreatDoor
open Go.Conc Go.Proofs.Tryz
def SliE {α : Type} (h : List AObj) (v : Value) (s : Nat) (enc : α → List Value) (xs : List α) : Prop := Sli h v s xs.length (xs.flatMap enc)
theorem flat_take {α : Type} {enc : α → List Value} {s : Nat} (hen : ∀ x,(enc x).length = s) : ∀ (xs : List α) (i : Nat) (hi : i < xs.length),((xs.flatMap enc).drop (i * s)).take s = enc xs[i]
 | [],i,hi => by simp at hi
 | x :: xs,0,hi => by
  simp only [List.flatMap_cons,Nat.zero_mul,List.drop_zero,List.getElem_cons_zero]
  rw [List.take_append_of_le_length (by rw [hen]; exact Nat.le_refl _),List.take_of_length_le (by rw [hen]; exact Nat.le_refl _)]
 | x :: xs,i + 1,hi => by
  simp only [List.flatMap_cons,List.getElem_cons_succ]
  have : (i + 1) * s = (enc x).length + i * s := by rw [hen,Nat.succ_mul,Nat.add_comm]
  rw [this,← List.drop_drop,List.drop_left]
  exact flat_take hen xs i (by simpa using hi)
section
variable {h g : List AObj} {K : Value → Prop}
theorem sliE_elem {α : Type} {v : Value} {s : Nat} {enc : α → List Value} {xs : List α} (hen : ∀ x,(enc x).length = s) (hpos : 0 < s) (hs : SliE h v s enc xs) {i : Nat} (hi : i < xs.length) :
  ∃ b o cs wr sz,(∀ K : Value → Prop,K (ptr b o) → aIdx s v (vint i) K) ∧ h[b]? = some (.cells cs wr sz) ∧ o + s ≤ cs.length ∧ (cs.drop o).take s = enc xs[i] ∧ kn (enc xs[i]) = true := by
 obtain ⟨base,c,rfl,⟨hl,hkn⟩,hc⟩ := hs
 have hft := flat_take hen xs i hi
 have hmul : (i + 1) * s ≤ xs.length * s := Nat.mul_le_mul_right s (by omega)
 have hsucc : (i + 1) * s = i * s + s := Nat.succ_mul i s
 rcases hc with ⟨_,h0⟩ | ⟨b,o,rfl,h0 | ⟨cs,wr,sz,hb,hx⟩⟩
 ·omega
 ·omega
 ·rw [← hx] at hl hft
  simp only [List.length_take,List.length_drop] at hl
  refine ⟨b,o + i * s,cs,wr,sz,fun K hK => ?_,hb,by omega,?_,?_⟩
  ·rw [idx_ok]
   exact ⟨⟨by omega,by omega⟩,by simpa using hK⟩
  ·rw [← hft,List.drop_take,List.drop_drop,List.take_take]
   congr 1
   omega
  ·have : kn ((xs.flatMap enc).drop (i * s)) = true := by
    unfold kn at hkn ⊢
    rw [List.all_eq_true] at hkn ⊢
    exact fun y hy => hkn y (List.mem_of_mem_drop hy)
   rw [← flat_take hen xs i hi]
   unfold kn at this ⊢
   rw [List.all_eq_true] at this ⊢
   exact fun y hy => this y (List.mem_of_mem_take hy)
theorem part_get {cs e : List Value} {o s j : Nat} {x : Value} (ht : (cs.drop o).take s = e) (hx : e[j]? = some x) : cs[o + j]? = some x := by
 rw [← ht,List.getElem?_take] at hx
 split at hx
 ·rw [List.getElem?_drop] at hx
  exact hx
 ·cases hx
end
end Go.Proofs.YtcmgjbflljmphaaGreatDoor
namespace Go.Proofs.YtcmgjbflljmphaaGreatDoor
open Go.Conc Go.Proofs.Tryz
set_option maxRecDepth 100000
section
variable {main : Bool} {J : JT} {h A g : List AObj} {K : Value → List AObj → Prop} {KV : Value → Prop} {HL : List AObj → Prop} {H : Value → List AObj → Prop}
theorem a_min {a b : Int} : aMin (vint a) [vint b] KV = KV (vint (min a b)) := by
 show KV (vint (if b < a then b else a)) = _
 congr 2
 split <;> omega
theorem a_max {a b : Int} : aMax (vint a) [vint b] KV = KV (vint (max a b)) := by
 show KV (vint (if b > a then b else a)) = _
 congr 2
 split <;> omega
theorem back_get {i : Nat} : (A ++ g)[A.length + i]? = g[i]? := by
 rw [List.getElem?_append_right (by omega)]
 congr 1
 omega
theorem back_set {i : Nat} {o : AObj} : (A ++ g).set (A.length + i) o = A ++ g.set i o := by
 rw [List.set_append_right _ _ (by omega)]
 congr 2
 omega
def OwnE (n : Nat) (g : List AObj) (s : Nat) (cs : List Value) (len : Nat) (v : Value) (o : Option Nat) : Prop :=
 cs.length = len * s ∧ kn cs = true ∧ ((len = 0 ∧ v = .slice none 0 0 ∧ o = none) ∨ ∃ i c sz,o = some i ∧ v = .slice (some ⟨n + i,0,none⟩) len c ∧ g[i]? = some (.cells cs true sz) ∧ ((c = fz ∧ sz = s) ∨ c = len))
theorem get_app {i : Nat} {x : AObj} {g' : List AObj} (hx : g[i]? = some x) : (g ++ g')[i]? = some x := by
 rw [List.getElem?_append_left (List.getElem?_eq_some_iff.1 hx).1]
 exact hx
theorem get_set {i j : Nat} {x y : AObj} (hx : g[i]? = some x) (hij : i ≠ j) : (g.set j y)[i]? = some x := by
 rw [List.getElem?_set,if_neg (fun e => hij e.symm)]
 exact hx
theorem ownE_at {n s len : Nat} {cs : List Value} {v : Value} {i : Nat} (ho : OwnE n g s cs len v (some i)) : ∃ sz,g[i]? = some (.cells cs true sz) := by
 obtain ⟨_,_,⟨_,_,h⟩ | ⟨j,c,sz,h,_,h5,_⟩⟩ := ho
 ·cases h
 ·cases h
  exact ⟨sz,h5⟩
theorem ownE_lt {n s len : Nat} {cs : List Value} {v : Value} {o : Option Nat} (ho : OwnE n g s cs len v o) {i : Nat} (hi : o = some i) : i < g.length := by
 subst hi
 obtain ⟨sz,h⟩ := ownE_at ho
 exact (List.getElem?_eq_some_iff.1 h).1
theorem ownE_sli {s len : Nat} {cs : List Value} {v : Value} {o : Option Nat} (ho : OwnE A.length g s cs len v o) : Sli (A ++ g) v s len cs := by
 obtain ⟨h1,h2,⟨rfl,rfl,_⟩ | ⟨i,c,sz,rfl,rfl,h5,_⟩⟩ := ho
 ·have : cs = [] := List.length_eq_zero_iff.1 (by omega)
  subst this
  exact sli_nil
 ·refine ⟨_,_,rfl,⟨h1,h2⟩,.inr ⟨_,_,rfl,.inr ⟨cs,true,sz,?_,by rw [List.drop_zero,List.take_of_length_le (by omega)]⟩⟩⟩
  rw [back_get]
  exact h5
theorem ownE_val {n s len : Nat} {cs : List Value} {v : Value} {o : Option Nat} (ho : OwnE n g s cs len v o) : v.cells = #[v] ∧ one v = true ∧ kn1 v = true := by
 obtain ⟨_,_,⟨_,rfl,_⟩ | ⟨_,_,_,_,rfl,_⟩⟩ := ho <;> exact ⟨rfl,rfl,rfl⟩
theorem ownE_more {s len : Nat} {cs e : List Value} {v y : Value} {o : Option Nat} (ho : OwnE A.length g s cs len v o) (hs : 0 < s) (hl : len < 100000) (hy : Sli (A ++ g) y s 1 e)
  (hk : ∀ v' g',OwnE A.length g' s (cs ++ e) (len + 1) v' (some g.length) → (∀ i x,o ≠ some i → g[i]? = some x → g'[i]? = some x) → H v' (A ++ g')) : aApp s v y (A ++ g) H := by
 have hr : room = 1073741824 := rfl
 have hel : e.length = s := by
  have := sli_vlen hy
  omega
 have hek : kn e = true := by
  obtain ⟨_,_,_,⟨_,h⟩,_⟩ := hy
  exact h
 have new : ∀ g1 : List AObj,g1.length = g.length → (∀ i x,o ≠ some i → g[i]? = some x → g1[i]? = some x) → cs.length = len * s → kn cs = true → H (.slice (some ⟨(A ++ g).length,0,none⟩) (len + 1) fz) (A ++ (g1 ++ [.cells (cs ++ e) true s])) := by
  intro g1 hg1 hkeep h1 h2
  refine hk _ _ ⟨?_,?_,.inr ⟨g.length,fz,s,rfl,by simp,by simp [← hg1],.inl ⟨rfl,rfl⟩⟩⟩ fun j x hj hx => get_app (hkeep j x hj hx)
  ·rw [List.length_append,hel,h1,Nat.succ_mul]
  ·unfold kn at *
   rw [List.all_append,h2,hek]
   rfl
 obtain ⟨h1,h2,⟨rfl,rfl,rfl⟩ | ⟨i,c,sz,rfl,rfl,h5,h6⟩⟩ := ho
 ·have hcs : cs = [] := List.length_eq_zero_iff.1 (by omega)
  subst hcs
  refine app_nil hs hy (by omega) (fun e => absurd e (by omega)) fun _ => ?_
  rw [List.append_assoc]
  exact new g rfl (fun _ _ _ hx => hx) h1 h2
 ·have hlt := (List.getElem?_eq_some_iff.1 h5).1
  have ht : cs.take (len * s) = cs := List.take_of_length_le (by omega)
  rcases h6 with ⟨rfl,rfl⟩ | rfl
  ·refine app_own (cs := cs) (by rw [back_get]; exact h5) (by omega) (by rw [ht]; exact h2) hs hy (by omega) ?_
   rw [back_set,List.append_assoc,ht]
   exact new _ (by simp) (fun j x hj hx => get_set hx fun e => hj (by rw [e])) h1 h2
  ·refine app_copy (cs := cs) (by rw [back_get]; exact h5) (by omega) (by rw [List.drop_zero,ht]; exact h2) (by omega) hs hy (by omega) ?_
   rw [List.append_assoc,List.drop_zero,ht]
   exact new g rfl (fun _ _ _ hx => hx) h1 h2
theorem hfa {nv : Value} {k : Nat} {s : Int} {rest : List AObj} (hs : 0 ≤ s ∧ s < 18446744073709551616) (hk : k < 1000000) {ns : List Int} (sn : Sli h nv 1 ns.length (ns.map vint)) (hln : ns.length < 4611686018427387904) : HandAt (HF h nv k s rest ++ g) h.length nv ns k s := by
 rw [hf_app]
 exact hf_hand sn hln hk hs.1 hs.2
theorem hfd {nv : Value} {k n : Nat} {s : Int} {rest h' : List AObj} (hd : Dealt (HF h nv k s rest ++ g) h.length nv k n h') : ∃ k' s',k' ≤ k + n ∧ (0 ≤ s' ∧ s' < 18446744073709551616) ∧ h' = HF h nv k' s' rest ++ g := by
 rw [hf_app] at hd
 obtain ⟨k',s',a,b,c,rfl⟩ := hf_dealt hd
 exact ⟨k',s',a,⟨b,c⟩,by rw [hf_app]⟩
structure Hnd (h : List AObj) (nv : Value) (ns : List Int) : Prop where
 list : Sli h nv 1 ns.length (ns.map vint)
 sane : ns.length < 4611686018427387904
variable {nv : Value} {ns : List Int} {rest : List AObj} {k : Nat} {s : Int}
section
variable {KV : Value → Prop} {a b : Int} {t : TypeId} {h : List AObj}
theorem offI {b o d : Nat} (hk : KV (ptr b (o + d))) : aOff (ptr b o) d KV := hk
theorem fillI {c : List Value} {KL : List Value → Prop} (hk : KL c) : aFill c [] KL := hk
theorem nilI {b o : Nat} (hk : KV (ptr b o)) : aNil (ptr b o) KV := hk
theorem addI (h : -9223372036854775808 ≤ a + b ∧ a + b < 9223372036854775808) (hk : KV (vint (a + b))) : aBin prog .add t (vint a) (vint b) KV := by rw [b_add h]; exact hk
theorem subI (h : -9223372036854775808 ≤ a - b ∧ a - b < 9223372036854775808) (hk : KV (vint (a - b))) : aBin prog .sub t (vint a) (vint b) KV := by rw [b_sub h]; exact hk
theorem mulI (h : -9223372036854775808 ≤ a * b ∧ a * b < 9223372036854775808) (hk : KV (vint (a * b))) : aBin prog .mul t (vint a) (vint b) KV := by rw [b_mul h]; exact hk
theorem minI (hk : KV (vint (min a b))) : aMin (vint a) [vint b] KV := by rw [a_min]; exact hk
theorem maxI (hk : KV (vint (max a b))) : aMax (vint a) [vint b] KV := by rw [a_max]; exact hk
theorem lssI (hk : KV (.bool (decide (a < b)))) : aBin prog .lss t (vint a) (vint b) KV := by rw [b_lss]; exact hk
theorem gtrI (hk : KV (.bool (decide (a > b)))) : aBin prog .gtr t (vint a) (vint b) KV := by rw [b_gtr]; exact hk
theorem geqI (hk : KV (.bool (decide (a ≥ b)))) : aBin prog .geq t (vint a) (vint b) KV := by rw [b_geq]; exact hk
theorem leqI (hk : KV (.bool (decide (a ≤ b)))) : aBin prog .leq t (vint a) (vint b) KV := by rw [b_leq]; exact hk
theorem eqlI (hk : KV (.bool (decide (a = b)))) : aBin prog .eql t (vint a) (vint b) KV := by rw [b_eql]; exact hk
theorem neqI (hk : KV (.bool (decide (a ≠ b)))) : aBin prog .neq t (vint a) (vint b) KV := by rw [b_neq]; exact hk
theorem notI {x : Bool} (hk : KV (.bool (!x))) : aUn .not (.bool x) KV := hk
theorem cndI {p : Prop} [Decidable p] {A B : Prop} (h1 : p → A) (h2 : ¬ p → B) : cnd (.bool (decide p)) A B := cnd_dec.2 ⟨h1,h2⟩
theorem cndN {p : Prop} [Decidable p] {A B : Prop} (h1 : ¬ p → A) (h2 : p → B) : cnd (.bool (!decide p)) A B := cnd_ndec.2 ⟨h1,h2⟩
theorem lenI {v : Value} {s n : Nat} {cells : List Value} (hs : Sli h v s n cells) (hk : KV (vint n)) : aLenS v KV := by rw [sli_len hs]; exact hk
theorem ldI {b o s : Nat} {c : List Value} {wr : Bool} {sz : Nat} {v : Value} (hb : h[b]? = some (.cells c wr sz)) (hv : c[o]? = some v) (hn : kn1 v = true) (hk : KV v) : aLoad false s (ptr b o) h KV := by rw [load_cell hb hv hn]; exact hk
theorem idxI {s b o n c : Nat} {j : Int} (h1 : 0 ≤ j ∧ j < n) (hk : KV (ptr b (o + j.toNat * s))) : aIdx s (.slice (some ⟨b,o,none⟩) n c) (vint j) KV := by rw [idx_ok]; exact ⟨h1,hk⟩
theorem ext0 {a b : Value} (hk : KV a) : aExt (.tuple ⟨[a,b]⟩) 0 KV := hk
theorem ext1 {a b : Value} (hk : KV b) : aExt (.tuple ⟨[a,b]⟩) 1 KV := hk
theorem ext30 {a b c : Value} (hk : KV a) : aExt (.tuple ⟨[a,b,c]⟩) 0 KV := hk
theorem ext31 {a b c : Value} (hk : KV b) : aExt (.tuple ⟨[a,b,c]⟩) 1 KV := hk
theorem ext32 {a b c : Value} (hk : KV c) : aExt (.tuple ⟨[a,b,c]⟩) 2 KV := hk
end
theorem up (hJ : Closed prog main J) (hn : Hnd h nv ns) (hs : 0 ≤ s ∧ s < 18446744073709551616) (hk : k < 1000000) {m : Int} (hm : m < 1000000)
  (hK : ∀ y k' s',0 ≤ y → (y ≤ m ∨ y = 0) → k' ≤ k + 1 → (0 ≤ s' ∧ s' < 18446744073709551616) → K (vint y) (HF h nv k' s' rest ++ g)) : Good prog J 52 [ptr h.length 0,vint m] (HF h nv k s rest ++ g) K := by
 refine good52 hJ (hfa hs hk hn.list hn.sane) (by omega) fun y h1 a b hd => ?_
 obtain ⟨k',s',c,d,rfl⟩ := hfd hd
 exact hK y k' s' a b c d
theorem amo (hJ : Closed prog main J) (hn : Hnd h nv ns) (hs : 0 ≤ s ∧ s < 18446744073709551616) (hk : k < 1000000) {lo hi : Int} (h1 : -1000000 ≤ lo ∧ lo ≤ 1000000) (h2 : -1000000 ≤ hi ∧ hi ≤ 1000000)
  (hK : ∀ y k' s',lo ≤ y → (y ≤ hi ∨ y = lo) → k' ≤ k + 1 → (0 ≤ s' ∧ s' < 18446744073709551616) → K (vint y) (HF h nv k' s' rest ++ g)) : Good prog J 25 [ptr h.length 0,vint lo,vint hi] (HF h nv k s rest ++ g) K := by
 refine good25 hJ (hfa hs hk hn.list hn.sane) (by omega) (by omega) fun y h1 a b hd => ?_
 obtain ⟨k',s',c,d,rfl⟩ := hfd hd
 exact hK y k' s' a b c d
end
end Go.Proofs.YtcmgjbflljmphaaGreatDoor
namespace Go.Proofs.YtcmgjbflljmphaaGreatDoor
open Go.Conc Go.Proofs.Tryz
set_option maxRecDepth 100000
def SameX (X : List Nat) (h H : List AObj) : Prop := h.length ≤ H.length ∧ ∀ i,i < h.length → i ∉ X → H[i]? = h[i]?
theorem SameX.refl {X : List Nat} {h : List AObj} : SameX X h h := ⟨Nat.le_refl _,fun _ _ _ => rfl⟩
theorem SameX.trans {X : List Nat} {h H H' : List AObj} (a : SameX X h H) (b : SameX X H H') : SameX X h H' :=
 ⟨Nat.le_trans a.1 b.1,fun i hi hx => by rw [b.2 i (Nat.lt_of_lt_of_le hi a.1) hx,a.2 i hi hx]⟩
theorem SameX.app {X : List Nat} {h H g : List AObj} (a : SameX X h H) : SameX X h (H ++ g) :=
 ⟨by have := a.1; simp; omega,fun i hi hx => by rw [List.getElem?_append_left (Nat.lt_of_lt_of_le hi a.1),a.2 i hi hx]⟩
theorem SameX.set {X : List Nat} {h H : List AObj} {i : Nat} {o : AObj} (a : SameX X h H) (hi : i ∈ X ∨ h.length ≤ i) : SameX X h (H.set i o) :=
 ⟨by have := a.1; simp; omega,fun j hj hx => by
  rw [List.getElem?_set,if_neg,a.2 j hj hx]
  rintro rfl
  rcases hi with hi | hi
  ·exact hx hi
  ·omega⟩
theorem SameX.get {X : List Nat} {h H : List AObj} {i : Nat} {o : AObj} (a : SameX X h H) (hx : h[i]? = some o) (hi : i ∉ X) : H[i]? = some o := by
 rw [a.2 i (List.getElem?_eq_some_iff.1 hx).1 hi,hx]
theorem SameX.pre {X : List Nat} {h0 g H : List AObj} (a : SameX X (h0 ++ g) H) (hX : ∀ x ∈ X,h0.length ≤ x) : ∃ g',H = h0 ++ g' := by
 refine ⟨H.drop h0.length,?_⟩
 have : H.take h0.length = h0 := by
  apply List.ext_getElem?
  intro i
  rw [List.getElem?_take]
  split
  ·rename_i hi
   rw [a.2 i (by simp; omega) (fun hx => by have := hX i hx; omega),List.getElem?_append_left hi]
  ·rename_i hi
   rw [List.getElem?_eq_none (by omega)]
 conv => lhs; rw [← List.take_append_drop h0.length H,this]
end Go.Proofs.YtcmgjbflljmphaaGreatDoor
namespace Go.Proofs.YtcmgjbflljmphaaGreatDoor
open Go.Conc Go.Proofs.Tryz
set_option maxRecDepth 100000
def OwnX (H : List AObj) (s : Nat) (cs : List Value) (len : Nat) (v : Value) (o : Option Nat) : Prop :=
 cs.length = len * s ∧ kn cs = true ∧ ((len = 0 ∧ v = .slice none 0 0 ∧ o = none) ∨ ∃ i c sz,o = some i ∧ v = .slice (some ⟨i,0,none⟩) len c ∧ H[i]? = some (.cells cs true sz) ∧ ((c = fz ∧ sz = s) ∨ c = len))
section
variable {h H : List AObj} {K : Value → List AObj → Prop} {KV : Value → Prop} {HL : List AObj → Prop} {n0 : Nat}
theorem SameX.weak {X Y : List Nat} {h H : List AObj} (a : SameX X h H) (hxy : ∀ x ∈ X,x ∈ Y) : SameX Y h H := ⟨a.1,fun i hi hx => a.2 i hi fun hm => hx (hxy i hm)⟩
theorem SameX.weak0 {Y : List Nat} {h H : List AObj} (a : SameX [] h H) : SameX Y h H := a.weak (by simp)
theorem SameX.thru {X Y : List Nat} {h H H' : List AObj} (a : SameX X h H) (b : SameX Y H H') (hy : ∀ y ∈ Y,y ∈ X ∨ h.length ≤ y) : SameX X h H' :=
 ⟨Nat.le_trans a.1 b.1,fun i hi hx => by
  rw [b.2 i (Nat.lt_of_lt_of_le hi a.1) fun hm => ?_,a.2 i hi hx]
  rcases hy i hm with h1 | h1
  ·exact hx h1
  ·omega⟩
theorem SameX.app0 {X : List Nat} {h H : List AObj} (a : SameX X h H) (hX : ∀ x ∈ X,h.length ≤ x) : ∃ g,H = h ++ g := by
 have := SameX.pre (h0 := h) (g := []) (X := X) (H := H) (by simpa using a) hX
 exact this
theorem lt_of_get {i : Nat} {o : AObj} (hx : H[i]? = some o) : i < H.length := (List.getElem?_eq_some_iff.1 hx).1
theorem SameX.sli {X : List Nat} {v : Value} {s n : Nat} {cs : List Value} (a : SameX X h H) (hs : Sli h v s n cs) (hX : ∀ x ∈ X,h.length ≤ x) : Sli H v s n cs := by
 obtain ⟨g,rfl⟩ := a.app0 hX
 exact sli_app hs
theorem qAl {l : List Value} (hk : ∀ H' p,p = H.length → SameX [] H H' → H'[p]? = some (.cells l true 0) → H'.length = p + 1 → K (ptr p 0) H') : aAlloc l H K :=
 hk _ _ rfl SameX.refl.app (by simp) (by simp)
theorem qBox {l : List Value} (h1 : l.all one = true) (hk : ∀ H' p,p = H.length → SameX [] H H' → H'[p]? = some (.cells l true 0) → H'.length = p + 1 → K (ptr p 0) H') : aBox (.agg ⟨l⟩) H K :=
 box_agg h1 (hk _ _ rfl SameX.refl.app (by simp) (by simp))
theorem qBox1 {v : Value} (hc : v.cells = #[v]) (h1 : one v = true) (hk : ∀ H' p,p = H.length → SameX [] H H' → H'[p]? = some (.cells [v] true 0) → H'.length = p + 1 → K (ptr p 0) H') : aBox v H K :=
 box_one hc h1 (hk _ _ rfl SameX.refl.app (by simp) (by simp))
theorem qNew {n : Nat} {l : List Value} (hk : ∀ H' p,p = H.length → SameX [] H H' → H'[p]? = some (.cells l true 0) → H'.length = p + 1 → K (.slice (some ⟨p,0,none⟩) n n) H') : aNewS n l H K :=
 hk _ _ rfl SameX.refl.app (by simp) (by simp)
theorem qNewM (hk : ∀ H' p,p = H.length → SameX [] H H' → H'[p]? = some (.map [] true) → H'.length = p + 1 → K (.map (some p)) H') : aNewM H K :=
 hk _ _ rfl SameX.refl.app (by simp) (by simp)
theorem qMk {z : List Value} {n : Nat} (hn : n ≤ 100000) (hk : ∀ H' p,p = H.length → SameX [] H H' → H'[p]? = some (.cells (zrep z n) true 0) → H'.length = p + 1 → K (.slice (some ⟨p,0,none⟩) n n) H') : aMkS z (vint n) (vint n) H K := by
 have hr : room = 1073741824 := rfl
 simp only [aMkS,Int.toNat_natCast]
 exact ⟨by omega,by omega,by omega,hk _ _ rfl SameX.refl.app (by simp) (by simp)⟩
theorem qSt {b o : Nat} {c : List Value} {sz : Nat} {v : Value} (hb : H[b]? = some (.cells c true sz)) (ho : o < c.length) (h1 : v.cells = #[v]) (h2 : one v = true) (hk : ∀ H',SameX [b] H H' → H'[b]? = some (.cells (c.set o v) true sz) → H'.length = H.length → HL H') : aStore 1 (ptr b o) v H HL :=
 store_cell hb ho h1 h2 (hk _ (SameX.refl.set (.inl (by simp))) (List.getElem?_set_self (lt_of_get hb)) (by simp))
theorem qStA {b n : Nat} {cs c : List Value} {sz : Nat} (hb : H[b]? = some (.cells cs true sz)) (hl : c.length = n) (hs : cs.length = n) (h1 : c.all one = true) (hk : ∀ H',SameX [b] H H' → H'[b]? = some (.cells c true sz) → H'.length = H.length → HL H') : aStore n (ptr b 0) (.agg ⟨c⟩) H HL :=
 store_agg hb hl hs h1 (hk _ (SameX.refl.set (.inl (by simp))) (List.getElem?_set_self (lt_of_get hb)) (by simp))
theorem ownX_iff {s len : Nat} {cs : List Value} {v : Value} {o : Option Nat} : OwnX H s cs len v o ↔ OwnE 0 H s cs len v o := by
 simp [OwnX,OwnE]
theorem ownX_keep {s len : Nat} {cs : List Value} {v : Value} {o : Option Nat} {H' : List AObj} {X : List Nat} (ho : OwnX H s cs len v o) (a : SameX X H H') (hX : ∀ i,o = some i → i ∉ X) : OwnX H' s cs len v o := by
 obtain ⟨h1,h2,h3 | ⟨i,c,sz,rfl,h4,h5,h6⟩⟩ := ho
 ·exact ⟨h1,h2,.inl h3⟩
 ·exact ⟨h1,h2,.inr ⟨i,c,sz,rfl,h4,a.get h5 (hX i rfl),h6⟩⟩
theorem ownX_sli {s len : Nat} {cs : List Value} {v : Value} {o : Option Nat} (ho : OwnX H s cs len v o) : Sli H v s len cs := by
 have := ownE_sli (A := []) (ownX_iff.1 ho)
 exact this
theorem ownX_val {s len : Nat} {cs : List Value} {v : Value} {o : Option Nat} (ho : OwnX H s cs len v o) : v.cells = #[v] ∧ one v = true ∧ kn1 v = true := ownE_val (ownX_iff.1 ho)
theorem ownX_lt {s len : Nat} {cs : List Value} {v : Value} {o : Option Nat} (ho : OwnX H s cs len v o) : ∀ i,o = some i → i < H.length := fun _ hi => ownE_lt (ownX_iff.1 ho) hi
theorem ownX_new {s n p : Nat} {l : List Value} (hp : H[p]? = some (.cells l true 0)) (hl : l.length = n * s) (hk : kn l = true) : OwnX H s l n (.slice (some ⟨p,0,none⟩) n n) (some p) :=
 ⟨hl,hk,.inr ⟨p,n,0,rfl,rfl,hp,.inr rfl⟩⟩
theorem ownX_more {s len : Nat} {cs e : List Value} {v y : Value} {o : Option Nat} (ho : OwnX H s cs len v o) (hs : 0 < s) (hl : len < 100000) (hy : Sli H y s 1 e)
  (hk : ∀ v' H' p,p = H.length → OwnX H' s (cs ++ e) (len + 1) v' (some p) → SameX o.toList H H' → K v' H') : aApp s v y H K := by
 have hlo := ownX_lt ho
 refine ownE_more (A := []) (g := H) (ownX_iff.1 ho) hs hl hy fun v' g' ho' hkeep => hk v' ([] ++ g') _ rfl (ownX_iff.2 ho') ⟨?_,fun i hi hx => ?_⟩
 ·have := ownE_lt ho' rfl
  simp only [List.nil_append]
  omega
 ·have hx' : o ≠ some i := fun e => hx (by rw [e]; simp)
  obtain ⟨x,hxx⟩ : ∃ x,H[i]? = some x := ⟨H[i],List.getElem?_eq_getElem hi⟩
  rw [hxx]
  exact hkeep i x hx' hxx
theorem retX {X : List Nat} {vs : List Value} (ok : heapOk h) (hn : n0 ≤ h.length) (S : SameX X h H) (hX : ∀ x ∈ X,h.length ≤ x) (hv : ∀ v ∈ vs,v ≠ unk) (hw : VOk h.length (pack vs)) (hk : K (pack vs) h) : retL n0 K [] vs H := by
 obtain ⟨g,rfl⟩ := S.app0 hX
 exact retL_drop ok hn hv hw hk
end
end Go.Proofs.YtcmgjbflljmphaaGreatDoor
namespace Go.Proofs.YtcmgjbflljmphaaGreatDoor
open Go.Conc Go.Proofs.Tryz
set_option maxRecDepth 100000
def HX (h H : List AObj) (ns : List Int) (k : Nat) : Prop := ∃ nv k' s rest,H = HF h nv k' s rest ∧ k' ≤ k ∧ (0 ≤ s ∧ s < 18446744073709551616) ∧ Hnd h nv ns
section
variable {main : Bool} {J : JT} {h H : List AObj} {K : Value → List AObj → Prop} {ns : List Int} {k : Nat}
theorem HX.mono {k' : Nat} (a : HX h H ns k) (hk : k ≤ k') : HX h H ns k' := by
 obtain ⟨nv,k1,s,rest,e,h1,h2,h3⟩ := a
 exact ⟨nv,k1,s,rest,e,by omega,h2,h3⟩
theorem HX.pre (a : HX h H ns k) : SameX [] h H := by
 obtain ⟨nv,k1,s,rest,rfl,_⟩ := a
 exact SameX.refl.app
theorem HX.same {X : List Nat} {H' : List AObj} (a : HX h H ns k) (S : SameX X H H') (hX : ∀ x ∈ X,h.length < x) : HX h H' ns k := by
 obtain ⟨nv,k1,s,rest,rfl,h1,h2,h3⟩ := a
 have e : HF h nv k1 s rest = (h ++ [.cells [nv,vint k1,.int .u64 s] true 0]) ++ rest := by simp [HF]
 rw [e] at S
 obtain ⟨g,hg⟩ := S.pre (fun x hx => by have := hX x hx; simp; omega)
 exact ⟨nv,k1,s,g,by rw [hg]; simp [HF],h1,h2,h3⟩
theorem hf_same {nv : Value} {k1 k2 : Nat} {s1 s2 : Int} {rest g : List AObj} : SameX [h.length] (HF h nv k1 s1 rest) (HF h nv k2 s2 rest ++ g) := by
 refine ⟨by rw [hf_app,hf_len,hf_len]; simp,fun i hi hx => ?_⟩
 simp at hx
 rw [List.getElem?_append_left (by rw [hf_len] at hi ⊢; omega)]
 unfold HF
 rcases Nat.lt_or_ge i h.length with x | x
 ·rw [List.getElem?_append_left x,List.getElem?_append_left x]
 ·rw [List.getElem?_append_right x,List.getElem?_append_right x]
  obtain ⟨j,hj⟩ : ∃ j,i - h.length = j + 1 := ⟨i - h.length - 1,by omega⟩
  rw [hj]
  rfl
theorem newX (hJ : Closed prog main J) {nv : Value} (sn : Sli h nv 1 ns.length (ns.map vint)) (hln : ns.length < 4611686018427387904)
  (hK : ∀ H,HX h H ns 0 → K (ptr h.length 0) H) : Good prog J 8 [nv] h K := by
 obtain ⟨nb,nc,hnv,_⟩ := id sn
 subst hnv
 exact good8 hJ (hK _ ⟨_,0,88172645463325252,[],rfl,Nat.le_refl _,by omega,⟨sn,hln⟩⟩)
theorem upX (hJ : Closed prog main J) (a : HX h H ns k) (hk : k < 1000000) {m : Int} (hm : m < 1000000)
  (hK : ∀ y H',0 ≤ y → (y ≤ m ∨ y = 0) → SameX [h.length] H H' → H'.length = H.length → HX h H' ns (k + 1) → K (vint y) H') : Good prog J 52 [ptr h.length 0,vint m] H K := by
 obtain ⟨nv,k1,s,rest,rfl,h1,h2,h3⟩ := a
 have := up (k := k1) (g := []) (rest := rest) (K := K) hJ h3 h2 (by omega) hm fun y k' s' a1 a2 a3 a4 => hK y _ a1 a2 hf_same (by simp [hf_len]) ⟨nv,k',s',rest,by simp,by omega,a4,h3⟩
 simpa using this
theorem amX (hJ : Closed prog main J) (a : HX h H ns k) (hk : k < 1000000) {lo hi : Int} (h1 : -1000000 ≤ lo ∧ lo ≤ 1000000) (h2 : -1000000 ≤ hi ∧ hi ≤ 1000000)
  (hK : ∀ y H',lo ≤ y → (y ≤ hi ∨ y = lo) → SameX [h.length] H H' → H'.length = H.length → HX h H' ns (k + 1) → K (vint y) H') : Good prog J 25 [ptr h.length 0,vint lo,vint hi] H K := by
 obtain ⟨nv,k1,s,rest,rfl,b1,b2,b3⟩ := a
 have := amo (k := k1) (g := []) (rest := rest) (K := K) hJ b3 b2 (by omega) h1 h2 fun y k' s' a1 a2 a3 a4 => hK y _ a1 a2 hf_same (by simp [hf_len]) ⟨nv,k',s',rest,by simp,by omega,a4,b3⟩
 simpa using this
end
end Go.Proofs.YtcmgjbflljmphaaGreatDoor
namespace Go.Proofs.YtcmgjbflljmphaaGreatDoor
open Go.Conc Go.Proofs.Tryz
set_option maxRecDepth 100000
section
variable {main : Bool} {J : JT} {h H : List AObj} {K : Value → List AObj → Prop} {KV : Value → Prop} {n0 : Nat}
theorem appX {s m p : Nat} {y : Value} {ys : List Value} (hp : H[p]? = some (.cells [] true 0)) (hs : 0 < s) (hm : m < 1000000) (hy : Sli H y s m ys)
  (hk : ∀ v' H' p',OwnX H' s ys m v' (some p') → SameX [] H H' → (p' = p ∨ p' = H.length) → K v' H') : aApp s (.slice (some ⟨p,0,none⟩) 0 0) y H K := by
 have hr : room = 1073741824 := rfl
 have hy' := hy
 have hkn : kn ys = true := by
  obtain ⟨_,_,_,⟨_,h⟩,_⟩ := hy
  exact h
 have hvl := sli_vlen hy
 by_cases h0 : m = 0
 ·subst h0
  have hys : ys = [] := List.length_eq_zero_iff.1 (by omega)
  subst hys
  obtain ⟨yb,yc,rfl,_⟩ := hy
  refine ⟨by omega,src_sli hy' hs ?_⟩
  simp only [hp]
  have hf : fz = 1180591620717411303424 := rfl
  refine ⟨⟨by simp,by simp [kn]⟩,fun _ => ⟨fun _ => ⟨trivial,by simp,?_⟩,fun x => absurd x (by simp)⟩,fun x => absurd x (by omega)⟩
  have e : H.set p (.cells (wrAt [] (0 + 0 * s) []) true 0) = H := by
   apply List.ext_getElem?
   intro i
   rw [List.getElem?_set]
   split
   ·rename_i e
    subst e
    have := lt_of_get hp
    rw [if_pos this]
    simpa [wrAt] using hp.symm
   ·rfl
  have := hk (.slice (some ⟨p,0,none⟩) 0 0) H p ⟨by simp,rfl,.inr ⟨p,0,0,rfl,rfl,hp,.inr rfl⟩⟩ SameX.refl (.inl rfl)
  first
  | simpa [wrAt,e] using this
  | (rw [show (wrAt ([] : List Value) (0 + 0 * s) []) = [] from by simp [wrAt]] at e; simpa [wrAt,e] using this)
 ·refine app_copy (n := 0) (m := m) (cs := []) (wr := true) (sz := 0) hp (by simp) (by simp [kn]) (by omega) hs hy' (by omega) ?_
  simp only [Nat.zero_mul,List.drop_nil,List.take_nil,List.nil_append,Nat.zero_add]
  exact hk _ _ H.length ⟨hvl,hkn,.inr ⟨H.length,fz,s,rfl,rfl,by simp,.inl ⟨rfl,rfl⟩⟩⟩ SameX.refl.app (.inr rfl)
end
end Go.Proofs.YtcmgjbflljmphaaGreatDoor
