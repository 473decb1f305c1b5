/- Parts of the proof, 3. No conditions. -/
import Derived.Test.YtlhanfcgdfjhjaaGreatDoorK2
import Derived.Conc.Holds
import Derived.Conc.Beside
import Derived.Conc.MarkLaws
import Derived.Conc.AtomicLaws2
import Derived.Conc.CrowdComm
import Derived.Conc.TokenTrace
import Derived.Conc.CrowdBase
namespace Go.Proofs.YtlhanfcgdfjhjaaGreatDoor
open Go.Conc Go.Proofs.Tryz
set_option maxRecDepth 100000
set_option maxHeartbeats 4000000
set_option linter.unusedVariables false
section
variable {main : Bool} {J : JT} {n0 : Nat} {h : List af} {K : Value → List af → Prop}
section
variable {Sx : RG → List af → Prop}
theorem at20 : prog.funcs[20]? = some f20 := by kernel_rfl
theorem body20 : f20.body = some (codeOf f20) := by kernel_rfl
def pl20 : bj := []
def ct20 : bB := .go
theorem pok20 : aC prog pl20 (trunc 6 (codeOf f20)) = true := by kernel_rfl
theorem e20 {a0 a1 a2 : Value} : W prog J 75 h.length 20 (trunc 6 (codeOf f20)) (RG.mk (ax [a0,a1,a2]) []) h (bc Sx (aq prog [.tmp 6,.tmp 7] h.length K)) =
(cq a0 h fun v1 h2 =>
cq a1 h2 fun v3 h4 =>
cq a2 h4 fun v5 h6 =>
ai false 1 v1 h6 fun v7 =>
b0 v7 fun v8 =>
Good prog J 46 [v8,(ab 1),(ab 3)] h6 fun v9 h10 =>
aj prog .neq 35 v9 (ab 0) fun v11 =>
cnd v11
(aI h.length K [] [(Value.slice none 0 0),v9] h10)
(ai false 1 v1 h10 fun v12 =>
b0 v12 fun v13 =>
Sem J 75 h.length 20 (aw yp0 (trunc 6 (codeOf f20))) (((((((((((((((RG.mk (ax [a0,a1,a2]) []).p 3 v1).p 4 v3).p 5 v5).p 6 (Value.slice none 0 0)).p 7 (ab 0)).p 18 v7).p 19 v8).p 20 v9).p 8 v9).p 21 v9).p 22 v11).p 24 v12).p 25 v13).p 26 (ab 0)) h10 (aA pl20 prog J 75 h.length 20 ct20 yp0 (trunc 6 (codeOf f20)) [] (bc Sx (aq prog [.tmp 6,.tmp 7] h.length K))))) := aT pok20 ct20 (by kernel_rfl)
theorem s20_1 {f : RG} {nx0 : RG → List af → Prop} : W prog J 75 n0 20 (aw yp2 (trunc 6 (codeOf f20))) f h (bc nx0 (aA pl20 prog J 75 n0 20 ct20 yp0 (trunc 6 (codeOf f20)) [] (bc Sx (aq prog [.tmp 6,.tmp 7] n0 K)))) =
(aj prog .lss 3 (f.r 26) (f.r 25) fun v1 =>
cnd v1
(bT 6 (f.r 24) (f.r 26) fun v2 =>
ai true 6 v2 h fun v3 =>
bo [(ab 0),(ab 0),(ab 0),(ab 0),(ab 0),(ab 0)] h fun v4 h5 =>
aB 6 v4 v3 h5 fun h6 =>
ai true 6 v4 h6 fun v7 =>
Good prog J 27 [v7] h6 fun v8 h9 =>
aj prog .neq 35 v8 (ab 0) fun v10 =>
cnd v10
(aI n0 K f.ds [(Value.slice none 0 0),v8] h9)
(aj prog .add 3 (f.r 26) (ab 1) fun v11 =>
nx0 (((((((((((f.p 27 v1).p 28 v2).p 29 v3).p 10 v4).p 30 v7).p 31 v8).p 11 v8).p 32 v8).p 33 v10).p 35 v11).p 26 v11) h9))
(ai true 3 (f.r 4) h fun v12 =>
Good prog J 28 [v12] h fun v13 h14 =>
aj prog .neq 35 v13 (ab 0) fun v15 =>
cnd v15
(aI n0 K f.ds [(Value.slice none 0 0),v13] h14)
(ai false 1 (f.r 5) h14 fun v16 =>
Good prog J 44 [v16,(ab 0),(ab 40)] h14 fun v17 h18 =>
aUn .not v17 fun v19 =>
cnd v19
(aI n0 K f.ds [(Value.slice none 0 0),(ab 1)] h18)
(bo [(Value.slice none 0 0),(Value.slice none 0 0),(Value.slice none 0 0)] h18 fun v20 h21 =>
Sx ((((((((((f.p 27 v1).p 36 v12).p 37 v13).p 12 v13).p 38 v13).p 39 v15).p 41 v16).p 42 v17).p 43 v19).p 13 v20) h21)))) := sub_eq pok20 ct20 (by kernel_rfl)
theorem l20_1 (hJ : Closed prog main J) {S : Type} (μ : S → Nat) (I : S → RG → List af → Prop) (hI : ∀ s f h,I s f h → aD h → n0 ≤ h.length → W prog J 75 n0 20 (aw yp2 (trunc 6 (codeOf f20))) f h (bc (Nx n0 μ I s) (aA pl20 prog J 75 n0 20 ct20 yp0 (trunc 6 (codeOf f20)) [] (bc Sx (aq prog [.tmp 6,.tmp 7] n0 K)))))
 {s : S} {f : RG} (hi : dJ n0 I s f h) : Sem J 75 n0 20 (aw yp0 (trunc 6 (codeOf f20))) f h (aA pl20 prog J 75 n0 20 ct20 yp0 (trunc 6 (codeOf f20)) [] (bc Sx (aq prog [.tmp 6,.tmp 7] n0 K))) :=
 bn hJ mixed (b := aw yp2 (trunc 6 (codeOf f20))) (by kernel_rfl) μ I hI hi
end
theorem q20_1 {f : RG} {fr : FuncId} {Q : QT} : W prog J 75 n0 fr (aw [1,1,1,1,1,1,1,0,0] (codeOf f20)) f h Q =
(ai false 1 (f.r 3) h fun v1 =>
b0 v1 fun v2 =>
Q .normal (((f.p 44 v1).p 45 v2).p 46 (ab 0)) h) := by kernel_rfl
theorem q20_2 {f : RG} {fr : FuncId} {Q : QT} : W prog J 75 n0 fr (aw [1,1,1,1,1,1,1,0,1,0,0,0] (codeOf f20)) f h Q =
(aj prog .lss 3 (f.r 46) (f.r 45) fun v1 =>
Q .normal (f.p 47 v1) h) := by kernel_rfl
theorem q20_3 {f : RG} {fr : FuncId} {Q : QT} : W prog J 75 n0 fr (aw [1,1,1,1,1,1,1,0,1,0,0,1,0] (codeOf f20)) f h Q =
(cnd (f.r 47)
(Q .normal f h)
(Q (.exit 2) f h)) := by kernel_rfl
theorem q20_4 {f : RG} {fr : FuncId} {Q : QT} : W prog J 75 n0 fr (aw [1,1,1,1,1,1,1,0,1,0,0,1,1,0,0,0] (codeOf f20)) f h Q =
(bo [(ab 0)] h fun v1 h2 =>
aB 1 v1 (f.r 46) h2 fun h3 =>
Q .normal ((f.p 48 (f.r 46)).p 15 v1) h3) := by kernel_rfl
theorem q20_5 {f : RG} {fr : FuncId} {Q : QT} : W prog J 75 n0 fr (aw yp39 (codeOf f20)) f h Q =
(ai false 1 (f.r 15) h fun v1 =>
aj prog .gtr 3 v1 (ab 0) fun v2 =>
cnd v2
(ai false 1 (f.r 3) h fun v3 =>
ai false 1 (f.r 15) h fun v4 =>
bT 6 v3 v4 fun v5 =>
ai true 6 v5 h fun v6 =>
ai false 1 (f.r 3) h fun v7 =>
ai false 1 (f.r 15) h fun v8 =>
aj prog .sub 3 v8 (ab 1) fun v9 =>
bT 6 v7 v9 fun v10 =>
ai true 6 v10 h fun v11 =>
aj prog .eql 23 v6 v11 fun v12 =>
cnd v12
(Q (.exit 3) (((((((((((((((f.p 49 v1).p 50 v2).p 51 v2).p 51 (Value.bool true)).p 52 v3).p 53 v4).p 54 v5).p 55 v6).p 56 v7).p 57 v8).p 58 v9).p 59 v10).p 60 v11).p 61 v12).p 62 v12) h)
(Q .normal (((((((((((((((f.p 49 v1).p 50 v2).p 51 v2).p 51 (Value.bool true)).p 52 v3).p 53 v4).p 54 v5).p 55 v6).p 56 v7).p 57 v8).p 58 v9).p 59 v10).p 60 v11).p 61 v12).p 62 v12) h))
(Q .normal (((((((((((((((f.p 49 v1).p 50 v2).p 51 v2).p 51 (Value.bool false)).p 52 undef).p 53 undef).p 54 undef).p 55 undef).p 56 undef).p 57 undef).p 58 undef).p 59 undef).p 60 undef).p 61 undef).p 62 (Value.bool false)) h)) := by kernel_rfl
theorem q20_6 {f : RG} {fr : FuncId} {Q : QT} : W prog J 75 n0 fr (aw [1,1,1,1,1,1,1,0,1,0,0,1,1,0,0,1,1,0] (codeOf f20)) f h Q =
(Good prog J 47 [(f.r 14),(ab 1)] h fun v1 h2 =>
Q .normal (f.p 63 v1) h2) := by kernel_rfl
theorem q20_7 {f : RG} {fr : FuncId} {Q : QT} : W prog J 75 n0 fr (aw yp38 (codeOf f20)) f h Q =
(aj prog .add 3 (f.r 46) (ab 1) fun v1 =>
Q .normal ((f.p 65 v1).p 46 v1) h) := by kernel_rfl
theorem q20_8 {f : RG} {fr : FuncId} {Q : QT} : W prog J 75 n0 fr (aw [1,1,1,1,1,1,1,1,0] (codeOf f20)) f h Q =
(Good prog J 53 [(f.r 14)] h fun v1 h2 =>
Q .normal (f.p 66 v1) h2) := by kernel_rfl
noncomputable def ops20_1 : Array Oper := opsAt [1,1,1,1,1,1,0] (codeOf f20)
theorem z20_1 : ops20_1.size = 1 := by kernel_rfl
noncomputable def p20_1_0 : Oper := opGet ops20_1 0
theorem o20_1_0 {J : JT} : ops20_1[0]? = some p20_1_0 ∧ p20_1_0.dst = some 14 ∧ eb 75 p20_1_0 = true ∧ (∀ r,gd ops20_1 p20_1_0 r = some true) ∧ (∀ (f : RG) (h : List af) (H : Value → List af → Prop),opW prog (Good prog J) p20_1_0 f.r h H = (bo [(Value.int .u64 0),(Value.int .u32 0)] h fun v1 h2 =>
H v1 h2)) := ⟨by kernel_rfl,by kernel_rfl,by kernel_rfl,fun _ => by kernel_rfl,fun _ _ _ => by kernel_rfl⟩
noncomputable def ops20_2 : Array Oper := opsAt [1,1,1,1,1,1,1,0,1,0,0,1,1,0,0,1,1,1] (codeOf f20)
theorem z20_2 : ops20_2.size = 2 := by kernel_rfl
noncomputable def p20_2_0 : Oper := opGet ops20_2 0
theorem o20_2_0 {J : JT} : ops20_2[0]? = some p20_2_0 ∧ p20_2_0.dst = some 64 ∧ eb 75 p20_2_0 = true ∧ (∀ r,gd ops20_2 p20_2_0 r = some true) ∧ (∀ (f : RG) (h : List af) (H : Value → List af → Prop),opW prog (Good prog J) p20_2_0 f.r h H = (aMkF 48 [] [(f.r 14),(f.r 3),(f.r 4),(f.r 15),(f.r 5),(f.r 13)] fun v1 =>
H v1 h)) := ⟨by kernel_rfl,by kernel_rfl,by kernel_rfl,fun _ => by kernel_rfl,fun _ _ _ => by kernel_rfl⟩
noncomputable def p20_2_1 : Oper := opGet ops20_2 1
theorem o20_2_1 {J : JT} : ops20_2[1]? = some p20_2_1 ∧ p20_2_1.dst = none ∧ eb 75 p20_2_1 = true ∧ (∀ r,gd ops20_2 p20_2_1 r = some true) ∧ (p20_2_1.op = (Go.Op.go { callee := (Go.Callee.value (Go.Operand.tmp 64)),args := #[],argTypes := #[] })) := ⟨by kernel_rfl,by kernel_rfl,by kernel_rfl,fun _ => by kernel_rfl,by kernel_rfl⟩
def pl20t : bj := [(21,true,.take 0 (.take 1 (.take 2 (.take 3 (.take 4 (.take 5 (.take 6 (.take 7 (.take 8 (.take 9 (.take 10 (.take 11 (.take 12 (.take 13 (.fin)))))))))))))))]
def ct20t : bB := .bin (.go) (.bin (.go) (.bin (.go) (.bin (.go) (.bin (.go) (.bin (.go) (.bin (.go) (.bin (.go) (.bin (.go) (.cut (.go))))))))))
theorem pok20t : aC prog pl20t (codeOf f20) = true := by kernel_rfl
abbrev w20t (J : JT) (n0 : Nat) (p : List Nat) (f : RG) (h : List af) (l : List (RG → List af → Prop)) (K : Value → List af → Prop) : Prop := W prog J 75 n0 20 (aw p (codeOf f20)) f h (aA pl20t prog J 75 n0 20 ct20t p (codeOf f20) l (aq prog [.tmp 6,.tmp 7] n0 K))
theorem s20t_1 {f : RG} : w20t J n0 yp4 f h [] K =
(ai true 3 (f.r 13) h fun v1 =>
Sem J 75 n0 20 (aw yp22 (codeOf f20)) ((f.p 67 v1).p 68 (ab 0)) h (aA pl20t prog J 75 n0 20 ct20t yp22 (codeOf f20) [] (aq prog [.tmp 6,.tmp 7] n0 K))) := sub_eq pok20t ct20t (by kernel_rfl)
theorem s20t_2 {f : RG} {nx0 : RG → List af → Prop} : W prog J 75 n0 20 (aw [1,1,1,1,1,1,1,1,1,0,1,0,0] (codeOf f20)) f h (bc nx0 (aA pl20t prog J 75 n0 20 ct20t yp22 (codeOf f20) [] (aq prog [.tmp 6,.tmp 7] n0 K))) =
(aj prog .lss 3 (f.r 68) (ab 3) fun v1 =>
cnd v1
(aIdxV 3 1 false (f.r 67) (f.r 68) fun v2 =>
aj prog .neq 26 v2 (Value.slice none 0 0) fun v3 =>
cnd v3
(aI n0 K f.ds [v2,(ab 0)] h)
(aj prog .add 3 (f.r 68) (ab 1) fun v4 =>
nx0 (((((((f.p 69 v1).p 70 v2).p 17 v2).p 71 v2).p 72 v3).p 74 v4).p 68 v4) h))
(aI n0 K f.ds [(Value.slice none 0 0),(ab 11)] h)) := sub_eq pok20t ct20t (by kernel_rfl)
theorem l20t_2 (hJ : Closed prog main J) {S : Type} (μ : S → Nat) (I : S → RG → List af → Prop) (hI : ∀ s f h,I s f h → aD h → n0 ≤ h.length → W prog J 75 n0 20 (aw [1,1,1,1,1,1,1,1,1,0,1,0,0] (codeOf f20)) f h (bc (Nx n0 μ I s) (aA pl20t prog J 75 n0 20 ct20t yp22 (codeOf f20) [] (aq prog [.tmp 6,.tmp 7] n0 K))))
 {s : S} {f : RG} (hi : dJ n0 I s f h) : Sem J 75 n0 20 (aw yp22 (codeOf f20)) f h (aA pl20t prog J 75 n0 20 ct20t yp22 (codeOf f20) [] (aq prog [.tmp 6,.tmp 7] n0 K)) :=
 bn hJ mixed (b := aw [1,1,1,1,1,1,1,1,1,0,1,0,0] (codeOf f20)) (by kernel_rfl) μ I hI hi
end
section
variable {main : Bool} {J : JT} {n0 : Nat} {h : List af} {K : Value → List af → Prop}
theorem at48 : prog.funcs[48]? = some f48 := by kernel_rfl
theorem body48 : f48.body = some (codeOf f48) := by kernel_rfl
theorem q48_1 {f : RG} {fr : FuncId} {Q : QT} : W prog J 50 n0 fr (aw [1,0] (codeOf f48)) f h Q =
((∃ B,ai false 1 (f.r 1) h fun v1 =>
aR (some B) (au (f.r 1)) ∧ (ai false 1 (f.r 1) h fun v2 =>
aR (some B) (au (f.r 1)) ∧ (ai true 3 (f.r 2) h fun v3 =>
aR (some B) (au (f.r 2)) ∧ (ai false 1 (f.r 3) h fun v4 =>
aR (some B) (au (f.r 3)) ∧ (ai false 1 (f.r 4) h fun v5 =>
aR (some B) (au (f.r 4)) ∧ ((aNewM h fun v6 h7 =>
aG (some B) h h7 ∧ (Good prog J 51 [v1] h7 fun v8 h9 =>
aG (some B) h h9 ∧ (((VOk h9.length (Value.bool true) ∧ one (Value.bool true) = true) ∧ aUpdX prog 109 v6 v8 (Value.bool true) h9 fun h10 =>
aG (some B) h h10 ∧ (Good prog J 50 [v6,v2,v3,v4,v5] h10 fun v11 h12 =>
aG (some B) h h12 ∧ (bL v11 0 fun v13 =>
bL v11 1 fun v14 =>
Q .normal ((((((((((((((f.p 11 v1).p 14 v2).p 15 v3).p 16 v4).p 17 v5).p 10 v6).p 12 v8).p 13 v6).p 18 v11).p 9 v11).p 19 v13).p 20 v14).p 6 v13).p 7 v14) h12)))))) ∧ (Good prog J 51 [v1] h fun v15 h16 =>
aG (some B) h h16 ∧ (aNewM h16 fun v17 h18 =>
aG (some B) h h18 ∧ (((VOk h18.length (Value.bool true) ∧ one (Value.bool true) = true) ∧ aUpdX prog 109 v17 v15 (Value.bool true) h18 fun h19 =>
aG (some B) h h19 ∧ (Good prog J 50 [v17,v2,v3,v4,v5] h19 fun v20 h21 =>
aG (some B) h h21 ∧ (bL v20 0 fun v22 =>
bL v20 1 fun v23 =>
Q .normal ((((((((((((((f.p 11 v1).p 14 v2).p 15 v3).p 16 v4).p 17 v5).p 12 v15).p 10 v17).p 13 v17).p 18 v20).p 9 v20).p 19 v22).p 20 v23).p 6 v22).p 7 v23) h21))))))))))))) := by kernel_rfl
theorem q48_2 {f : RG} {fr : FuncId} {Q : QT} : W prog J 50 n0 fr (aw [1,1] (codeOf f48)) f h Q =
(cnd (f.r 7)
(aL (f.r 2) 0 fun v1 =>
ai false 1 v1 h fun v2 =>
aj prog .eql 3 v2 (ab 1) fun v3 =>
cnd v3
(ai false 1 (f.r 3) h fun v4 =>
ai false 1 (f.r 3) h fun v5 =>
(((1 * 1 : Nat) ≤ 16777216 ∧ (1 : Nat) ≤ 16777216 ∧ List.length [(ab 0)] = 1) ∧ aH (aV [(ab 0)] 1) [(0,1,v5)] fun c6 =>
aX 1 c6 h fun v7 h8 =>
aIdxA 3 1 (f.r 5) v4 fun v9 =>
aB 1 v9 v7 h8 fun h10 =>
Q .normal ((((((((((((f.p 22 (f.r 7)).p 23 (f.r 7)).p 23 (Value.bool true)).p 24 v1).p 25 v2).p 26 v3).p 27 v3).p 21 v3).p 28 v4).p 29 v5).p 30 v7).p 31 v9) h10))
(cnd (f.r 7)
(ai false 1 (f.r 1) h fun v11 =>
ai true 3 (f.r 2) h fun v12 =>
ai false 1 (f.r 4) h fun v13 =>
aL (f.r 2) 0 fun v14 =>
ai false 1 v14 h fun v15 =>
aj prog .sub 3 v15 (ab 1) fun v16 =>
Good prog J 52 [(f.r 6),v11,v12,v13,v16] h fun v17 h18 =>
aj prog .neq 26 v17 (Value.slice none 0 0) fun v19 =>
cnd v19
((∃ B,ai false 1 (f.r 3) h18 fun v20 =>
aR (some B) (au (f.r 3)) ∧ (ai false 1 (f.r 3) h18 fun v21 =>
aR (some B) (au (f.r 3)) ∧ ((((1 * 1 : Nat) ≤ 16777216 ∧ (1 : Nat) ≤ 16777216 ∧ List.length [(ab 0)] = 1) ∧ aH (aV [(ab 0)] 1) [(0,1,v21)] fun c22 =>
aX 1 c22 h18 fun v23 h24 =>
aG (some B) h18 h24 ∧ (((List.length [(ab 0)] = 1 ∧ 0 < (1 : Nat) ∧ 0 < (8 : Nat) ∧ (8 : Nat) ≤ 1024) ∧ aApp 1 v23 v17 h24 fun v25 h26 =>
aG (some B) h18 h26 ∧ (aIdxA 3 1 (f.r 5) v20 fun v27 =>
aB 1 v27 v25 h26 fun h28 =>
Q .normal (((((((((((((((((((((((((((f.p 22 (f.r 7)).p 23 (f.r 7)).p 23 (Value.bool true)).p 24 v1).p 25 v2).p 26 v3).p 27 v3).p 21 v3).p 33 (f.r 7)).p 32 (f.r 7)).p 34 (f.r 6)).p 35 v11).p 36 v12).p 37 v13).p 38 v14).p 39 v15).p 40 v16).p 41 v17).p 8 v17).p 42 v17).p 43 v19).p 44 v20).p 45 v21).p 47 v17).p 46 v23).p 48 v25).p 49 v27) h28))))))))
(Q .normal (((((((((((((((((((((f.p 22 (f.r 7)).p 23 (f.r 7)).p 23 (Value.bool true)).p 24 v1).p 25 v2).p 26 v3).p 27 v3).p 21 v3).p 33 (f.r 7)).p 32 (f.r 7)).p 34 (f.r 6)).p 35 v11).p 36 v12).p 37 v13).p 38 v14).p 39 v15).p 40 v16).p 41 v17).p 8 v17).p 42 v17).p 43 v19) h18))
(Q .normal ((((((((((f.p 22 (f.r 7)).p 23 (f.r 7)).p 23 (Value.bool true)).p 24 v1).p 25 v2).p 26 v3).p 27 v3).p 21 v3).p 33 (f.r 7)).p 32 (f.r 7)) h)))
(cnd (f.r 7)
(ai false 1 (f.r 1) h fun v29 =>
ai true 3 (f.r 2) h fun v30 =>
ai false 1 (f.r 4) h fun v31 =>
aL (f.r 2) 0 fun v32 =>
ai false 1 v32 h fun v33 =>
aj prog .sub 3 v33 (ab 1) fun v34 =>
Good prog J 52 [(f.r 6),v29,v30,v31,v34] h fun v35 h36 =>
aj prog .neq 26 v35 (Value.slice none 0 0) fun v37 =>
cnd v37
((∃ B,ai false 1 (f.r 3) h36 fun v38 =>
aR (some B) (au (f.r 3)) ∧ (ai false 1 (f.r 3) h36 fun v39 =>
aR (some B) (au (f.r 3)) ∧ ((((1 * 1 : Nat) ≤ 16777216 ∧ (1 : Nat) ≤ 16777216 ∧ List.length [(ab 0)] = 1) ∧ aH (aV [(ab 0)] 1) [(0,1,v39)] fun c40 =>
aX 1 c40 h36 fun v41 h42 =>
aG (some B) h36 h42 ∧ (((List.length [(ab 0)] = 1 ∧ 0 < (1 : Nat) ∧ 0 < (8 : Nat) ∧ (8 : Nat) ≤ 1024) ∧ aApp 1 v41 v35 h42 fun v43 h44 =>
aG (some B) h36 h44 ∧ (aIdxA 3 1 (f.r 5) v38 fun v45 =>
aB 1 v45 v43 h44 fun h46 =>
Q .normal (((((((((((((((((((((((((((f.p 22 (f.r 7)).p 23 (f.r 7)).p 23 (Value.bool false)).p 24 undef).p 25 undef).p 26 undef).p 27 (Value.bool false)).p 21 (Value.bool false)).p 33 (f.r 7)).p 32 (f.r 7)).p 34 (f.r 6)).p 35 v29).p 36 v30).p 37 v31).p 38 v32).p 39 v33).p 40 v34).p 41 v35).p 8 v35).p 42 v35).p 43 v37).p 44 v38).p 45 v39).p 47 v35).p 46 v41).p 48 v43).p 49 v45) h46))))))))
(Q .normal (((((((((((((((((((((f.p 22 (f.r 7)).p 23 (f.r 7)).p 23 (Value.bool false)).p 24 undef).p 25 undef).p 26 undef).p 27 (Value.bool false)).p 21 (Value.bool false)).p 33 (f.r 7)).p 32 (f.r 7)).p 34 (f.r 6)).p 35 v29).p 36 v30).p 37 v31).p 38 v32).p 39 v33).p 40 v34).p 41 v35).p 8 v35).p 42 v35).p 43 v37) h36))
(Q .normal ((((((((((f.p 22 (f.r 7)).p 23 (f.r 7)).p 23 (Value.bool false)).p 24 undef).p 25 undef).p 26 undef).p 27 (Value.bool false)).p 21 (Value.bool false)).p 33 (f.r 7)).p 32 (f.r 7)) h))) := by kernel_rfl
noncomputable def ops48_1 : Array Oper := opsAt [0] (codeOf f48)
theorem r48_1 : aw [0] (codeOf f48) = .region 0 ops48_1 false := by kernel_rfl
theorem z48_1 : ops48_1.size = 1 := by kernel_rfl
noncomputable def p48_1_0 : Oper := opGet ops48_1 0
theorem o48_1_0 {J : JT} : ops48_1[0]? = some p48_1_0 ∧ p48_1_0.dst = none ∧ eb 50 p48_1_0 = true ∧ (∀ r,gd ops48_1 p48_1_0 r = some true) ∧ (∀ (f : RG) (h : List af) (H : Value → List af → Prop),opW prog (Good prog J) p48_1_0 f.r h H = (False)) := ⟨by kernel_rfl,by kernel_rfl,by kernel_rfl,fun _ => by kernel_rfl,fun _ _ _ => by kernel_rfl⟩
end
section
variable {main : Bool} {J : JT} {n0 : Nat} {h : List af} {K : Value → List af → Prop}
theorem at51 : prog.funcs[51]? = some f51 := by kernel_rfl
theorem body51 : f51.body = some (codeOf f51) := by kernel_rfl
def pl51 : bj := []
def ct51 : bB := .go
theorem pok51 : aC prog pl51 (codeOf f51) = true := by kernel_rfl
theorem e51 {a0 : Value} : W prog J 21 h.length 51 (codeOf f51) (RG.mk (ax [a0]) []) h (aq prog [.cell 2 118] h.length K) =
(bo [(ab 0),(ab 0),(ab 0),(ab 0),(ab 0),(ab 0),(Value.int .u8 0),(ab 0)] h fun v1 h2 =>
bo [(ab 0),(ab 0),(ab 0),(ab 0),(ab 0),(ab 0),(Value.int .u8 0),(ab 0)] h2 fun v3 h4 =>
b0 a0 fun v5 =>
Sem J 21 h.length 51 (aw yp0 (codeOf f51)) ((((((RG.mk (ax [a0]) []).p 2 v1).p 3 v3).p 6 a0).p 7 v5).p 8 (ab 0)) h4 (aA pl51 prog J 21 h.length 51 ct51 yp0 (codeOf f51) [] (aq prog [.cell 2 118] h.length K))) := aT pok51 ct51 (by kernel_rfl)
theorem g51 (hJ : Closed prog main J) {a0 : Value} (hs : aD h → W prog J 21 h.length 51 (codeOf f51) (RG.mk (ax [a0]) []) h (aq prog [.cell 2 118] h.length K)) : Good prog J 51 [a0] h K :=
 az hJ mixed at51 body51 (by kernel_rfl) (Nat.le_of_ble_eq_true rfl) hs
theorem s51_1 {f : RG} {nx0 : RG → List af → Prop} : W prog J 21 n0 51 (aw yp2 (codeOf f51)) f h (bc nx0 (aA pl51 prog J 21 n0 51 ct51 yp0 (codeOf f51) [] (aq prog [.cell 2 118] n0 K))) =
(aj prog .lss 3 (f.r 8) (f.r 7) fun v1 =>
cnd v1
(bT 6 (f.r 6) (f.r 8) fun v2 =>
ai true 6 v2 h fun v3 =>
bo [(ab 0),(ab 0),(ab 0),(ab 0),(ab 0),(ab 0)] h fun v4 h5 =>
aB 6 v4 v3 h5 fun h6 =>
aL v4 0 fun v7 =>
ai false 1 v7 h6 fun v8 =>
aH [(ab 0),(ab 0)] [(0,1,v8)] fun c9 =>
aL (f.r 3) 0 fun v10 =>
aIdxA 3 2 v10 (f.r 8) fun v11 =>
aB 2 v11 (Value.agg ⟨c9⟩) h6 fun h12 =>
aj prog .add 3 (f.r 8) (ab 1) fun v13 =>
nx0 ((((((((((((((f.p 9 v1).p 10 (f.r 8)).p 11 v2).p 12 v3).p 5 v4).p 4 (f.r 8)).p 13 (f.r 8)).p 14 v7).p 15 v8).p 16 (Value.agg ⟨c9⟩)).p 17 v10).p 18 v11).p 19 v13).p 8 v13) h12)
(ai true 8 (f.r 3) h fun v14 =>
aB 8 (f.r 2) v14 h fun h15 =>
aq prog [.cell 2 118] n0 K .ret ((f.p 9 v1).p 20 v14) h15)) := sub_eq pok51 ct51 (by kernel_rfl)
theorem l51_1 (hJ : Closed prog main J) {S : Type} (μ : S → Nat) (I : S → RG → List af → Prop) (hI : ∀ s f h,I s f h → aD h → n0 ≤ h.length → W prog J 21 n0 51 (aw yp2 (codeOf f51)) f h (bc (Nx n0 μ I s) (aA pl51 prog J 21 n0 51 ct51 yp0 (codeOf f51) [] (aq prog [.cell 2 118] n0 K))))
 {s : S} {f : RG} (hi : dJ n0 I s f h) : Sem J 21 n0 51 (aw yp0 (codeOf f51)) f h (aA pl51 prog J 21 n0 51 ct51 yp0 (codeOf f51) [] (aq prog [.cell 2 118] n0 K)) :=
 bn hJ mixed (b := aw yp2 (codeOf f51)) (by kernel_rfl) μ I hI hi
theorem at50 : prog.funcs[50]? = some f50 := by kernel_rfl
theorem body50 : f50.body = some (codeOf f50) := by kernel_rfl
def pl50 : bj := []
def ct50 : bB := .go
theorem pok50 : aC prog pl50 (codeOf f50) = true := by kernel_rfl
theorem e50 {a0 a1 a2 a3 a4 : Value} : W prog J 56 h.length 50 (codeOf f50) (RG.mk (ax [a0,a1,a2,a3,a4]) []) h (aq prog [.tmp 10,.tmp 11] h.length K) =
(cq a2 h fun v1 h2 =>
aNewM h2 fun v3 h4 =>
aRange prog 109 a0 h4 fun v5 h6 =>
Sem J 56 h.length 50 (aw yp0 (codeOf f50)) ((((((((RG.mk (ax [a0,a1,a2,a3,a4]) []).p 7 v1).p 10 (Value.map none)).p 11 (Value.bool false)).p 20 v3).p 12 v3).p 21 a0).p 22 v5) h6 (aA pl50 prog J 56 h.length 50 ct50 yp0 (codeOf f50) [] (aq prog [.tmp 10,.tmp 11] h.length K))) := aT pok50 ct50 (by kernel_rfl)
theorem g50 (hJ : Closed prog main J) {a0 a1 a2 a3 a4 : Value} (hs : aD h → W prog J 56 h.length 50 (codeOf f50) (RG.mk (ax [a0,a1,a2,a3,a4]) []) h (aq prog [.tmp 10,.tmp 11] h.length K)) : Good prog J 50 [a0,a1,a2,a3,a4] h K :=
 az hJ mixed at50 body50 (by kernel_rfl) (Nat.le_of_ble_eq_true rfl) hs
theorem s50_1 {f : RG} {nx0 : RG → List af → Prop} : W prog J 56 n0 50 (aw yp2 (codeOf f50)) f h (bc nx0 (aA pl50 prog J 56 n0 50 ct50 yp0 (codeOf f50) [] (aq prog [.tmp 10,.tmp 11] n0 K))) =
(aNext (f.r 22) h fun v1 h2 =>
bL v1 0 fun v3 =>
cnd v3
(aEntry (f.r 22) h2 fun v4 =>
bL v4 0 fun v5 =>
bo [(ab 0),(ab 0),(ab 0),(ab 0),(ab 0),(ab 0),(Value.int .u8 0),(ab 0)] h2 fun v6 h7 =>
aB 8 v6 v5 h7 fun h8 =>
aH [(Value.int .u8 0),(Value.int .u8 0)] [(0,1,(Value.int .u8 100)),(1,1,(Value.int .u8 119))] fun c9 =>
Sem J 56 n0 50 (aw yp23 (codeOf f50)) (((((((f.p 23 v1).p 24 v3).p 25 v4).p 26 v5).p 13 v6).p 27 (Value.agg ⟨c9⟩)).p 28 (ab 0)) h8 (aA pl50 prog J 56 n0 50 ct50 yp23 (codeOf f50) [nx0] (aq prog [.tmp 10,.tmp 11] n0 K)))
(aI n0 K f.ds [(f.r 12),(Value.bool true)] h2)) := sub_eq pok50 ct50 (by kernel_rfl)
theorem l50_1 (hJ : Closed prog main J) {S : Type} (μ : S → Nat) (I : S → RG → List af → Prop) (hI : ∀ s f h,I s f h → aD h → n0 ≤ h.length → W prog J 56 n0 50 (aw yp2 (codeOf f50)) f h (bc (Nx n0 μ I s) (aA pl50 prog J 56 n0 50 ct50 yp0 (codeOf f50) [] (aq prog [.tmp 10,.tmp 11] n0 K))))
 {s : S} {f : RG} (hi : dJ n0 I s f h) : Sem J 56 n0 50 (aw yp0 (codeOf f50)) f h (aA pl50 prog J 56 n0 50 ct50 yp0 (codeOf f50) [] (aq prog [.tmp 10,.tmp 11] n0 K)) :=
 bn hJ mixed (b := aw yp2 (codeOf f50)) (by kernel_rfl) μ I hI hi
theorem s50_2 {f : RG} {nx0 nx1 : RG → List af → Prop} : W prog J 56 n0 50 (aw [1,1,0,1,0,0,1,1,0,1,1,0,0] (codeOf f50)) f h (bc nx1 (aA pl50 prog J 56 n0 50 ct50 yp23 (codeOf f50) [nx0] (aq prog [.tmp 10,.tmp 11] n0 K))) =
(aj prog .lss 3 (f.r 28) (ab 2) fun v1 =>
cnd v1
(aIdxV 2 1 false (f.r 27) (f.r 28) fun v2 =>
aL (f.r 13) 6 fun v3 =>
ai true 2 v3 h fun v4 =>
ai true 3 (f.r 7) h fun v5 =>
Good prog J 74 [v4,v5,v2] h fun v6 h7 =>
bL v6 0 fun v8 =>
bL v6 1 fun v9 =>
bo [(Value.int .u8 0),(ab 0)] h7 fun v10 h11 =>
aB 2 v10 v8 h11 fun h12 =>
aUn .not v9 fun v13 =>
cnd v13
(aj prog .add 3 (f.r 28) (ab 1) fun v14 =>
nx1 (((((((((((((((((f.p 29 v1).p 30 v2).p 15 v2).p 32 v3).p 33 v4).p 34 v5).p 35 v2).p 36 v6).p 31 v6).p 37 v8).p 38 v9).p 16 v10).p 17 v9).p 39 v9).p 40 v13).p 54 v14).p 28 v14) h12)
(ai true 8 (f.r 13) h12 fun v15 =>
ai true 2 v10 h12 fun v16 =>
Good prog J 88 [v15,(f.r 1),(f.r 3),(f.r 4),v16] h12 fun v17 h18 =>
bL v17 0 fun v19 =>
bL v17 1 fun v20 =>
bo [(ab 0),(ab 0),(ab 0),(ab 0),(ab 0),(ab 0),(Value.int .u8 0),(ab 0)] h18 fun v21 h22 =>
aB 8 v21 v19 h22 fun h23 =>
aUn .not v20 fun v24 =>
cnd v24
(aI n0 K f.ds [(Value.map none),(Value.bool false)] h23)
(ai true 8 v21 h23 fun v25 =>
((VOk h23.length (Value.bool true) ∧ one (Value.bool true) = true) ∧ aUpdX prog 109 (f.r 12) v25 (Value.bool true) h23 fun h26 =>
aj prog .add 3 (f.r 28) (ab 1) fun v27 =>
nx1 ((((((((((((((((((((((((((((((((f.p 29 v1).p 30 v2).p 15 v2).p 32 v3).p 33 v4).p 34 v5).p 35 v2).p 36 v6).p 31 v6).p 37 v8).p 38 v9).p 16 v10).p 17 v9).p 39 v9).p 40 v13).p 42 v15).p 43 (f.r 1)).p 44 (f.r 3)).p 45 (f.r 4)).p 46 v16).p 47 v17).p 41 v17).p 48 v19).p 49 v20).p 18 v21).p 19 v20).p 50 v20).p 51 v24).p 52 (f.r 12)).p 53 v25).p 54 v27).p 28 v27) h26))))
(nx0 (f.p 29 v1) h)) := sub_eq pok50 ct50 (by kernel_rfl)
theorem l50_2 (hJ : Closed prog main J) {nx0 : RG → List af → Prop} {S : Type} (μ : S → Nat) (I : S → RG → List af → Prop) (hI : ∀ s f h,I s f h → aD h → n0 ≤ h.length → W prog J 56 n0 50 (aw [1,1,0,1,0,0,1,1,0,1,1,0,0] (codeOf f50)) f h (bc (Nx n0 μ I s) (aA pl50 prog J 56 n0 50 ct50 yp23 (codeOf f50) [nx0] (aq prog [.tmp 10,.tmp 11] n0 K))))
 {s : S} {f : RG} (hi : dJ n0 I s f h) : Sem J 56 n0 50 (aw yp23 (codeOf f50)) f h (aA pl50 prog J 56 n0 50 ct50 yp23 (codeOf f50) [nx0] (aq prog [.tmp 10,.tmp 11] n0 K)) :=
 bn hJ mixed (b := aw [1,1,0,1,0,0,1,1,0,1,1,0,0] (codeOf f50)) (by kernel_rfl) μ I hI hi
theorem at52 : prog.funcs[52]? = some f52 := by kernel_rfl
theorem body52 : f52.body = some (codeOf f52) := by kernel_rfl
def pl52 : bj := []
def ct52 : bB := .go
theorem pok52 : aC prog pl52 (codeOf f52) = true := by kernel_rfl
theorem e52 {a0 a1 a2 a3 a4 : Value} : W prog J 49 h.length 52 (codeOf f52) (RG.mk (ax [a0,a1,a2,a3,a4]) []) h (aq prog [.tmp 10] h.length K) =
(cq a2 h fun v1 h2 =>
b0 a1 fun v3 =>
Sem J 49 h.length 52 (aw [1,0,1,0] (codeOf f52)) ((((((RG.mk (ax [a0,a1,a2,a3,a4]) []).p 7 v1).p 10 (Value.slice none 0 0)).p 15 a1).p 16 v3).p 17 (ab 0)) h2 (aA pl52 prog J 49 h.length 52 ct52 [1,0,1,0] (codeOf f52) [] (aq prog [.tmp 10] h.length K))) := aT pok52 ct52 (by kernel_rfl)
theorem g52 (hJ : Closed prog main J) {a0 a1 a2 a3 a4 : Value} (hs : aD h → W prog J 49 h.length 52 (codeOf f52) (RG.mk (ax [a0,a1,a2,a3,a4]) []) h (aq prog [.tmp 10] h.length K)) : Good prog J 52 [a0,a1,a2,a3,a4] h K :=
 az hJ mixed at52 body52 (by kernel_rfl) (Nat.le_of_ble_eq_true rfl) hs
theorem s52_1 {f : RG} {nx0 : RG → List af → Prop} : W prog J 49 n0 52 (aw [1,0,1,0,0] (codeOf f52)) f h (bc nx0 (aA pl52 prog J 49 n0 52 ct52 [1,0,1,0] (codeOf f52) [] (aq prog [.tmp 10] n0 K))) =
(aj prog .lss 3 (f.r 17) (f.r 16) fun v1 =>
cnd v1
(ai true 3 (f.r 7) h fun v2 =>
Good prog J 50 [(f.r 0),(f.r 1),v2,(f.r 17),(f.r 3)] h fun v3 h4 =>
bL v3 0 fun v5 =>
bL v3 1 fun v6 =>
aUn .not v6 fun v7 =>
cnd v7
(aj prog .add 3 (f.r 17) (ab 1) fun v8 =>
nx0 ((((((((((((((((((f.p 18 v1).p 19 (f.r 17)).p 11 (f.r 17)).p 21 (f.r 0)).p 22 (f.r 1)).p 23 v2).p 24 (f.r 17)).p 25 (f.r 3)).p 26 v3).p 20 v3).p 27 v5).p 28 v6).p 12 v5).p 13 v6).p 29 v6).p 30 v7).p 48 v8).p 17 v8) h4)
(aj prog .eql 3 (f.r 4) (ab 1) fun v9 =>
cnd v9
((((1 * 1 : Nat) ≤ 16777216 ∧ (1 : Nat) ≤ 16777216 ∧ List.length [(ab 0)] = 1) ∧ aH (aV [(ab 0)] 1) [(0,1,(f.r 17))] fun c10 =>
aX 1 c10 h4 fun v11 h12 =>
aI n0 K f.ds [v11] h12))
(ai true 3 (f.r 7) h4 fun v13 =>
aj prog .sub 3 (f.r 4) (ab 1) fun v14 =>
Good prog J 52 [v5,(f.r 1),v13,(f.r 3),v14] h4 fun v15 h16 =>
aj prog .neq 26 v15 (Value.slice none 0 0) fun v17 =>
cnd v17
((((1 * 1 : Nat) ≤ 16777216 ∧ (1 : Nat) ≤ 16777216 ∧ List.length [(ab 0)] = 1) ∧ aH (aV [(ab 0)] 1) [(0,1,(f.r 17))] fun c18 =>
aX 1 c18 h16 fun v19 h20 =>
((List.length [(ab 0)] = 1 ∧ 0 < (1 : Nat) ∧ 0 < (8 : Nat) ∧ (8 : Nat) ≤ 1024) ∧ aApp 1 v19 v15 h20 fun v21 h22 =>
aI n0 K f.ds [v21] h22)))
(aj prog .add 3 (f.r 17) (ab 1) fun v23 =>
nx0 ((((((((((((((((((((((((((((((f.p 18 v1).p 19 (f.r 17)).p 11 (f.r 17)).p 21 (f.r 0)).p 22 (f.r 1)).p 23 v2).p 24 (f.r 17)).p 25 (f.r 3)).p 26 v3).p 20 v3).p 27 v5).p 28 v6).p 12 v5).p 13 v6).p 29 v6).p 30 v7).p 31 (f.r 4)).p 32 v9).p 35 v5).p 36 (f.r 1)).p 37 v13).p 38 (f.r 3)).p 39 (f.r 4)).p 40 v14).p 41 v15).p 14 v15).p 42 v15).p 43 v17).p 48 v23).p 17 v23) h16))))
(aI n0 K f.ds [(Value.slice none 0 0)] h)) := sub_eq pok52 ct52 (by kernel_rfl)
theorem l52_1 (hJ : Closed prog main J) {S : Type} (μ : S → Nat) (I : S → RG → List af → Prop) (hI : ∀ s f h,I s f h → aD h → n0 ≤ h.length → W prog J 49 n0 52 (aw [1,0,1,0,0] (codeOf f52)) f h (bc (Nx n0 μ I s) (aA pl52 prog J 49 n0 52 ct52 [1,0,1,0] (codeOf f52) [] (aq prog [.tmp 10] n0 K))))
 {s : S} {f : RG} (hi : dJ n0 I s f h) : Sem J 49 n0 52 (aw [1,0,1,0] (codeOf f52)) f h (aA pl52 prog J 49 n0 52 ct52 [1,0,1,0] (codeOf f52) [] (aq prog [.tmp 10] n0 K)) :=
 bn hJ mixed (b := aw [1,0,1,0,0] (codeOf f52)) (by kernel_rfl) μ I hI hi
theorem at88 : prog.funcs[88]? = some f88 := by kernel_rfl
theorem body88 : f88.body = some (codeOf f88) := by kernel_rfl
def pl88 : bj := [(8,false,.take 0 (.take 1 (.take 2 (.take 3 (.take 4 (.take 5 (.last 6 true (.last 7 false (.fin)))))))))]
def ct88 : bB := .bin (.go) (.bin (.go) (.bin (.bin (.go) (.un (.un (.bin (.go) (.bin (.go) (.bin (.un (.bin (.go) (.bin (.go) (.bin (.go) (.cut (.go)))))) (.go))))))) (.go)))
theorem pok88 : aC prog pl88 (codeOf f88) = true := by kernel_rfl
abbrev w88 (J : JT) (n0 : Nat) (p : List Nat) (f : RG) (h : List af) (l : List (RG → List af → Prop)) (K : Value → List af → Prop) : Prop := W prog J 55 n0 88 (aw p (codeOf f88)) f h (aA pl88 prog J 55 n0 88 ct88 p (codeOf f88) l (aq prog [.cell 10 118,.tmp 11] n0 K))
theorem e88 {a0 a1 a2 a3 a4 : Value} : W prog J 55 h.length 88 (codeOf f88) (RG.mk (ax [a0,a1,a2,a3,a4]) []) h (aq prog [.cell 10 118,.tmp 11] h.length K) =
(cq a0 h fun v1 h2 =>
cq a4 h2 fun v3 h4 =>
bo [(ab 0),(ab 0),(ab 0),(ab 0),(ab 0),(ab 0),(Value.int .u8 0),(ab 0)] h4 fun v5 h6 =>
b0 a1 fun v7 =>
Sem J 55 h.length 88 (aw yp0 (codeOf f88)) (((((((((RG.mk (ax [a0,a1,a2,a3,a4]) []).p 5 v1).p 9 v3).p 10 v5).p 11 (Value.bool false)).p 12 (Value.bool true)).p 19 a1).p 20 v7).p 21 (ab 0)) h6 (aA pl88 prog J 55 h.length 88 ct88 yp0 (codeOf f88) [] (aq prog [.cell 10 118,.tmp 11] h.length K))) := aT pok88 ct88 (by kernel_rfl)
theorem g88 (hJ : Closed prog main J) {a0 a1 a2 a3 a4 : Value} (hs : aD h → W prog J 55 h.length 88 (codeOf f88) (RG.mk (ax [a0,a1,a2,a3,a4]) []) h (aq prog [.cell 10 118,.tmp 11] h.length K)) : Good prog J 88 [a0,a1,a2,a3,a4] h K :=
 az hJ mixed at88 body88 (by kernel_rfl) (Nat.le_of_ble_eq_true rfl) hs
theorem s88_1 {f : RG} {nx0 : RG → List af → Prop} : W prog J 55 n0 88 (aw yp2 (codeOf f88)) f h (bc nx0 (aA pl88 prog J 55 n0 88 ct88 yp0 (codeOf f88) [] (aq prog [.cell 10 118,.tmp 11] n0 K))) =
(aj prog .lss 3 (f.r 21) (f.r 20) fun v1 =>
cnd v1
(bT 6 (f.r 19) (f.r 21) fun v2 =>
ai true 6 v2 h fun v3 =>
bo [(ab 0),(ab 0),(ab 0),(ab 0),(ab 0),(ab 0)] h fun v4 h5 =>
aB 6 v4 v3 h5 fun h6 =>
aj prog .eql 3 (f.r 21) (f.r 2) fun v7 =>
cnd v7
(bh (w88 J n0 yp5 ((((((((((((f.p 22 v1).p 23 (f.r 21)).p 24 v2).p 25 v3).p 14 v4).p 13 (f.r 21)).p 15 (ab 0)).p 26 (f.r 21)).p 27 (f.r 2)).p 28 v7).p 29 (f.r 3)).p 15 (f.r 3)) h6 [nx0] K))
(bh (w88 J n0 yp5 ((((((((((f.p 22 v1).p 23 (f.r 21)).p 24 v2).p 25 v3).p 14 v4).p 13 (f.r 21)).p 15 (ab 0)).p 26 (f.r 21)).p 27 (f.r 2)).p 28 v7) h6 [nx0] K)))
(ai true 2 (f.r 9) h fun v8 =>
aL (f.r 5) 6 fun v9 =>
aB 2 v9 v8 h fun h10 =>
ai true 8 (f.r 5) h10 fun v11 =>
aB 8 (f.r 10) v11 h10 fun h12 =>
aq prog [.cell 10 118,.tmp 11] n0 K .ret ((((((f.p 22 v1).p 51 v8).p 52 v9).p 53 v11).p 54 (f.r 12)).p 11 (f.r 12)) h12)) := sub_eq pok88 ct88 (by kernel_rfl)
theorem l88_1 (hJ : Closed prog main J) {S : Type} (μ : S → Nat) (I : S → RG → List af → Prop) (hI : ∀ s f h,I s f h → aD h → n0 ≤ h.length → W prog J 55 n0 88 (aw yp2 (codeOf f88)) f h (bc (Nx n0 μ I s) (aA pl88 prog J 55 n0 88 ct88 yp0 (codeOf f88) [] (aq prog [.cell 10 118,.tmp 11] n0 K))))
 {s : S} {f : RG} (hi : dJ n0 I s f h) : Sem J 55 n0 88 (aw yp0 (codeOf f88)) f h (aA pl88 prog J 55 n0 88 ct88 yp0 (codeOf f88) [] (aq prog [.cell 10 118,.tmp 11] n0 K)) :=
 bn hJ mixed (b := aw yp2 (codeOf f88)) (by kernel_rfl) μ I hI hi
theorem s88_2 {f : RG} {nx0 : RG → List af → Prop} : w88 J n0 yp5 f h [nx0] K =
((∃ B,ai true 6 (f.r 14) h fun v1 =>
aR (some B) (au (f.r 14)) ∧ (aL (f.r 5) 0 fun v2 =>
aIdxA 3 2 v2 (f.r 13) fun v3 =>
ai true 2 v3 h fun v4 =>
aR (some B) (au v3) ∧ (aH [(ab 0),(ab 0),(ab 0),(ab 0),(ab 0),(ab 0),(ab 0),(ab 0)] [(0,6,v1),(6,2,v4)] fun c5 =>
bo [(ab 0),(ab 0),(ab 0),(ab 0),(ab 0),(ab 0),(ab 0),(ab 0)] h fun v6 h7 =>
aG (some B) h h7 ∧ (aB 8 v6 (Value.agg ⟨c5⟩) h7 fun h8 =>
aL (f.r 9) 0 fun v9 =>
ai false 1 v9 h8 fun v10 =>
aj prog .eql 5 v10 (Value.int .u8 119) fun v11 =>
Good prog J 69 [v6,(f.r 15),v11] h8 fun v12 h13 =>
bL v12 0 fun v14 =>
bL v12 1 fun v15 =>
cnd v14
(aL v6 6 fun v16 =>
ai true 2 v16 h13 fun v17 =>
aL (f.r 5) 0 fun v18 =>
aIdxA 3 2 v18 (f.r 13) fun v19 =>
aB 2 v19 v17 h13 fun h20 =>
aj prog .add 3 (f.r 21) (ab 1) fun v21 =>
nx0 ((((((((((((((((((((((((((f.p 30 v1).p 31 (f.r 13)).p 32 v2).p 33 v3).p 34 v4).p 35 (Value.agg ⟨c5⟩)).p 16 v6).p 37 (f.r 15)).p 38 v9).p 39 v10).p 40 v11).p 41 v12).p 36 v12).p 42 v14).p 43 v15).p 17 v14).p 18 v15).p 44 v14).p 12 (Value.bool false)).p 45 (f.r 13)).p 46 v16).p 47 v17).p 48 v18).p 49 v19).p 50 v21).p 21 v21) h20)
(aL v6 6 fun v22 =>
ai true 2 v22 h13 fun v23 =>
aL (f.r 5) 0 fun v24 =>
aIdxA 3 2 v24 (f.r 13) fun v25 =>
aB 2 v25 v23 h13 fun h26 =>
aj prog .add 3 (f.r 21) (ab 1) fun v27 =>
nx0 (((((((((((((((((((((((((f.p 30 v1).p 31 (f.r 13)).p 32 v2).p 33 v3).p 34 v4).p 35 (Value.agg ⟨c5⟩)).p 16 v6).p 37 (f.r 15)).p 38 v9).p 39 v10).p 40 v11).p 41 v12).p 36 v12).p 42 v14).p 43 v15).p 17 v14).p 18 v15).p 44 v14).p 45 (f.r 13)).p 46 v22).p 47 v23).p 48 v24).p 49 v25).p 50 v27).p 21 v27) h26)))))) := sub_eq pok88 ct88 (by kernel_rfl)
end
section
variable {main : Bool} {J : JT} {n0 : Nat} {h : List af} {K : Value → List af → Prop}
theorem at44 : prog.funcs[44]? = some f44 := by kernel_rfl
theorem body44 : f44.body = some (codeOf f44) := by kernel_rfl
def pl44 : bj := []
def ct44 : bB := .go
theorem pok44 : aC prog pl44 (codeOf f44) = true := by kernel_rfl
theorem e44 {a0 a1 a2 : Value} : W prog J 15 h.length 44 (codeOf f44) (RG.mk (ax [a0,a1,a2]) []) h (aq prog [.tmp 6] h.length K) =
(aj prog .leq 3 a1 a0 fun v1 =>
cnd v1
(aj prog .leq 3 a0 a2 fun v2 =>
aI h.length K [] [v2] h)
(aI h.length K [] [(Value.bool false)] h)) := aT pok44 ct44 (by kernel_rfl)
theorem g44 (hJ : Closed prog main J) {a0 a1 a2 : Value} (hs : aD h → W prog J 15 h.length 44 (codeOf f44) (RG.mk (ax [a0,a1,a2]) []) h (aq prog [.tmp 6] h.length K)) : Good prog J 44 [a0,a1,a2] h K :=
 az hJ mixed at44 body44 (by kernel_rfl) (Nat.le_of_ble_eq_true rfl) hs
theorem at27 : prog.funcs[27]? = some f27 := by kernel_rfl
theorem body27 : f27.body = some (codeOf f27) := by kernel_rfl
def pl27 : bj := []
def ct27 : bB := .bin (.go) (.bin (.bin (.go) (.cut (.go))) (.go))
theorem pok27 : aC prog pl27 (codeOf f27) = true := by kernel_rfl
abbrev w27 (J : JT) (n0 : Nat) (p : List Nat) (f : RG) (h : List af) (l : List (RG → List af → Prop)) (K : Value → List af → Prop) : Prop := W prog J 37 n0 27 (aw p (codeOf f27)) f h (aA pl27 prog J 37 n0 27 ct27 p (codeOf f27) l (aq prog [.tmp 2] n0 K))
theorem e27 {a0 : Value} : W prog J 37 h.length 27 (codeOf f27) (RG.mk (ax [a0]) []) h (aq prog [.tmp 2] h.length K) =
(cq a0 h fun v1 h2 =>
aL v1 1 fun v3 =>
ai false 1 v3 h2 fun v4 =>
Good prog J 44 [v4,(ab 1),(ab 99)] h2 fun v5 h6 =>
cnd v5
(aL v1 0 fun v7 =>
ai false 1 v7 h6 fun v8 =>
aL v1 1 fun v9 =>
ai false 1 v9 h6 fun v10 =>
Good prog J 44 [v8,(ab 0),v10] h6 fun v11 h12 =>
cnd v11
(aL v1 2 fun v13 =>
ai false 1 v13 h12 fun v14 =>
Good prog J 44 [v14,(ab 0),(ab 9)] h12 fun v15 h16 =>
cnd v15
(aL v1 3 fun v17 =>
ai false 1 v17 h16 fun v18 =>
aL v1 2 fun v19 =>
ai false 1 v19 h16 fun v20 =>
Good prog J 44 [v18,v20,(ab 9)] h16 fun v21 h22 =>
cnd v21
(aL v1 4 fun v23 =>
ai false 1 v23 h22 fun v24 =>
aL v1 1 fun v25 =>
ai false 1 v25 h22 fun v26 =>
Good prog J 44 [v24,(ab 0),v26] h22 fun v27 h28 =>
cnd v27
(aL v1 5 fun v29 =>
ai false 1 v29 h28 fun v30 =>
Good prog J 44 [v30,(ab 0),(ab 5)] h28 fun v31 h32 =>
bh (w27 J h.length [1,0,1] ((((((((((((((((((((((((((((((((((((((((((RG.mk (ax [a0]) []).p 1 v1).p 2 (ab 0)).p 3 v3).p 4 v4).p 5 v5).p 6 v5).p 6 (Value.bool true)).p 7 v7).p 8 v8).p 9 v9).p 10 v10).p 11 v11).p 12 v11).p 13 v11).p 13 (Value.bool true)).p 14 v13).p 15 v14).p 16 v15).p 17 v15).p 18 v15).p 18 (Value.bool true)).p 19 v17).p 20 v18).p 21 v19).p 22 v20).p 23 v21).p 24 v21).p 25 v21).p 25 (Value.bool true)).p 26 v23).p 27 v24).p 28 v25).p 29 v26).p 30 v27).p 31 v27).p 32 v27).p 32 (Value.bool true)).p 33 v29).p 34 v30).p 35 v31).p 36 v31) h32 [] K))
(bh (w27 J h.length [1,0,1] ((((((((((((((((((((((((((((((((((((((((((RG.mk (ax [a0]) []).p 1 v1).p 2 (ab 0)).p 3 v3).p 4 v4).p 5 v5).p 6 v5).p 6 (Value.bool true)).p 7 v7).p 8 v8).p 9 v9).p 10 v10).p 11 v11).p 12 v11).p 13 v11).p 13 (Value.bool true)).p 14 v13).p 15 v14).p 16 v15).p 17 v15).p 18 v15).p 18 (Value.bool true)).p 19 v17).p 20 v18).p 21 v19).p 22 v20).p 23 v21).p 24 v21).p 25 v21).p 25 (Value.bool true)).p 26 v23).p 27 v24).p 28 v25).p 29 v26).p 30 v27).p 31 v27).p 32 v27).p 32 (Value.bool false)).p 33 undef).p 34 undef).p 35 undef).p 36 (Value.bool false)) h28 [] K)))
(bh (w27 J h.length [1,0,1] ((((((((((((((((((((((((((((((((((((((((((RG.mk (ax [a0]) []).p 1 v1).p 2 (ab 0)).p 3 v3).p 4 v4).p 5 v5).p 6 v5).p 6 (Value.bool true)).p 7 v7).p 8 v8).p 9 v9).p 10 v10).p 11 v11).p 12 v11).p 13 v11).p 13 (Value.bool true)).p 14 v13).p 15 v14).p 16 v15).p 17 v15).p 18 v15).p 18 (Value.bool true)).p 19 v17).p 20 v18).p 21 v19).p 22 v20).p 23 v21).p 24 v21).p 25 v21).p 25 (Value.bool false)).p 26 undef).p 27 undef).p 28 undef).p 29 undef).p 30 undef).p 31 (Value.bool false)).p 32 (Value.bool false)).p 32 (Value.bool false)).p 33 undef).p 34 undef).p 35 undef).p 36 (Value.bool false)) h22 [] K)))
(bh (w27 J h.length [1,0,1] ((((((((((((((((((((((((((((((((((((((((((RG.mk (ax [a0]) []).p 1 v1).p 2 (ab 0)).p 3 v3).p 4 v4).p 5 v5).p 6 v5).p 6 (Value.bool true)).p 7 v7).p 8 v8).p 9 v9).p 10 v10).p 11 v11).p 12 v11).p 13 v11).p 13 (Value.bool true)).p 14 v13).p 15 v14).p 16 v15).p 17 v15).p 18 v15).p 18 (Value.bool false)).p 19 undef).p 20 undef).p 21 undef).p 22 undef).p 23 undef).p 24 (Value.bool false)).p 25 (Value.bool false)).p 25 (Value.bool false)).p 26 undef).p 27 undef).p 28 undef).p 29 undef).p 30 undef).p 31 (Value.bool false)).p 32 (Value.bool false)).p 32 (Value.bool false)).p 33 undef).p 34 undef).p 35 undef).p 36 (Value.bool false)) h16 [] K)))
(bh (w27 J h.length [1,0,1] ((((((((((((((((((((((((((((((((((((((((((RG.mk (ax [a0]) []).p 1 v1).p 2 (ab 0)).p 3 v3).p 4 v4).p 5 v5).p 6 v5).p 6 (Value.bool true)).p 7 v7).p 8 v8).p 9 v9).p 10 v10).p 11 v11).p 12 v11).p 13 v11).p 13 (Value.bool false)).p 14 undef).p 15 undef).p 16 undef).p 17 (Value.bool false)).p 18 (Value.bool false)).p 18 (Value.bool false)).p 19 undef).p 20 undef).p 21 undef).p 22 undef).p 23 undef).p 24 (Value.bool false)).p 25 (Value.bool false)).p 25 (Value.bool false)).p 26 undef).p 27 undef).p 28 undef).p 29 undef).p 30 undef).p 31 (Value.bool false)).p 32 (Value.bool false)).p 32 (Value.bool false)).p 33 undef).p 34 undef).p 35 undef).p 36 (Value.bool false)) h12 [] K)))
(bh (w27 J h.length [1,0,1] ((((((((((((((((((((((((((((((((((((((((((RG.mk (ax [a0]) []).p 1 v1).p 2 (ab 0)).p 3 v3).p 4 v4).p 5 v5).p 6 v5).p 6 (Value.bool false)).p 7 undef).p 8 undef).p 9 undef).p 10 undef).p 11 undef).p 12 (Value.bool false)).p 13 (Value.bool false)).p 13 (Value.bool false)).p 14 undef).p 15 undef).p 16 undef).p 17 (Value.bool false)).p 18 (Value.bool false)).p 18 (Value.bool false)).p 19 undef).p 20 undef).p 21 undef).p 22 undef).p 23 undef).p 24 (Value.bool false)).p 25 (Value.bool false)).p 25 (Value.bool false)).p 26 undef).p 27 undef).p 28 undef).p 29 undef).p 30 undef).p 31 (Value.bool false)).p 32 (Value.bool false)).p 32 (Value.bool false)).p 33 undef).p 34 undef).p 35 undef).p 36 (Value.bool false)) h6 [] K))) := aT pok27 ct27 (by kernel_rfl)
theorem g27 (hJ : Closed prog main J) {a0 : Value} (hs : aD h → W prog J 37 h.length 27 (codeOf f27) (RG.mk (ax [a0]) []) h (aq prog [.tmp 2] h.length K)) : Good prog J 27 [a0] h K :=
 az hJ mixed at27 body27 (by kernel_rfl) (Nat.le_of_ble_eq_true rfl) hs
theorem s27_1 {f : RG} : w27 J n0 [1,0,1] f h [] K =
(cnd (f.r 36)
(aI n0 K f.ds [(ab 0)] h)
(aI n0 K f.ds [(ab 1)] h)) := sub_eq pok27 ct27 (by kernel_rfl)
theorem at28 : prog.funcs[28]? = some f28 := by kernel_rfl
theorem body28 : f28.body = some (codeOf f28) := by kernel_rfl
def pl28 : bj := []
def ct28 : bB := .bin (.go) (.bin (.bin (.go) (.cut (.go))) (.go))
theorem pok28 : aC prog pl28 (codeOf f28) = true := by kernel_rfl
abbrev w28 (J : JT) (n0 : Nat) (p : List Nat) (f : RG) (h : List af) (l : List (RG → List af → Prop)) (K : Value → List af → Prop) : Prop := W prog J 20 n0 28 (aw p (codeOf f28)) f h (aA pl28 prog J 20 n0 28 ct28 p (codeOf f28) l (aq prog [.tmp 2] n0 K))
theorem e28 {a0 : Value} : W prog J 20 h.length 28 (codeOf f28) (RG.mk (ax [a0]) []) h (aq prog [.tmp 2] h.length K) =
(cq a0 h fun v1 h2 =>
aL v1 0 fun v3 =>
ai false 1 v3 h2 fun v4 =>
Good prog J 44 [v4,(ab 1),(ab 8)] h2 fun v5 h6 =>
cnd v5
(aL v1 1 fun v7 =>
ai false 1 v7 h6 fun v8 =>
aL v1 0 fun v9 =>
ai false 1 v9 h6 fun v10 =>
Good prog J 44 [v8,(ab 1),v10] h6 fun v11 h12 =>
cnd v11
(aL v1 2 fun v13 =>
ai false 1 v13 h12 fun v14 =>
aL v1 0 fun v15 =>
ai false 1 v15 h12 fun v16 =>
Good prog J 44 [v14,(ab 1),v16] h12 fun v17 h18 =>
bh (w28 J h.length [1,0,1] ((((((((((((((((((((((RG.mk (ax [a0]) []).p 1 v1).p 2 (ab 0)).p 3 v3).p 4 v4).p 5 v5).p 6 v5).p 6 (Value.bool true)).p 7 v7).p 8 v8).p 9 v9).p 10 v10).p 11 v11).p 12 v11).p 13 v11).p 13 (Value.bool true)).p 14 v13).p 15 v14).p 16 v15).p 17 v16).p 18 v17).p 19 v17) h18 [] K))
(bh (w28 J h.length [1,0,1] ((((((((((((((((((((((RG.mk (ax [a0]) []).p 1 v1).p 2 (ab 0)).p 3 v3).p 4 v4).p 5 v5).p 6 v5).p 6 (Value.bool true)).p 7 v7).p 8 v8).p 9 v9).p 10 v10).p 11 v11).p 12 v11).p 13 v11).p 13 (Value.bool false)).p 14 undef).p 15 undef).p 16 undef).p 17 undef).p 18 undef).p 19 (Value.bool false)) h12 [] K)))
(bh (w28 J h.length [1,0,1] ((((((((((((((((((((((RG.mk (ax [a0]) []).p 1 v1).p 2 (ab 0)).p 3 v3).p 4 v4).p 5 v5).p 6 v5).p 6 (Value.bool false)).p 7 undef).p 8 undef).p 9 undef).p 10 undef).p 11 undef).p 12 (Value.bool false)).p 13 (Value.bool false)).p 13 (Value.bool false)).p 14 undef).p 15 undef).p 16 undef).p 17 undef).p 18 undef).p 19 (Value.bool false)) h6 [] K))) := aT pok28 ct28 (by kernel_rfl)
theorem g28 (hJ : Closed prog main J) {a0 : Value} (hs : aD h → W prog J 20 h.length 28 (codeOf f28) (RG.mk (ax [a0]) []) h (aq prog [.tmp 2] h.length K)) : Good prog J 28 [a0] h K :=
 az hJ mixed at28 body28 (by kernel_rfl) (Nat.le_of_ble_eq_true rfl) hs
theorem s28_1 {f : RG} : w28 J n0 [1,0,1] f h [] K =
(cnd (f.r 19)
(aI n0 K f.ds [(ab 0)] h)
(aI n0 K f.ds [(ab 1)] h)) := sub_eq pok28 ct28 (by kernel_rfl)
theorem at46 : prog.funcs[46]? = some f46 := by kernel_rfl
theorem body46 : f46.body = some (codeOf f46) := by kernel_rfl
def pl46 : bj := []
def ct46 : bB := .go
theorem pok46 : aC prog pl46 (codeOf f46) = true := by kernel_rfl
theorem e46 {a0 a1 a2 : Value} : W prog J 15 h.length 46 (codeOf f46) (RG.mk (ax [a0,a1,a2]) []) h (aq prog [.tmp 6] h.length K) =
(aj prog .lss 3 a0 a1 fun v1 =>
cnd v1
(aI h.length K [] [(ab 7)] h)
(aj prog .gtr 3 a0 a2 fun v2 =>
cnd v2
(aI h.length K [] [(ab 6)] h)
(aI h.length K [] [(ab 0)] h))) := aT pok46 ct46 (by kernel_rfl)
theorem g46 (hJ : Closed prog main J) {a0 a1 a2 : Value} (hs : aD h → W prog J 15 h.length 46 (codeOf f46) (RG.mk (ax [a0,a1,a2]) []) h (aq prog [.tmp 6] h.length K)) : Good prog J 46 [a0,a1,a2] h K :=
 az hJ mixed at46 body46 (by kernel_rfl) (Nat.le_of_ble_eq_true rfl) hs
theorem at26 : prog.funcs[26]? = some f26 := by kernel_rfl
theorem body26 : f26.body = some (codeOf f26) := by kernel_rfl
def pl26 : bj := []
def ct26 : bB := .go
theorem pok26 : aC prog pl26 (codeOf f26) = true := by kernel_rfl
theorem e26 {a0 : Value} : W prog J 15 h.length 26 (codeOf f26) (RG.mk (ax [a0]) []) h (aq prog [.tmp 2] h.length K) =
(b0 a0 fun v1 =>
Sem J 15 h.length 26 (aw [1,0,1,0] (codeOf f26)) (((((RG.mk (ax [a0]) []).p 2 (ab 0)).p 5 a0).p 6 v1).p 7 (ab 0)) h (aA pl26 prog J 15 h.length 26 ct26 [1,0,1,0] (codeOf f26) [] (aq prog [.tmp 2] h.length K))) := aT pok26 ct26 (by kernel_rfl)
theorem g26 (hJ : Closed prog main J) {a0 : Value} (hs : aD h → W prog J 15 h.length 26 (codeOf f26) (RG.mk (ax [a0]) []) h (aq prog [.tmp 2] h.length K)) : Good prog J 26 [a0] h K :=
 az hJ mixed at26 body26 (by kernel_rfl) (Nat.le_of_ble_eq_true rfl) hs
theorem s26_1 {f : RG} {nx0 : RG → List af → Prop} : W prog J 15 n0 26 (aw [1,0,1,0,0] (codeOf f26)) f h (bc nx0 (aA pl26 prog J 15 n0 26 ct26 [1,0,1,0] (codeOf f26) [] (aq prog [.tmp 2] n0 K))) =
(aj prog .lss 3 (f.r 7) (f.r 6) fun v1 =>
cnd v1
(bT 1 (f.r 5) (f.r 7) fun v2 =>
ai false 1 v2 h fun v3 =>
aj prog .neq 35 v3 (ab 0) fun v4 =>
cnd v4
(aI n0 K f.ds [v3] h)
(aj prog .add 3 (f.r 7) (ab 1) fun v5 =>
nx0 ((((((((f.p 8 v1).p 9 v2).p 10 v3).p 4 v3).p 11 v3).p 12 v4).p 14 v5).p 7 v5) h))
(aI n0 K f.ds [(ab 0)] h)) := sub_eq pok26 ct26 (by kernel_rfl)
theorem l26_1 (hJ : Closed prog main J) {S : Type} (μ : S → Nat) (I : S → RG → List af → Prop) (hI : ∀ s f h,I s f h → aD h → n0 ≤ h.length → W prog J 15 n0 26 (aw [1,0,1,0,0] (codeOf f26)) f h (bc (Nx n0 μ I s) (aA pl26 prog J 15 n0 26 ct26 [1,0,1,0] (codeOf f26) [] (aq prog [.tmp 2] n0 K))))
 {s : S} {f : RG} (hi : dJ n0 I s f h) : Sem J 15 n0 26 (aw [1,0,1,0] (codeOf f26)) f h (aA pl26 prog J 15 n0 26 ct26 [1,0,1,0] (codeOf f26) [] (aq prog [.tmp 2] n0 K)) :=
 bn hJ mixed (b := aw [1,0,1,0,0] (codeOf f26)) (by kernel_rfl) μ I hI hi
theorem at67 : prog.funcs[67]? = some f67 := by kernel_rfl
theorem body67 : f67.body = some (codeOf f67) := by kernel_rfl
def pl67 : bj := []
def ct67 : bB := .go
theorem pok67 : aC prog pl67 (codeOf f67) = true := by kernel_rfl
theorem e67 {a0 a1 : Value} : W prog J 26 h.length 67 (codeOf f67) (RG.mk (ax [a0,a1]) []) h (aq prog [.tmp 4] h.length K) =
(b0 a0 fun v1 =>
Good prog J 46 [v1,a1,a1] h fun v2 h3 =>
aj prog .neq 35 v2 (ab 0) fun v4 =>
cnd v4
(aI h.length K [] [v2] h3)
(b0 a0 fun v5 =>
Sem J 26 h.length 67 (aw yp0 (codeOf f67)) (((((((((((((RG.mk (ax [a0,a1]) []).p 4 (ab 0)).p 8 a0).p 9 v1).p 10 a1).p 11 a1).p 12 v2).p 5 v2).p 13 v2).p 14 v4).p 16 a0).p 17 v5).p 18 (ab 0)) h3 (aA pl67 prog J 26 h.length 67 ct67 yp0 (codeOf f67) [] (aq prog [.tmp 4] h.length K)))) := aT pok67 ct67 (by kernel_rfl)
theorem g67 (hJ : Closed prog main J) {a0 a1 : Value} (hs : aD h → W prog J 26 h.length 67 (codeOf f67) (RG.mk (ax [a0,a1]) []) h (aq prog [.tmp 4] h.length K)) : Good prog J 67 [a0,a1] h K :=
 az hJ mixed at67 body67 (by kernel_rfl) (Nat.le_of_ble_eq_true rfl) hs
theorem s67_1 {f : RG} {nx0 : RG → List af → Prop} : W prog J 26 n0 67 (aw yp2 (codeOf f67)) f h (bc nx0 (aA pl67 prog J 26 n0 67 ct67 yp0 (codeOf f67) [] (aq prog [.tmp 4] n0 K))) =
(aj prog .lss 3 (f.r 18) (f.r 17) fun v1 =>
cnd v1
(bT 1 (f.r 16) (f.r 18) fun v2 =>
ai false 1 v2 h fun v3 =>
Good prog J 44 [v3,(ab 0),(ab 40)] h fun v4 h5 =>
aUn .not v4 fun v6 =>
cnd v6
(aI n0 K f.ds [(ab 1)] h5)
(aj prog .add 3 (f.r 18) (ab 1) fun v7 =>
nx0 (((((((((f.p 19 v1).p 20 v2).p 21 v3).p 7 v3).p 22 v3).p 23 v4).p 24 v6).p 25 v7).p 18 v7) h5))
(aI n0 K f.ds [(ab 0)] h)) := sub_eq pok67 ct67 (by kernel_rfl)
theorem l67_1 (hJ : Closed prog main J) {S : Type} (μ : S → Nat) (I : S → RG → List af → Prop) (hI : ∀ s f h,I s f h → aD h → n0 ≤ h.length → W prog J 26 n0 67 (aw yp2 (codeOf f67)) f h (bc (Nx n0 μ I s) (aA pl67 prog J 26 n0 67 ct67 yp0 (codeOf f67) [] (aq prog [.tmp 4] n0 K))))
 {s : S} {f : RG} (hi : dJ n0 I s f h) : Sem J 26 n0 67 (aw yp0 (codeOf f67)) f h (aA pl67 prog J 26 n0 67 ct67 yp0 (codeOf f67) [] (aq prog [.tmp 4] n0 K)) :=
 bn hJ mixed (b := aw yp2 (codeOf f67)) (by kernel_rfl) μ I hI hi
theorem at68 : prog.funcs[68]? = some f68 := by kernel_rfl
theorem body68 : f68.body = some (codeOf f68) := by kernel_rfl
def pl68 : bj := []
def ct68 : bB := .go
theorem pok68 : aC prog pl68 (codeOf f68) = true := by kernel_rfl
theorem e68 {a0 : Value} : W prog J 9 h.length 68 (codeOf f68) (RG.mk (ax [a0]) []) h (aq prog [.tmp 2] h.length K) =
(cq a0 h fun v1 h2 =>
ai true 6 v1 h2 fun v3 =>
aL v1 0 fun v4 =>
ai false 1 v4 h2 fun v5 =>
aH [(ab 0),(ab 0)] [(0,1,v5)] fun c6 =>
aH [(ab 0),(ab 0),(ab 0),(ab 0),(ab 0),(ab 0),(ab 0),(ab 0)] [(0,6,v3),(6,2,(Value.agg ⟨c6⟩))] fun c7 =>
cq (Value.agg ⟨c7⟩) h2 fun v8 h9 =>
aI h.length K [] [v8] h9) := aT pok68 ct68 (by kernel_rfl)
theorem g68 (hJ : Closed prog main J) {a0 : Value} (hs : aD h → W prog J 9 h.length 68 (codeOf f68) (RG.mk (ax [a0]) []) h (aq prog [.tmp 2] h.length K)) : Good prog J 68 [a0] h K :=
 az hJ mixed at68 body68 (by kernel_rfl) (Nat.le_of_ble_eq_true rfl) hs
theorem at69 : prog.funcs[69]? = some f69 := by kernel_rfl
theorem body69 : f69.body = some (codeOf f69) := by kernel_rfl
def pl69 : bj := [(2,true,.take 0 (.take 1 (.take 2 (.take 3 (.take 4 (.take 5 (.take 6 (.take 7 (.take 8 (.take 9 (.take 10 (.take 11 (.take 12 (.take 13 (.take 14 (.take 15 (.last 16 false (.fin)))))))))))))))))),
 (3,true,.take 0 (.take 1 (.take 2 (.take 3 (.take 4 (.take 5 (.take 6 (.take 7 (.take 8 (.take 9 (.take 10 (.take 11 (.take 12 (.take 13 (.take 14 (.take 15 (.fin))))))))))))))))),
 (10,true,.take 0 (.take 1 (.take 2 (.take 3 (.take 4 (.take 5 (.take 6 (.take 7 (.take 8 (.take 9 (.take 10 (.take 11 (.take 12 (.take 13 (.take 14 (.take 15 (.take 16 (.take 17 (.take 18 (.take 19 (.take 20 (.last 21 false (.fin))))))))))))))))))))))),
 (4,true,.take 0 (.take 1 (.take 2 (.take 3 (.take 4 (.take 5 (.take 6 (.take 7 (.take 8 (.take 9 (.take 10 (.take 11 (.take 12 (.take 13 (.take 14 (.take 15 (.take 16 (.take 17 (.take 18 (.take 19 (.take 20 (.last 21 false (.fin)))))))))))))))))))))))]
def ct69 : bB := .bin (.go) (.bin (.go) (.bin (.go) (.bin (.go) (.cut (.go)))))
theorem pok69 : aC prog pl69 (codeOf f69) = true := by kernel_rfl
abbrev w69 (J : JT) (n0 : Nat) (p : List Nat) (f : RG) (h : List af) (l : List (RG → List af → Prop)) (K : Value → List af → Prop) : Prop := W prog J 119 n0 69 (aw p (codeOf f69)) f h (aA pl69 prog J 119 n0 69 ct69 p (codeOf f69) l (aq prog [.tmp 6,.tmp 7] n0 K))
theorem e69 {a0 a1 a2 : Value} : W prog J 119 h.length 69 (codeOf f69) (RG.mk (ax [a0,a1,a2]) []) h (aq prog [.tmp 6,.tmp 7] h.length K) =
(cJ a0 fun v1 =>
aL v1 6 fun v2 =>
aL v2 0 fun v3 =>
ai false 1 v3 h fun v4 =>
aj prog .gtr 3 a1 v4 fun v5 =>
cJ a0 fun v6 =>
aL v6 6 fun v7 =>
aL v7 0 fun v8 =>
ai false 1 v8 h fun v9 =>
cJ a0 fun v10 =>
aL v10 6 fun v11 =>
aL v11 0 fun v12 =>
ai false 1 v12 h fun v13 =>
aMin a1 [v13] fun v14 =>
aj prog .sub 3 v9 v14 fun v15 =>
cJ a0 fun v16 =>
aL v16 6 fun v17 =>
aL v17 0 fun v18 =>
aB 1 v18 v15 h fun h19 =>
aj prog .gtr 3 a1 (ab 0) fun v20 =>
cnd v20
(cJ a0 fun v21 =>
aL v21 6 fun v22 =>
aL v22 0 fun v23 =>
ai false 1 v23 h19 fun v24 =>
cJ a0 fun v25 =>
aL v25 0 fun v26 =>
aL v26 4 fun v27 =>
ai false 1 v27 h19 fun v28 =>
aj prog .lss 3 v24 v28 fun v29 =>
bh (w69 J h.length [1,1,1,1] ((((((((((((((((((((((((((((((((((((((((((((RG.mk (ax [a0,a1,a2]) []).p 6 (Value.bool false)).p 7 (Value.bool false)).p 8 a1).p 9 a0).p 10 v1).p 11 v2).p 12 v3).p 13 v4).p 14 v5).p 6 v5).p 15 a0).p 16 v6).p 17 v7).p 18 v8).p 19 v9).p 20 a1).p 21 a0).p 22 v10).p 23 v11).p 24 v12).p 25 v13).p 26 v14).p 27 v15).p 28 v16).p 29 v17).p 30 v18).p 31 a1).p 32 v20).p 33 v20).p 33 (Value.bool true)).p 34 a0).p 35 v21).p 36 v22).p 37 v23).p 38 v24).p 39 a0).p 40 v25).p 41 v26).p 42 v27).p 43 v28).p 44 v29).p 45 v29).p 7 v29) h19 [] K))
(bh (w69 J h.length [1,1,1,1] ((((((((((((((((((((((((((((((((((((((((((((RG.mk (ax [a0,a1,a2]) []).p 6 (Value.bool false)).p 7 (Value.bool false)).p 8 a1).p 9 a0).p 10 v1).p 11 v2).p 12 v3).p 13 v4).p 14 v5).p 6 v5).p 15 a0).p 16 v6).p 17 v7).p 18 v8).p 19 v9).p 20 a1).p 21 a0).p 22 v10).p 23 v11).p 24 v12).p 25 v13).p 26 v14).p 27 v15).p 28 v16).p 29 v17).p 30 v18).p 31 a1).p 32 v20).p 33 v20).p 33 (Value.bool false)).p 34 undef).p 35 undef).p 36 undef).p 37 undef).p 38 undef).p 39 undef).p 40 undef).p 41 undef).p 42 undef).p 43 undef).p 44 undef).p 45 (Value.bool false)).p 7 (Value.bool false)) h19 [] K))) := aT pok69 ct69 (by kernel_rfl)
theorem g69 (hJ : Closed prog main J) {a0 a1 a2 : Value} (hs : aD h → W prog J 119 h.length 69 (codeOf f69) (RG.mk (ax [a0,a1,a2]) []) h (aq prog [.tmp 6,.tmp 7] h.length K)) : Good prog J 69 [a0,a1,a2] h K :=
 az hJ mixed at69 body69 (by kernel_rfl) (Nat.le_of_ble_eq_true rfl) hs
theorem s69_1 {f : RG} : w69 J n0 [1,1,1,1] f h [] K =
(cnd (f.r 7)
(cJ (f.r 0) fun v1 =>
aL v1 0 fun v2 =>
aL v2 5 fun v3 =>
ai false 1 v3 h fun v4 =>
cJ (f.r 0) fun v5 =>
aL v5 6 fun v6 =>
aL v6 1 fun v7 =>
aB 1 v7 v4 h fun h8 =>
aI n0 K f.ds [(f.r 6),(f.r 7)] h8)
(cJ (f.r 0) fun v9 =>
aL v9 6 fun v10 =>
aL v10 1 fun v11 =>
ai false 1 v11 h fun v12 =>
aj prog .gtr 3 v12 (ab 0) fun v13 =>
cnd v13
(cJ (f.r 0) fun v14 =>
aL v14 6 fun v15 =>
aL v15 1 fun v16 =>
ai false 1 v16 h fun v17 =>
aj prog .sub 3 v17 (ab 1) fun v18 =>
cJ (f.r 0) fun v19 =>
aL v19 6 fun v20 =>
aL v20 1 fun v21 =>
aB 1 v21 v18 h fun h22 =>
aI n0 K f.ds [(f.r 6),(f.r 7)] h22)
(cnd (f.r 2)
(cJ (f.r 0) fun v23 =>
aL v23 0 fun v24 =>
aL v24 1 fun v25 =>
ai false 1 v25 h fun v26 =>
cJ (f.r 0) fun v27 =>
aL v27 6 fun v28 =>
aL v28 0 fun v29 =>
ai false 1 v29 h fun v30 =>
cJ (f.r 0) fun v31 =>
aL v31 0 fun v32 =>
aL v32 3 fun v33 =>
ai false 1 v33 h fun v34 =>
aj prog .add 3 v30 v34 fun v35 =>
aMin v26 [v35] fun v36 =>
cJ (f.r 0) fun v37 =>
aL v37 6 fun v38 =>
aL v38 0 fun v39 =>
aB 1 v39 v36 h fun h40 =>
aI n0 K f.ds [(f.r 6),(f.r 7)] h40)
(cJ (f.r 0) fun v41 =>
aL v41 0 fun v42 =>
aL v42 1 fun v43 =>
ai false 1 v43 h fun v44 =>
cJ (f.r 0) fun v45 =>
aL v45 6 fun v46 =>
aL v46 0 fun v47 =>
ai false 1 v47 h fun v48 =>
cJ (f.r 0) fun v49 =>
aL v49 0 fun v50 =>
aL v50 2 fun v51 =>
ai false 1 v51 h fun v52 =>
aj prog .add 3 v48 v52 fun v53 =>
aMin v44 [v53] fun v54 =>
cJ (f.r 0) fun v55 =>
aL v55 6 fun v56 =>
aL v56 0 fun v57 =>
aB 1 v57 v54 h fun h58 =>
aI n0 K f.ds [(f.r 6),(f.r 7)] h58)))) := sub_eq pok69 ct69 (by kernel_rfl)
theorem at74 : prog.funcs[74]? = some f74 := by kernel_rfl
theorem body74 : f74.body = some (codeOf f74) := by kernel_rfl
def pl74 : bj := [(6,false,.take 0 (.take 1 (.take 2 (.take 3 (.take 4 (.take 5 (.take 6 (.take 7 (.take 8 (.last 9 true (.take 10 (.fin))))))))))))]
def ct74 : bB := .bin (.go) (.bin (.go) (.bin (.go) (.bin (.go) (.cut (.go)))))
theorem pok74 : aC prog pl74 (codeOf f74) = true := by kernel_rfl
abbrev w74 (J : JT) (n0 : Nat) (p : List Nat) (f : RG) (h : List af) (l : List (RG → List af → Prop)) (K : Value → List af → Prop) : Prop := W prog J 30 n0 74 (aw p (codeOf f74)) f h (aA pl74 prog J 30 n0 74 ct74 p (codeOf f74) l (aq prog [.cell 6 116,.tmp 7] n0 K))
theorem e74 {a0 a1 a2 : Value} : W prog J 30 h.length 74 (codeOf f74) (RG.mk (ax [a0,a1,a2]) []) h (aq prog [.cell 6 116,.tmp 7] h.length K) =
(cq a0 h fun v1 h2 =>
cq a1 h2 fun v3 h4 =>
bo [(Value.int .u8 0),(ab 0)] h4 fun v5 h6 =>
aL v1 0 fun v7 =>
ai false 1 v7 h6 fun v8 =>
aj prog .neq 5 v8 a2 fun v9 =>
cnd v9
(aH [(Value.int .u8 0),(ab 0)] [(0,1,a2),(1,1,(ab 1))] fun c10 =>
aB 2 v5 (Value.agg ⟨c10⟩) h6 fun h11 =>
aq prog [.cell 6 116,.tmp 7] h.length K .ret ((((((((((((RG.mk (ax [a0,a1,a2]) []).p 3 v1).p 4 v3).p 6 v5).p 7 (Value.bool false)).p 9 v7).p 10 v8).p 11 a2).p 12 v9).p 13 a2).p 14 (Value.agg ⟨c10⟩)).p 7 (Value.bool true)) h11)
(aL v3 1 fun v12 =>
ai false 1 v12 h6 fun v13 =>
aj prog .eql 5 a2 (Value.int .u8 119) fun v14 =>
cnd v14
(aL v3 2 fun v15 =>
ai false 1 v15 h6 fun v16 =>
bh (w74 J h.length [1,1,1,1] (((((((((((((((((RG.mk (ax [a0,a1,a2]) []).p 3 v1).p 4 v3).p 6 v5).p 7 (Value.bool false)).p 9 v7).p 10 v8).p 11 a2).p 12 v9).p 15 v12).p 16 v13).p 8 v13).p 17 a2).p 18 v14).p 19 v15).p 20 v16).p 8 v16) h6 [] K))
(bh (w74 J h.length [1,1,1,1] ((((((((((((((RG.mk (ax [a0,a1,a2]) []).p 3 v1).p 4 v3).p 6 v5).p 7 (Value.bool false)).p 9 v7).p 10 v8).p 11 a2).p 12 v9).p 15 v12).p 16 v13).p 8 v13).p 17 a2).p 18 v14) h6 [] K)))) := aT pok74 ct74 (by kernel_rfl)
theorem g74 (hJ : Closed prog main J) {a0 a1 a2 : Value} (hs : aD h → W prog J 30 h.length 74 (codeOf f74) (RG.mk (ax [a0,a1,a2]) []) h (aq prog [.cell 6 116,.tmp 7] h.length K)) : Good prog J 74 [a0,a1,a2] h K :=
 az hJ mixed at74 body74 (by kernel_rfl) (Nat.le_of_ble_eq_true rfl) hs
theorem s74_1 {f : RG} : w74 J n0 [1,1,1,1] f h [] K =
((∃ B,aL (f.r 3) 1 fun v1 =>
ai false 1 v1 h fun v2 =>
aR (some B) (au v1) ∧ (aj prog .add 3 v2 (ab 1) fun v3 =>
aH [(Value.int .u8 0),(ab 0)] [(0,1,(f.r 2)),(1,1,v3)] fun c4 =>
aL (f.r 3) 1 fun v5 =>
ai false 1 v5 h fun v6 =>
aR (some B) (au v5) ∧ (aj prog .lss 3 v6 (f.r 8) fun v7 =>
aB 2 (f.r 6) (Value.agg ⟨c4⟩) h fun h8 =>
aG (some B) h h8 ∧ (aq prog [.cell 6 116,.tmp 7] n0 K .ret ((((((((((f.p 21 (f.r 2)).p 22 v1).p 23 v2).p 24 v3).p 25 (Value.agg ⟨c4⟩)).p 26 v5).p 27 v6).p 28 (f.r 8)).p 29 v7).p 7 v7) h8))))) := sub_eq pok74 ct74 (by kernel_rfl)
end
end Go.Proofs.YtlhanfcgdfjhjaaGreatDoor
namespace Go.Proofs.YtlhanfcgdfjhjaaGreatDoor
open Go.Conc
section
variable {P : Program} {t : TypeId} {K : Value → Prop} {H : Value → List af → Prop} {k : IntKind} {a b : Int} {p : Prop} [Decidable p] {A B : Prop} {h : List af}
theorem cnd_dec : cnd (.bool (decide p)) A B ↔ (p → A) ∧ (¬p → B) := by by_cases h : p <;> simp [cnd,h]
theorem cnd_ndec : cnd (.bool (!decide p)) A B ↔ (¬p → A) ∧ (p → B) := by by_cases h : p <;> simp [cnd,h]
theorem bm : cnd (.bool true) A B ↔ A := by simp [cnd]
theorem aP : cnd (.bool false) A B ↔ B := by simp [cnd]
theorem b_lss : aj P .lss t (.int k a) (.int k b) K = K (.bool (decide (a < b))) := by simp [aj,aInt]
theorem b_leq : aj P .leq t (.int k a) (.int k b) K = K (.bool (decide (a ≤ b))) := by simp [aj,aInt]
theorem b_gtr : aj P .gtr t (.int k a) (.int k b) K = K (.bool (decide (a > b))) := by simp [aj,aInt]
theorem b_geq : aj P .geq t (.int k a) (.int k b) K = K (.bool (decide (a ≥ b))) := by simp [aj,aInt]
theorem b_eql : aj P .eql t (.int k a) (.int k b) K = K (.bool (decide (a = b))) := by simp [aj,aInt]; rfl
theorem b_neq : aj P .neq t (.int k a) (.int k b) K = K (.bool (decide (a ≠ b))) := by simp [aj,aInt]; rfl
theorem wrap64 {n : Int} (h1 : -9223372036854775808 ≤ n) (h2 : n < 9223372036854775808) : IntKind.i64.wrap n = n := by
 simp only [IntKind.wrap,IntKind.bits,IntKind.signed]
 simp
 split <;> omega
theorem b_add (h : -9223372036854775808 ≤ a + b ∧ a + b < 9223372036854775808) : aj P .add t (ab a) (ab b) K = K (ab (a + b)) := by simp [aj,aInt,ab,wrap64 h.1 h.2]
theorem b_sub (h : -9223372036854775808 ≤ a - b ∧ a - b < 9223372036854775808) : aj P .sub t (ab a) (ab b) K = K (ab (a - b)) := by simp [aj,aInt,ab,wrap64 h.1 h.2]
theorem b_mul (h : -9223372036854775808 ≤ a * b ∧ a * b < 9223372036854775808) : aj P .mul t (ab a) (ab b) K = K (ab (a * b)) := by simp [aj,aInt,ab,wrap64 h.1 h.2]
theorem idx_ok {s b o n c : Nat} {j : Int} : bT s (.slice (some ⟨b,o,none⟩) n c) (ab j) K = ((0 ≤ j ∧ j < n) ∧ K (ptr b (o + j.toNat * s))) := rfl
theorem load_cell {b o s : Nat} {c : List Value} {wr : Bool} {sz : Nat} {v : Value} (hb : h[b]? = some (.cells c wr sz)) (hv : c[o]? = some v) (hn : kn1 v = true) {K : Value → Prop} : ai false s (ptr b o) h K = K v := by
 simp [ai,hb,hv,hn]
theorem store_cell {b o : Nat} {c : List Value} {sz : Nat} {v : Value} (hb : h[b]? = some (.cells c true sz)) (ho : o < c.length) (h1 : v.cells = #[v]) (h2 : one v = true) {K : List af → Prop} (hk : K (h.set b (.cells (c.set o v) true sz))) : aB 1 (ptr b o) v h K := by
 simp [aB,hb,h1,h2,dL]
 exact ⟨ho,hk⟩
theorem sub_id {n : Nat} {v : Value} (h : VOk n v) : sub id v = v := sub_same (n := n) (fun _ _ => rfl) v h
theorem gc_drop {n0 : Nat} {g : List af} (ok : aD h) (hn : n0 ≤ h.length) : GC n0 id (h ++ g) h :=
 ⟨hn,fun _ _ => rfl,fun i o hi => .inr (by
  rw [subO_same (σ := id) (n := h.length) (fun _ _ => rfl) (ok i o hi)]
  have : i < h.length := by
   rcases Nat.lt_or_ge i h.length with x | x
   ·exact x
   ·rw [List.getElem?_eq_none x] at hi; cases hi
  simp only [id]
  rw [List.getElem?_append_left this]
  exact hi),fun i j _ _ _ _ _ _ e => e,ok⟩
theorem objOk_mono {n m : Nat} (hn : n ≤ m) {o : af} (ho : dK n o) : dK m o := by
 cases o with
 | dead => trivial
 | deferred => trivial
 | chan cap => trivial
 | group x => trivial
 | place t => trivial
 | iter m k sn => exact Nat.lt_of_lt_of_le ho hn
 | typed own t c row => exact LOk.mono hn c ho
 | cells c wr sz => exact LOk.mono hn c ho
 | map es wr => exact fun e he => ⟨(ho e he).1,VOk.mono hn _ (ho e he).2⟩
 | loop st pend fn r size params assign body dfr => exact ⟨fun t => (ho.1 t).imp id (VOk.mono hn _),Nat.lt_of_lt_of_le ho.2 hn⟩
theorem ao {n0 : Nat} {vs : List Value} (hv : ∀ v ∈ vs,v ≠ unk) (hk : H (pack vs) h) : aI n0 H [] vs h := by
 unfold aI takeW
 have : ∀ (l : List Value) (p : Prop),(∀ v ∈ l,v ≠ unk) → p → nuK l p := by
  intro l
  induction l with
  | nil => intro p _ hp; exact hp
  | cons v l ih => intro p h hp; exact ⟨h v (by simp),ih p (fun u hu => h u (by simp [hu])) hp⟩
 exact this vs _ hv (.inl hk)
theorem retL_drop {n0 : Nat} {g : List af} {vs : List Value} (ok : aD h) (hn : n0 ≤ h.length) (hv : ∀ v ∈ vs,v ≠ unk) (hw : VOk h.length (pack vs)) (hk : H (pack vs) h) : aI n0 H [] vs (h ++ g) := by
 unfold aI takeW
 have : ∀ (l : List Value) (p : Prop),(∀ v ∈ l,v ≠ unk) → p → nuK l p := by
  intro l
  induction l with
  | nil => intro p _ hp; exact hp
  | cons v l ih => intro p h hp; exact ⟨h v (by simp),ih p (fun u hu => h u (by simp [hu])) hp⟩
 exact this vs _ hv (.inr ⟨id,h,pack vs,gc_drop ok hn,(sub_id hw).symm,hw,hk⟩)
def Sli (h : List af) (v : Value) (s n : Nat) (cells : List Value) : Prop :=
 ∃ base c,v = .slice base n c ∧ (cells.length = n * s ∧ kn cells = true) ∧ ((base = none ∧ n = 0) ∨ ∃ b o,base = some ⟨b,o,none⟩ ∧ (n = 0 ∨ ∃ cs wr sz,h[b]? = some (.cells cs wr sz) ∧ (cs.drop o).take (n * s) = cells))
theorem sli_len {v : Value} {s n : Nat} {cells : List Value} (hs : Sli h v s n cells) : b0 v K = K (ab n) := by
 obtain ⟨base,c,rfl,_⟩ := hs
 rfl
theorem sli_get {v : Value} {s n : Nat} {cells : List Value} (hs : Sli h v s n cells) {i : Int} (hi : 0 ≤ i ∧ i < n) :
  ∃ b o cs wr sz c,v = .slice (some ⟨b,o,none⟩) n c ∧ h[b]? = some (.cells cs wr sz) ∧ ∀ j x,cells[j]? = some x → cs[o + j]? = some x := by
 obtain ⟨base,c,rfl,⟨hl,hkn⟩,hc⟩ := hs
 rcases hc with ⟨_,h0⟩ | ⟨b,o,rfl,h0 | ⟨cs,wr,sz,hb,rfl⟩⟩
 ·omega
 ·omega
 ·refine ⟨b,o,cs,wr,sz,c,rfl,hb,fun j x hx => ?_⟩
  rw [List.getElem?_take] at hx
  split at hx
  ·rw [List.getElem?_drop] at hx
   exact hx
  ·cases hx
theorem cF {v : Value} {n : Nat} {cells : List Value} {i : Int} {x : Value} {K : Value → Value → Prop} (hs : Sli h v 1 n cells) (hi : 0 ≤ i ∧ i < n) (hx : cells[i.toNat]? = some x) (hk : ∀ p,K p x) :
  bT 1 v (ab i) fun p => ai false 1 p h (K p) := by
 obtain ⟨b,o,cs,wr,sz,c,rfl,hb,hg⟩ := sli_get hs hi
 rw [idx_ok]
 refine ⟨hi,?_⟩
 rw [load_cell hb (by simpa using hg _ _ hx) (by
  obtain ⟨_,_,_,⟨_,hkn⟩,_⟩ := hs
  exact kn_get hkn hx)]
 exact hk _
theorem sli_app {v : Value} {s n : Nat} {cells : List Value} {g : List af} (hs : Sli h v s n cells) : Sli (h ++ g) v s n cells := by
 obtain ⟨base,c,rfl,⟨hl,hkn⟩,hc⟩ := hs
 refine ⟨base,c,rfl,⟨hl,hkn⟩,?_⟩
 rcases hc with h0 | ⟨b,o,rfl,h0 | ⟨cs,wr,sz,hb,hx⟩⟩
 ·exact .inl h0
 ·exact .inr ⟨b,o,rfl,.inl h0⟩
 ·refine .inr ⟨b,o,rfl,.inr ⟨cs,wr,sz,?_,hx⟩⟩
  have : b < h.length := by
   rcases Nat.lt_or_ge b h.length with x | x
   ·exact x
   ·rw [List.getElem?_eq_none x] at hb; cases hb
  rw [List.getElem?_append_left this]
  exact hb
theorem sli_new {b n c : Nat} {cells : List Value} {wr : Bool} {sz : Nat} (hb : h[b]? = some (.cells cells wr sz)) (hl : cells.length = n) (hk : kn cells = true) : Sli h (.slice (some ⟨b,0,none⟩) n c) 1 n cells :=
 ⟨_,c,rfl,⟨by omega,hk⟩,.inr ⟨b,0,rfl,.inr ⟨cells,wr,sz,hb,by simp [← hl]⟩⟩⟩
theorem sli_nil {s : Nat} : Sli h (.slice none 0 0) s 0 [] := ⟨none,0,rfl,⟨by simp,rfl⟩,.inl ⟨rfl,rfl⟩⟩
theorem sli_vlen {v : Value} {s n : Nat} {cells : List Value} (hs : Sli h v s n cells) : cells.length = n * s := by
 obtain ⟨_,_,_,⟨hl,_⟩,_⟩ := hs
 exact hl
theorem src_sli {v : Value} {s n : Nat} {cells : List Value} {K : List Value → Prop} (hs : Sli h v s n cells) (hsp : 0 < s) (hk : K cells) : srcCells s n v h K := by
 obtain ⟨base,c,rfl,⟨hl,hkn⟩,hc⟩ := hs
 rcases hc with ⟨rfl,rfl⟩ | ⟨b,o,rfl,h0 | ⟨cs,wr,sz,hb,rfl⟩⟩
 ·have : cells = [] := List.length_eq_zero_iff.1 (by omega)
  subst this
  exact ⟨rfl,hk⟩
 ·subst h0
  have : cells = [] := List.length_eq_zero_iff.1 (by omega)
  subst this
  exact ⟨fun _ => hk,fun x => absurd rfl x⟩
 ·by_cases h0 : n = 0
  ·subst h0
   exact ⟨fun _ => by simpa using hk,fun x => absurd rfl x⟩
  ·refine ⟨fun x => absurd x h0,fun _ => ?_⟩
   simp only [hb]
   refine ⟨?_,hkn,hk⟩
   rw [List.length_take,List.length_drop] at hl
   have := Nat.mul_pos (Nat.pos_of_ne_zero h0) hsp
   omega
theorem app_nil {s m : Nat} {y : Value} {ys : List Value} (hsp : 0 < s) (hy : Sli h y s m ys) (hm : m ≤ room) (h0 : m = 0 → H (.slice none 0 0) h) (h1 : m ≠ 0 → H (.slice (some ⟨h.length,0,none⟩) m fz) (h ++ [.cells ys true s])) : aApp s (.slice none 0 0) y h H := by
 have hy' := hy
 obtain ⟨yb,yc,rfl,_⟩ := hy
 exact ⟨by omega,src_sli hy' hsp ⟨⟨rfl,rfl⟩,h0,h1⟩⟩
theorem app_own {s n m b : Nat} {y : Value} {cs ys : List Value} (hb : h[b]? = some (.cells cs true s)) (hcs : n * s ≤ cs.length) (hkn : kn (cs.take (n * s)) = true) (hsp : 0 < s) (hy : Sli h y s m ys) (hm : n + m ≤ room)
  (hk : H (.slice (some ⟨h.length,0,none⟩) (n + m) fz) (h.set b .dead ++ [.cells (cs.take (n * s) ++ ys) true s])) : aApp s (.slice (some ⟨b,0,none⟩) n fz) y h H := by
 have hy' := hy
 obtain ⟨yb,yc,rfl,_⟩ := hy
 refine ⟨hm,src_sli hy' hsp ?_⟩
 simp only [hb,List.drop_zero,Nat.zero_add]
 have : s ≠ 0 := by omega
 exact ⟨⟨hcs,hkn⟩,fun x => absurd x (Nat.lt_irrefl _),fun _ => ⟨trivial,trivial,trivial,trivial,hk⟩⟩
theorem app_copy {s n m b o c : Nat} {y : Value} {cs ys : List Value} {wr : Bool} {sz : Nat} (hb : h[b]? = some (.cells cs wr sz)) (hcs : o + n * s ≤ cs.length) (hkn : kn ((cs.drop o).take (n * s)) = true) (hc : c < n + m) (hsp : 0 < s) (hy : Sli h y s m ys) (hm : n + m ≤ room)
  (hk : H (.slice (some ⟨h.length,0,none⟩) (n + m) fz) (h ++ [.cells ((cs.drop o).take (n * s) ++ ys) true s])) : aApp s (.slice (some ⟨b,o,none⟩) n c) y h H := by
 have hy' := hy
 obtain ⟨yb,yc,rfl,_⟩ := hy
 refine ⟨hm,src_sli hy' hsp ?_⟩
 simp only [hb]
 have hr : room = 1073741824 := rfl
 have hf : fz = 1180591620717411303424 := rfl
 exact ⟨⟨hcs,hkn⟩,fun _ => ⟨fun x => absurd x (by omega),fun _ => hk⟩,fun x => absurd x (by omega)⟩
theorem kn_ints (l : List Int) : kn (l.map ab) = true := by
 simp [kn,kn1]
theorem map_get {l : List Int} {k : Nat} (hk : k < l.length) : (l.map ab)[k]? = some (ab (l.getD k 0)) := by
 simp [hk]
theorem wrapU (n : Int) : 0 ≤ IntKind.u64.wrap n ∧ IntKind.u64.wrap n < 18446744073709551616 := by
 simp only [IntKind.wrap,IntKind.bits,IntKind.signed]
 simp
 omega
theorem u_add (hk : ∀ y,0 ≤ y → y < 18446744073709551616 → K (.int .u64 y)) : aj P .add t (.int .u64 a) (.int .u64 b) K := ⟨rfl,hk _ (wrapU _).1 (wrapU _).2⟩
theorem u_mul (hk : ∀ y,0 ≤ y → y < 18446744073709551616 → K (.int .u64 y)) : aj P .mul t (.int .u64 a) (.int .u64 b) K := ⟨rfl,hk _ (wrapU _).1 (wrapU _).2⟩
theorem u_xor (hk : ∀ y,0 ≤ y → y < 18446744073709551616 → K (.int .u64 y)) : aj P .xor t (.int .u64 a) (.int .u64 b) K := ⟨rfl,hk _ (wrapU _).1 (wrapU _).2⟩
theorem u_shl (hb : 0 ≤ b) (hk : ∀ y,0 ≤ y → y < 18446744073709551616 → K (.int .u64 y)) : aj P .shl t (.int .u64 a) (.int k b) K := ⟨hb,hk _ (wrapU _).1 (wrapU _).2⟩
theorem u_shr (hb : 0 ≤ b) (ha : 0 ≤ a) {A : Int} (hA : a < A) (hk : ∀ y,0 ≤ y → y < A → K (.int .u64 y)) : aj P .shr t (.int .u64 a) (.int k b) K := by
 refine ⟨hb,hk _ ?_ ?_⟩
 ·exact Int.fdiv_nonneg ha (by exact Int.le_of_lt (Int.pow_pos (by decide)))
 ·refine Int.lt_of_le_of_lt ?_ hA
  rw [Int.fdiv_eq_ediv_of_nonneg _ (Int.le_of_lt (Int.pow_pos (by decide)))]
  exact Int.ediv_le_self _ ha
def moveTo (n k : Nat) : Nat → Nat := fun i => if i = n then k else i
theorem gc_one {n0 : Nat} {g : List af} {k : Nat} {o : af} (ok : aD h) (hn : n0 ≤ h.length) (hk : (h ++ g)[k]? = some o) (hkn : h.length ≤ k) (ho : dK h.length o) : GC n0 (moveTo h.length k) (h ++ g) (h ++ [o]) := by
 have hsame : Same h.length (moveTo h.length k) := fun b hb => by simp [moveTo]; omega
 refine ⟨by simp; omega,fun b hb => hsame b (by omega),fun i oi hi => .inr ?_,fun i j oi oj hi hj _ _ e => ?_,fun i oi hi => ?_⟩
 ·rcases Nat.lt_or_ge i h.length with hlt | hge
  ·rw [List.getElem?_append_left hlt] at hi
   rw [hsame i hlt,List.getElem?_append_left hlt,subO_same hsame (ok i oi hi)]
   exact hi
  ·have hil : i = h.length := by
    have := (List.getElem?_eq_some_iff.1 hi).1
    simp at this
    omega
   subst hil
   have : oi = o := by simpa using hi.symm
   subst this
   rw [subO_same hsame ho]
   simpa [moveTo] using hk
 ·have hil := (List.getElem?_eq_some_iff.1 hi).1
  have hjl := (List.getElem?_eq_some_iff.1 hj).1
  simp at hil hjl
  simp only [moveTo] at e
  split at e <;> split at e <;> omega
 ·rcases Nat.lt_or_ge i h.length with hlt | hge
  ·rw [List.getElem?_append_left hlt] at hi
   exact objOk_mono (by simp) (ok i oi hi)
  ·have hil : i = h.length := by
    have := (List.getElem?_eq_some_iff.1 hi).1
    simp at this
    omega
   subst hil
   have : oi = o := by simpa using hi.symm
   subst this
   exact objOk_mono (by simp) ho
theorem retL_one {n0 : Nat} {g : List af} {k : Nat} {o : af} {m c : Nat} (ok : aD h) (hn : n0 ≤ h.length) (hk : (h ++ g)[k]? = some o) (hkn : h.length ≤ k) (ho : dK h.length o)
  (hK : H (.slice (some ⟨h.length,0,none⟩) m c) (h ++ [o])) : aI n0 H [] [.slice (some ⟨k,0,none⟩) m c] (h ++ g) := by
 refine ⟨by simp [unk],.inr ⟨moveTo h.length k,h ++ [o],.slice (some ⟨h.length,0,none⟩) m c,gc_one ok hn hk hkn ho,?_,?_,hK⟩⟩
 ·simp [pack,sub,moveTo]
 ·simp [VOk,bt]
end
section
variable {P : Program} {t : TypeId} {K : Value → Prop} {H : Value → List af → Prop} {HL : List af → Prop} {a b : Int} {h g : List af} {A B : Prop}
theorem box_agg {cs : List Value} (h1 : cs.all one = true) (hk : H (ptr h.length 0) (h ++ [.cells cs true 0])) : cq (.agg ⟨cs⟩) h H := ⟨h1,hk⟩
theorem box_one {v : Value} (hc : v.cells = #[v]) (h1 : one v = true) (hk : H (ptr h.length 0) (h ++ [.cells [v] true 0])) : cq v h H := by
 unfold cq
 rw [hc]
 exact ⟨by simpa using h1,hk⟩
theorem ar {b o s : Nat} {cs c : List Value} {wr : Bool} {sz : Nat} (hb : h[b]? = some (.cells cs wr sz)) (hl : o + s ≤ cs.length) (hc : (cs.drop o).take s = c) (hn : kn c = true) (hk : K (.agg ⟨c⟩)) : ai true s (ptr b o) h K := by
 simp only [ai,hb,cond_true,hc]
 exact ⟨hl,hn,hk⟩
theorem store_agg {b : Nat} {cs c : List Value} {s : Nat} {sz : Nat} (hb : h[b]? = some (.cells cs true sz)) (hl : c.length = s) (hs : cs.length = s) (h1 : c.all one = true) (hk : HL (h.set b (.cells c true sz))) : aB s (ptr b 0) (.agg ⟨c⟩) h HL := by
 have e : ∀ (c cs : List Value) (pre : List Value),cs.length = c.length → dL (pre ++ cs) pre.length c = pre ++ c := by
  intro c
  induction c with
  | nil =>
   intro cs pre h
   have : cs = [] := List.length_eq_zero_iff.1 (by simpa using h)
   subst this
   rfl
  | cons x c ih =>
   intro cs pre h
   cases cs with
   | nil => simp at h
   | cons y cs =>
    unfold dL
    have := ih cs (pre ++ [x]) (by simpa using h)
    simp only [List.length_append,List.length_cons,List.length_nil,List.append_assoc,List.cons_append,List.nil_append] at this
    simp only [List.set_append_right _ _ (Nat.le_refl _),Nat.sub_self,List.set_cons_zero]
    exact this
 simp only [aB,hb,Value.cells]
 refine ⟨by simpa using hl,h1,by omega,?_⟩
 have := e c cs [] (by omega)
 simp only [List.nil_append,List.length_nil] at this
 rw [this]
 exact hk
theorem de {rs : List ResultVar} {r : Nat → Value} {x : Nat} {gg : Bool} {s : Nat} {KL : List Value → Prop} (ht : tk P t = some (gg,s)) (hk : ai gg s (r x) h fun v => resW P rs r h fun vs => KL (v :: vs)) : resW P (.cell x t :: rs) r h KL := by
 unfold resW
 rw [ht]
 exact hk
theorem resW_tmp {rs : List ResultVar} {r : Nat → Value} {x : Nat} {KL : List Value → Prop} (hn : r x ≠ unk) (hk : resW P rs r h fun vs => KL (r x :: vs)) : resW P (.tmp x :: rs) r h KL := ⟨hn,hk⟩
theorem dN {r : Nat → Value} {KL : List Value → Prop} (hk : KL []) : resW P [] r h KL := hk
theorem resW_imp : ∀ (rs : List ResultVar) {r : Nat → Value} {h : List af} {K K' : List Value → Prop},resW P rs r h K → (∀ vs,K vs → K' vs) → resW P rs r h K'
 | [],r,h,K,K',hx,hk => hk _ hx
 | .tmp t :: rs,r,h,K,K',hx,hk => ⟨hx.1,resW_imp rs hx.2 fun vs => hk _⟩
 | .cell a t :: rs,r,h,K,K',hx,hk => by
  unfold resW at hx ⊢
  split at hx
  ·obtain ⟨v,k1,k2⟩ := pin_aLoad _ hx
   exact k2 (fun v => resW P rs r h fun vs => K' (v :: vs)) (resW_imp rs k1 fun vs => hk _)
  ·exact hx.elim
end
end Go.Proofs.YtlhanfcgdfjhjaaGreatDoor
namespace Go.Proofs.YtlhanfcgdfjhjaaGreatDoor
open Go.Conc Go.Proofs.Tryz
set_option maxRecDepth 100000
set_option maxHeartbeats 4000000
set_option linter.unusedVariables false
section
variable {main : Bool} {J : JT} {n0 : Nat} {h : List af} {K : Value → List af → Prop}
theorem at6 : prog.funcs[6]? = some f6 := by kernel_rfl
theorem body6 : f6.body = some (codeOf f6) := by kernel_rfl
theorem e6 {a0 : Value} : W prog J 6 h.length 6 (codeOf f6) (RG.mk (ax [a0]) []) h (aq prog [.tmp 2] h.length K) =
(aH [(Value.slice none 0 0),(ab 0),(Value.int .u64 0)] [(0,1,a0),(2,1,(Value.int .u64 88172645463325252))] fun c1 =>
cq (Value.agg ⟨c1⟩) h fun v2 h3 =>
aI h.length K [] [v2] h3) := by kernel_rfl
theorem g6 (hJ : Closed prog main J) {a0 : Value} (hs : aD h → W prog J 6 h.length 6 (codeOf f6) (RG.mk (ax [a0]) []) h (aq prog [.tmp 2] h.length K)) : Good prog J 6 [a0] h K :=
 az hJ mixed at6 body6 (by kernel_rfl) (Nat.le_of_ble_eq_true rfl) hs
theorem at23 : prog.funcs[23]? = some f23 := by kernel_rfl
theorem body23 : f23.body = some (codeOf f23) := by kernel_rfl
theorem e23 {a0 a1 a2 : Value} : W prog J 14 h.length 23 (codeOf f23) (RG.mk (ax [a0,a1,a2]) []) h (aq prog [.tmp 6] h.length K) =
(aj prog .sub 3 a2 a1 fun v1 =>
Good prog J 25 [a0,v1] h fun v2 h3 =>
aj prog .add 3 a1 v2 fun v4 =>
aI h.length K [] [v4] h3) := by kernel_rfl
theorem g23 (hJ : Closed prog main J) {a0 a1 a2 : Value} (hs : aD h → W prog J 14 h.length 23 (codeOf f23) (RG.mk (ax [a0,a1,a2]) []) h (aq prog [.tmp 6] h.length K)) : Good prog J 23 [a0,a1,a2] h K :=
 az hJ mixed at23 body23 (by kernel_rfl) (Nat.le_of_ble_eq_true rfl) hs
theorem at24 : prog.funcs[24]? = some f24 := by kernel_rfl
theorem body24 : f24.body = some (codeOf f24) := by kernel_rfl
theorem e24 {a0 a1 a2 : Value} : W prog J 20 h.length 24 (codeOf f24) (RG.mk (ax [a0,a1,a2]) []) h (aq prog [.tmp 6] h.length K) =
(b0 a2 fun v1 =>
Good prog J 25 [a0,v1] h fun v2 h3 =>
aj prog .gtr 3 v2 (ab 0) fun v4 =>
cnd v4
(aj prog .sub 3 v2 (ab 1) fun v5 =>
bT 1 a2 v5 fun v6 =>
ai false 1 v6 h3 fun v7 =>
aI h.length K [] [v7] h3)
(aI h.length K [] [a1] h3)) := by kernel_rfl
theorem g24 (hJ : Closed prog main J) {a0 a1 a2 : Value} (hs : aD h → W prog J 20 h.length 24 (codeOf f24) (RG.mk (ax [a0,a1,a2]) []) h (aq prog [.tmp 6] h.length K)) : Good prog J 24 [a0,a1,a2] h K :=
 az hJ mixed at24 body24 (by kernel_rfl) (Nat.le_of_ble_eq_true rfl) hs
theorem at25 : prog.funcs[25]? = some f25 := by kernel_rfl
theorem body25 : f25.body = some (codeOf f25) := by kernel_rfl
theorem e25 {a0 a1 : Value} : W prog J 14 h.length 25 (codeOf f25) (RG.mk (ax [a0,a1]) []) h (aq prog [.tmp 4] h.length K) =
(aj prog .leq 3 a1 (ab 0) fun v1 =>
cnd v1
(aI h.length K [] [(ab 0)] h)
(Good prog J 54 [a0] h fun v2 h3 =>
aj prog .add 3 a1 (ab 1) fun v4 =>
aConvI .u64 v4 fun v5 =>
aj prog .rem 59 v2 v5 fun v6 =>
aConvI .i64 v6 fun v7 =>
aI h.length K [] [v7] h3)) := by kernel_rfl
theorem g25 (hJ : Closed prog main J) {a0 a1 : Value} (hs : aD h → W prog J 14 h.length 25 (codeOf f25) (RG.mk (ax [a0,a1]) []) h (aq prog [.tmp 4] h.length K)) : Good prog J 25 [a0,a1] h K :=
 az hJ mixed at25 body25 (by kernel_rfl) (Nat.le_of_ble_eq_true rfl) hs
theorem at21 : prog.funcs[21]? = some f21 := by kernel_rfl
theorem body21 : f21.body = some (codeOf f21) := by kernel_rfl
theorem e21 {a0 a1 : Value} : W prog J 26 h.length 21 (codeOf f21) (RG.mk (ax [a0,a1]) []) h (aq prog [.tmp 4] h.length K) =
(b0 a0 fun v1 =>
b0 a1 fun v2 =>
aj prog .neq 3 v1 v2 fun v3 =>
cnd v3
(aI h.length K [] [(Value.bool false)] h)
(Sem J 26 h.length 21 (aw yp0 (codeOf f21)) ((((((((RG.mk (ax [a0,a1]) []).p 4 (Value.bool false)).p 6 a0).p 7 v1).p 8 a1).p 9 v2).p 10 v3).p 5 (ab 0)) h (contQ prog J 26 h.length 21 [1,1,0,1,0] (codeOf f21) [] (aq prog [.tmp 4] h.length K)))) := by kernel_rfl
theorem g21 (hJ : Closed prog main J) {a0 a1 : Value} (hs : aD h → W prog J 26 h.length 21 (codeOf f21) (RG.mk (ax [a0,a1]) []) h (aq prog [.tmp 4] h.length K)) : Good prog J 21 [a0,a1] h K :=
 az hJ mixed at21 body21 (by kernel_rfl) (Nat.le_of_ble_eq_true rfl) hs
theorem s21_1 {f : RG} {nx0 : RG → List af → Prop} : W prog J 26 n0 21 (aw yp2 (codeOf f21)) f h (bc nx0 (contQ prog J 26 n0 21 [1,1,0,1,0] (codeOf f21) [] (aq prog [.tmp 4] n0 K))) =
(b0 (f.r 0) fun v1 =>
aj prog .lss 3 (f.r 5) v1 fun v2 =>
cnd v2
(bT 1 (f.r 0) (f.r 5) fun v3 =>
ai false 1 v3 h fun v4 =>
bT 1 (f.r 1) (f.r 5) fun v5 =>
ai false 1 v5 h fun v6 =>
aj prog .neq 3 v4 v6 fun v7 =>
cnd v7
(aI n0 K f.ds [(Value.bool false)] h)
(aj prog .add 3 (f.r 5) (ab 1) fun v8 =>
nx0 ((((((((((((((((f.p 11 (f.r 5)).p 12 (f.r 0)).p 13 v1).p 14 v2).p 17 (f.r 0)).p 18 (f.r 5)).p 19 v3).p 20 v4).p 21 (f.r 1)).p 22 (f.r 5)).p 23 v5).p 24 v6).p 25 v7).p 15 (f.r 5)).p 16 v8).p 5 v8) h))
(aI n0 K f.ds [(Value.bool true)] h)) := by kernel_rfl
theorem l21_1 (hJ : Closed prog main J) {S : Type} (μ : S → Nat) (I : S → RG → List af → Prop) (hI : ∀ s f h,I s f h → aD h → n0 ≤ h.length → W prog J 26 n0 21 (aw yp2 (codeOf f21)) f h (bc (Nx n0 μ I s) (contQ prog J 26 n0 21 [1,1,0,1,0] (codeOf f21) [] (aq prog [.tmp 4] n0 K))))
 {s : S} {f : RG} (hi : dJ n0 I s f h) : Sem J 26 n0 21 (aw yp0 (codeOf f21)) f h (contQ prog J 26 n0 21 [1,1,0,1,0] (codeOf f21) [] (aq prog [.tmp 4] n0 K)) :=
 bn hJ mixed (b := aw yp2 (codeOf f21)) (by kernel_rfl) μ I hI hi
theorem at54 : prog.funcs[54]? = some f54 := by kernel_rfl
theorem body54 : f54.body = some (codeOf f54) := by kernel_rfl
theorem e54 {a0 : Value} : W prog J 72 h.length 54 (codeOf f54) (RG.mk (ax [a0]) []) h (aq prog [.tmp 2] h.length K) =
(cJ a0 fun v1 =>
aL v1 1 fun v2 =>
ai false 1 v2 h fun v3 =>
aConvI .u64 v3 fun v4 =>
cJ a0 fun v5 =>
aL v5 1 fun v6 =>
ai false 1 v6 h fun v7 =>
cJ a0 fun v8 =>
aL v8 0 fun v9 =>
ai false 1 v9 h fun v10 =>
b0 v10 fun v11 =>
aj prog .lss 3 v7 v11 fun v12 =>
cnd v12
(cJ a0 fun v13 =>
aL v13 0 fun v14 =>
ai false 1 v14 h fun v15 =>
cJ a0 fun v16 =>
aL v16 1 fun v17 =>
ai false 1 v17 h fun v18 =>
bT 1 v15 v18 fun v19 =>
ai false 1 v19 h fun v20 =>
aConvI .u64 v20 fun v21 =>
cJ a0 fun v22 =>
aL v22 1 fun v23 =>
ai false 1 v23 h fun v24 =>
aj prog .add 3 v24 (ab 1) fun v25 =>
cJ a0 fun v26 =>
aL v26 1 fun v27 =>
aB 1 v27 v25 h fun h28 =>
cJ a0 fun v29 =>
aL v29 2 fun v30 =>
ai false 1 v30 h28 fun v31 =>
aj prog .mul 59 v21 (Value.int .u64 11400714819323198485) fun v32 =>
aj prog .xor 59 v31 v32 fun v33 =>
aj prog .shl 59 v33 (Value.int .u64 13) fun v34 =>
aj prog .xor 59 v33 v34 fun v35 =>
aj prog .shr 59 v35 (Value.int .u64 7) fun v36 =>
aj prog .xor 59 v35 v36 fun v37 =>
aj prog .shl 59 v37 (Value.int .u64 17) fun v38 =>
aj prog .xor 59 v37 v38 fun v39 =>
aj prog .add 59 v39 (Value.int .u64 7146057691288625177) fun v40 =>
cJ a0 fun v41 =>
aL v41 2 fun v42 =>
aB 1 v42 v40 h28 fun h43 =>
aj prog .shr 59 v39 (Value.int .u64 31) fun v44 =>
aj prog .xor 59 v39 v44 fun v45 =>
aj prog .mul 59 v45 (Value.int .u64 13787848793156543929) fun v46 =>
aj prog .shr 59 v46 (Value.int .u64 29) fun v47 =>
aj prog .xor 59 v46 v47 fun v48 =>
aj prog .shr 59 v48 (Value.int .u64 11) fun v49 =>
aI h.length K [] [v49] h43)
(cJ a0 fun v50 =>
aL v50 1 fun v51 =>
ai false 1 v51 h fun v52 =>
aj prog .add 3 v52 (ab 1) fun v53 =>
cJ a0 fun v54 =>
aL v54 1 fun v55 =>
aB 1 v55 v53 h fun h56 =>
cJ a0 fun v57 =>
aL v57 2 fun v58 =>
ai false 1 v58 h56 fun v59 =>
aj prog .mul 59 v4 (Value.int .u64 11400714819323198485) fun v60 =>
aj prog .xor 59 v59 v60 fun v61 =>
aj prog .shl 59 v61 (Value.int .u64 13) fun v62 =>
aj prog .xor 59 v61 v62 fun v63 =>
aj prog .shr 59 v63 (Value.int .u64 7) fun v64 =>
aj prog .xor 59 v63 v64 fun v65 =>
aj prog .shl 59 v65 (Value.int .u64 17) fun v66 =>
aj prog .xor 59 v65 v66 fun v67 =>
aj prog .add 59 v67 (Value.int .u64 7146057691288625177) fun v68 =>
cJ a0 fun v69 =>
aL v69 2 fun v70 =>
aB 1 v70 v68 h56 fun h71 =>
aj prog .shr 59 v67 (Value.int .u64 31) fun v72 =>
aj prog .xor 59 v67 v72 fun v73 =>
aj prog .mul 59 v73 (Value.int .u64 13787848793156543929) fun v74 =>
aj prog .shr 59 v74 (Value.int .u64 29) fun v75 =>
aj prog .xor 59 v74 v75 fun v76 =>
aj prog .shr 59 v76 (Value.int .u64 11) fun v77 =>
aI h.length K [] [v77] h71)) := by kernel_rfl
theorem g54 (hJ : Closed prog main J) {a0 : Value} (hs : aD h → W prog J 72 h.length 54 (codeOf f54) (RG.mk (ax [a0]) []) h (aq prog [.tmp 2] h.length K)) : Good prog J 54 [a0] h K :=
 az hJ mixed at54 body54 (by kernel_rfl) (Nat.le_of_ble_eq_true rfl) hs
end
end Go.Proofs.YtlhanfcgdfjhjaaGreatDoor
namespace Go.Proofs.YtlhanfcgdfjhjaaGreatDoor
open Go.Conc Go.Proofs.Tryz
structure HandAt (h : List af) (b : Nat) (nv : Value) (nums : List Int) (k : Nat) (s : Int) : Prop where
 at_ : h[b]? = some (.cells [nv,ab k,.int .u64 s] true 0)
 list : Sli h nv 1 nums.length (nums.map ab)
 sane : nums.length < 4611686018427387904
 few : k < 4611686018427387904
 lo : 0 ≤ s
 hi : s < 18446744073709551616
section
variable {main : Bool} {J : JT} {h : List af} {K : Value → List af → Prop}
theorem nil_ok {b o : Nat} {K : Value → Prop} : cJ (ptr b o) K = K (ptr b o) := rfl
theorem off_ok {b o d : Nat} {K : Value → Prop} : aL (ptr b o) d K = K (ptr b (o + d)) := rfl
theorem conv_u {n : Int} {K : Value → Prop} (hk : ∀ y,0 ≤ y → y < 18446744073709551616 → K (.int .u64 y)) : aConvI .u64 (ab n) K := hk _ (wrapU _).1 (wrapU _).2
theorem u_shr11 {t : TypeId} {y : Int} (_h1 : 0 ≤ y) (_h2 : y < 18446744073709551616) {K : Value → Prop} : aj prog .shr t (.int .u64 y) (.int .u64 11) K = K (.int .u64 (y / 2048)) := by
 have e : min (Int.toNat 11) IntKind.u64.bits = 11 := by decide
 simp only [aj,aShift,e]
 rw [Int.fdiv_eq_ediv_of_nonneg _ (by decide)]
 simp
theorem set_twice {b : Nat} {x y : af} (hb : h[b]? = some x) : (h.set b y)[b]? = some y := by
 have : b < h.length := (List.getElem?_eq_some_iff.1 hb).1
 simp [this]
theorem good54 (hJ : Closed prog main J) {b : Nat} {nv : Value} {nums : List Int} {k : Nat} {s : Int} (H : HandAt h b nv nums k s)
  (hK : ∀ x s',0 ≤ x → x < 9007199254740992 → 0 ≤ s' → s' < 18446744073709551616 → K (.int .u64 x) (h.set b (.cells [nv,ab (k + 1),.int .u64 s'] true 0))) : Good prog J 54 [ptr b 0] h K := by
 refine g54 hJ fun ok => ?_
 rw [e54]
 obtain ⟨hb,hl,hsane,hfew,hlo,hhi⟩ := H
 have hnv : kn1 nv = true := by
  obtain ⟨_,_,rfl,_⟩ := hl
  rfl
 have l0 : ∀ K,ai false 1 (ptr b 0) h K = K nv := fun K => load_cell hb rfl hnv
 have l1 : ∀ K,ai false 1 (ptr b 1) h K = K (ab k) := fun K => load_cell hb rfl rfl
 -- what stands behind the joining of the ways
 have rest : ∀ x : Int,aj prog .add 3 (ab k) (ab 1) fun v25 =>
   aB 1 (ptr b 1) v25 h fun h28 =>
   ai false 1 (ptr b 2) h28 fun v31 =>
   aj prog .mul 59 (.int .u64 x) (Value.int .u64 11400714819323198485) fun v32 =>
   aj prog .xor 59 v31 v32 fun v33 =>
   aj prog .shl 59 v33 (Value.int .u64 13) fun v34 =>
   aj prog .xor 59 v33 v34 fun v35 =>
   aj prog .shr 59 v35 (Value.int .u64 7) fun v36 =>
   aj prog .xor 59 v35 v36 fun v37 =>
   aj prog .shl 59 v37 (Value.int .u64 17) fun v38 =>
   aj prog .xor 59 v37 v38 fun v39 =>
   aj prog .add 59 v39 (Value.int .u64 7146057691288625177) fun v40 =>
   aB 1 (ptr b 2) v40 h28 fun h43 =>
   aj prog .shr 59 v39 (Value.int .u64 31) fun v44 =>
   aj prog .xor 59 v39 v44 fun v45 =>
   aj prog .mul 59 v45 (Value.int .u64 13787848793156543929) fun v46 =>
   aj prog .shr 59 v46 (Value.int .u64 29) fun v47 =>
   aj prog .xor 59 v46 v47 fun v48 =>
   aj prog .shr 59 v48 (Value.int .u64 11) fun v49 =>
   aI h.length K [] [v49] h43 := by
  intro x
  rw [b_add (by omega)]
  refine store_cell hb (by simp) rfl rfl ?_
  have hb2 : (h.set b (.cells ([nv,ab k,.int .u64 s].set 1 (ab (k + 1))) true 0))[b]? = some (.cells [nv,ab (k + 1),.int .u64 s] true 0) := set_twice hb
  rw [load_cell hb2 rfl rfl]
  refine u_mul fun y1 a1 b1 => u_xor fun y2 a2 b2 => u_shl (by omega) fun y3 a3 b3 => u_xor fun y4 a4 b4 => u_shr (by omega) a4 b4 fun y5 a5 b5 => u_xor fun y6 a6 b6 => u_shl (by omega) fun y7 a7 b7 => u_xor fun y8 a8 b8 => u_add fun y9 a9 b9 => ?_
  refine store_cell hb2 (by simp) rfl rfl ?_
  refine u_shr (by omega) a8 b8 fun z1 c1 d1 => u_xor fun z2 c2 d2 => u_mul fun z3 c3 d3 => u_shr (by omega) c3 d3 fun z4 c4 d4 => u_xor fun z5 c5 d5 => ?_
  rw [u_shr11 c5 d5]
  refine ao (by simp [unk]) ?_
  rw [List.set_set]
  exact hK _ _ (by omega) (by omega) a9 b9
 simp only [nil_ok,off_ok,Nat.zero_add,l0,l1]
 refine conv_u fun x0 _ _ => ?_
 simp only [sli_len hl,b_lss,cnd_dec]
 refine ⟨fun hlt => cF hl ⟨by omega,by omega⟩ (map_get (by simpa using hlt)) fun p => conv_u fun x1 _ _ => rest x1,fun _ => rest x0⟩
def Dealt (h : List af) (b : Nat) (nv : Value) (k n : Nat) (h' : List af) : Prop :=
 ∃ (k' : Nat) (s' : Int),k' ≤ k + n ∧ 0 ≤ s' ∧ s' < 18446744073709551616 ∧ h' = h.set b (.cells [nv,ab k',.int .u64 s'] true 0)
theorem good25 (hJ : Closed prog main J) {b : Nat} {nv : Value} {nums : List Int} {k : Nat} {s m : Int} (H : HandAt h b nv nums k s) (hm : m < 9223372036854775807)
  (hK : ∀ y h',0 ≤ y → (y ≤ m ∨ y = 0) → Dealt h b nv k 1 h' → K (ab y) h') : Good prog J 25 [ptr b 0,ab m] h K := by
 refine g25 hJ fun ok => ?_
 rw [e25]
 simp only [b_leq,cnd_dec]
 refine ⟨fun h0 => ao (by simp [unk]) (hK 0 h (by omega) (.inr rfl) ⟨k,s,by omega,H.lo,H.hi,?_⟩),fun h0 => ?_⟩
 ·have hb : b < h.length := (List.getElem?_eq_some_iff.1 H.at_).1
  apply List.ext_getElem?
  intro i
  rw [List.getElem?_set]
  split
  ·rename_i e
   subst e
   exact H.at_
  ·rfl
 ·refine good54 hJ H fun x s' hx hx2 hs hs2 => ?_
  rw [b_add (by omega)]
  have e1 : ∀ n : Int,0 ≤ n → n < 9223372036854775808 → IntKind.u64.wrap n = n := fun n a b => by
   simp only [IntKind.wrap,IntKind.bits,IntKind.signed]
   simp
   omega
  have hmod : Int.tmod x (m + 1) = x % (m + 1) := Int.tmod_eq_emod_of_nonneg hx
  have h1 := Int.emod_nonneg x (b := m + 1) (by omega)
  have h2 := Int.emod_lt_of_pos x (b := m + 1) (by omega)
  simp only [aConvI,e1 (m + 1) (by omega) (by omega),aj,aInt,true_and]
  rw [hmod,wrap64 (by omega) (by omega)]
  exact ⟨by omega,ao (by simp [unk]) (hK _ _ h1 (.inl (by omega)) ⟨k + 1,s',by omega,hs,hs2,rfl⟩)⟩
theorem good23 (hJ : Closed prog main J) {b : Nat} {nv : Value} {nums : List Int} {k : Nat} {s lo hi : Int} (H : HandAt h b nv nums k s) (h1 : -1000000000000 ≤ lo ∧ lo ≤ 1000000000000) (h2 : -1000000000000 ≤ hi ∧ hi ≤ 1000000000000)
  (hK : ∀ y h',lo ≤ y → (y ≤ hi ∨ y = lo) → Dealt h b nv k 1 h' → K (ab y) h') : Good prog J 23 [ptr b 0,ab lo,ab hi] h K := by
 refine g23 hJ fun ok => ?_
 rw [e23,b_sub (by omega)]
 refine good25 hJ H (by omega) fun y h' hy hy2 hd => ?_
 rw [b_add (by omega)]
 exact ao (by simp [unk]) (hK _ _ (by omega) (by omega) hd)
theorem good6 (hJ : Closed prog main J) {base : Option Addr} {n c : Nat}
  (hK : K (ptr h.length 0) (h ++ [.cells [.slice base n c,ab 0,.int .u64 88172645463325252] true 0])) : Good prog J 6 [.slice base n c] h K := by
 refine g6 hJ fun ok => ?_
 rw [e6]
 simp [aH,cq,dL,Value.cells,one]
 exact ao (vs := [ptr h.length 0]) (by simp [unk]) hK
theorem good24 (hJ : Closed prog main J) {b : Nat} {nv ov : Value} {nums others : List Int} {k : Nat} {s a : Int} (H : HandAt h b nv nums k s) (ho : ∀ h',Dealt h b nv k 1 h' → Sli h' ov 1 others.length (others.map ab)) (hl : others.length < 1000000)
  (hK : ∀ y h',(y = a ∨ y ∈ others) → Dealt h b nv k 1 h' → K (ab y) h') : Good prog J 24 [ptr b 0,ab a,ov] h K := by
 refine g24 hJ fun ok => ?_
 rw [e24]
 have hd0 : Dealt h b nv k 1 h := by
  refine ⟨k,s,by omega,H.lo,H.hi,?_⟩
  apply List.ext_getElem?
  intro i
  rw [List.getElem?_set]
  split
  ·rename_i e
   subst e
   have hb : b < h.length := (List.getElem?_eq_some_iff.1 H.at_).1
   rw [if_pos hb]
   exact H.at_
  ·rfl
 rw [sli_len (ho h hd0)]
 refine good25 hJ H (by omega) fun y h' hy hy2 hd => ?_
 simp only [b_gtr,cnd_dec]
 refine ⟨fun hg => ?_,fun _ => ao (by simp [unk]) (hK _ _ (.inl rfl) hd)⟩
 rw [b_sub (by omega)]
 refine cF (ho h' hd) ⟨by omega,by omega⟩ (map_get (by omega)) fun p => ?_
 refine ao (by simp [unk]) (hK _ _ (.inr ?_) hd)
 have : (y - 1).toNat < others.length := by omega
 simp only [List.getD_eq_getElem?_getD,List.getElem?_eq_getElem this,Option.getD_some]
 exact List.getElem_mem this
end
end Go.Proofs.YtlhanfcgdfjhjaaGreatDoor
namespace Go.Proofs.YtlhanfcgdfjhjaaGreatDoor
open Go.Conc Go.Proofs.Tryz
section
variable {main : Bool} {J : JT} {h : List af} {K : Value → List af → Prop}
theorem good21 (hJ : Closed prog main J) {av bv : Value} {xs ys : List Int} (ha : Sli h av 1 xs.length (xs.map ab)) (hb : Sli h bv 1 ys.length (ys.map ab)) (hl : xs.length < 4611686018427387904)
  (hK : K (.bool (decide (xs = ys))) h) : Good prog J 21 [av,bv] h K := by
 refine g21 hJ fun ok => ?_
 rw [e21]
 simp only [sli_len ha,sli_len hb,b_neq,cnd_dec]
 refine ⟨fun hne => ao (by simp [unk]) ?_,fun heq => ?_⟩
 ·have : xs ≠ ys := fun e => hne (by rw [e])
  simpa [pack,this] using hK
 ·have hlen : xs.length = ys.length := by omega
  refine l21_1 hJ (fun i => xs.length - i) (fun i f h' => h' = h ∧ f.ds = [] ∧ f.r 0 = av ∧ f.r 1 = bv ∧ f.r 5 = ab (i : Nat) ∧ i ≤ xs.length ∧ xs.take i = ys.take i) ?_ (s := 0) (.inl ⟨rfl,rfl,rfl,rfl,rfl,by omega,by simp⟩)
  rintro i f h' ⟨rfl,hds,h0,h1,h5,hi,ht⟩ _ hn
  rw [s21_1]
  simp only [h0,h1,h5,hds,sli_len ha,b_lss,cnd_dec]
  refine ⟨fun hlt => ?_,fun hge => ?_⟩
  ·have e1 : i < xs.length := by omega
   refine cF ha ⟨by omega,by omega⟩ (map_get (by omega)) fun p1 => ?_
   refine cF hb ⟨by omega,by omega⟩ (map_get (by omega)) fun p2 => ?_
   simp only [b_neq,cnd_dec,Int.toNat_natCast]
   refine ⟨fun hne => ao (by simp [unk]) ?_,fun heq => ?_⟩
   ·have : xs ≠ ys := fun e => hne (by rw [e])
    simpa [pack,this] using hK
   ·rw [b_add (by omega)]
    refine ⟨i + 1,by dsimp only; omega,.inl ⟨rfl,hds,h0,h1,rfl,by omega,?_⟩⟩
    have heq : xs.getD i 0 = ys.getD i 0 := by simpa using heq
    simp only [List.getD_eq_getElem?_getD,List.getElem?_eq_getElem e1,List.getElem?_eq_getElem (show i < ys.length by omega),Option.getD_some] at heq
    rw [List.take_add_one,List.take_add_one,ht,List.getElem?_eq_getElem e1,List.getElem?_eq_getElem (show i < ys.length by omega),heq]
  ·have : i = xs.length := by omega
   subst this
   rw [List.take_length,hlen,List.take_length] at ht
   refine ao (by simp [unk]) ?_
   simpa [pack,ht] using hK
end
end Go.Proofs.YtlhanfcgdfjhjaaGreatDoor
namespace Go.Proofs.YtlhanfcgdfjhjaaGreatDoor
open Go.Conc Go.Proofs.Tryz
section
variable {main : Bool} {J : JT} {h : List af} {K : Value → List af → Prop}
def HF (h : List af) (nv : Value) (k : Nat) (s : Int) (rest : List af) : List af := h ++ (.cells [nv,ab k,.int .u64 s] true 0 :: rest)
theorem hf_len {h : List af} {nv : Value} {k : Nat} {s : Int} {rest : List af} : (HF h nv k s rest).length = h.length + 1 + rest.length := by
 simp [HF]; omega
theorem hf_app {h : List af} {nv : Value} {k : Nat} {s : Int} {rest g : List af} : HF h nv k s rest ++ g = HF h nv k s (rest ++ g) := by
 simp [HF]
theorem hf_hand {h : List af} {nv : Value} {ns : List Int} {k : Nat} {s : Int} {rest : List af} (sn : Sli h nv 1 ns.length (ns.map ab)) (hln : ns.length < 4611686018427387904) (hk : k < 1000000) (h0 : 0 ≤ s) (h1 : s < 18446744073709551616) :
  HandAt (HF h nv k s rest) h.length nv ns k s :=
 ⟨by simp [HF],sli_app sn,hln,by omega,h0,h1⟩
theorem hf_dealt {h h' : List af} {nv : Value} {k n : Nat} {s : Int} {rest : List af} (hd : Dealt (HF h nv k s rest) h.length nv k n h') : ∃ k' s',k' ≤ k + n ∧ 0 ≤ s' ∧ s' < 18446744073709551616 ∧ h' = HF h nv k' s' rest := by
 obtain ⟨k',s',a,b,c,rfl⟩ := hd
 refine ⟨k',s',a,b,c,?_⟩
 simp [HF]
end
end Go.Proofs.YtlhanfcgdfjhjaaGreatDoor
namespace Go.Proofs.YtlhanfcgdfjhjaaGreatDoor
open Go.Conc Go.Proofs.Tryz
def SliE {α : Type} (h : List af) (v : Value) (s : Nat) (enc : α → List Value) (xs : List α) : Prop := Sli h v s xs.length (xs.flatMap enc)
theorem flat_take {α : Type} {enc : α → List Value} {s : Nat} (hen : ∀ x,(enc x).length = s) : ∀ (xs : List α) (i : Nat) (hi : i < xs.length),((xs.flatMap enc).drop (i * s)).take s = enc xs[i]
 | [],i,hi => by simp at hi
 | x :: xs,0,hi => by
  simp only [List.flatMap_cons,Nat.zero_mul,List.drop_zero,List.getElem_cons_zero]
  rw [List.take_append_of_le_length (by rw [hen]; exact Nat.le_refl _),List.take_of_length_le (by rw [hen]; exact Nat.le_refl _)]
 | x :: xs,i + 1,hi => by
  simp only [List.flatMap_cons,List.getElem_cons_succ]
  have : (i + 1) * s = (enc x).length + i * s := by rw [hen,Nat.succ_mul,Nat.add_comm]
  rw [this,← List.drop_drop,List.drop_left]
  exact flat_take hen xs i (by simpa using hi)
section
variable {h g : List af} {K : Value → Prop}
theorem sliE_len {α : Type} {v : Value} {s : Nat} {enc : α → List Value} {xs : List α} (hs : SliE h v s enc xs) : b0 v K = K (ab xs.length) := sli_len hs
theorem sliE_elem {α : Type} {v : Value} {s : Nat} {enc : α → List Value} {xs : List α} (hen : ∀ x,(enc x).length = s) (hpos : 0 < s) (hs : SliE h v s enc xs) {i : Nat} (hi : i < xs.length) :
  ∃ b o cs wr sz,(∀ K : Value → Prop,K (ptr b o) → bT s v (ab i) K) ∧ h[b]? = some (.cells cs wr sz) ∧ o + s ≤ cs.length ∧ (cs.drop o).take s = enc xs[i] ∧ kn (enc xs[i]) = true := by
 obtain ⟨base,c,rfl,⟨hl,hkn⟩,hc⟩ := hs
 have hft := flat_take hen xs i hi
 have hmul : (i + 1) * s ≤ xs.length * s := Nat.mul_le_mul_right s (by omega)
 have hsucc : (i + 1) * s = i * s + s := Nat.succ_mul i s
 rcases hc with ⟨_,h0⟩ | ⟨b,o,rfl,h0 | ⟨cs,wr,sz,hb,hx⟩⟩
 ·omega
 ·omega
 ·rw [← hx] at hl hft
  simp only [List.length_take,List.length_drop] at hl
  refine ⟨b,o + i * s,cs,wr,sz,fun K hK => ?_,hb,by omega,?_,?_⟩
  ·rw [idx_ok]
   exact ⟨⟨by omega,by omega⟩,by simpa using hK⟩
  ·rw [← hft,List.drop_take,List.drop_drop,List.take_take]
   congr 1
   omega
  ·have : kn ((xs.flatMap enc).drop (i * s)) = true := by
    unfold kn at hkn ⊢
    rw [List.all_eq_true] at hkn ⊢
    exact fun y hy => hkn y (List.mem_of_mem_drop hy)
   rw [← flat_take hen xs i hi]
   unfold kn at this ⊢
   rw [List.all_eq_true] at this ⊢
   exact fun y hy => this y (List.mem_of_mem_take hy)
end
end Go.Proofs.YtlhanfcgdfjhjaaGreatDoor
namespace Go.Proofs.YtlhanfcgdfjhjaaGreatDoor
open Go.Conc Go.Proofs.Tryz
set_option maxRecDepth 100000
section
variable {main : Bool} {J : JT} {h A g : List af} {K : Value → List af → Prop} {KV : Value → Prop} {HL : List af → Prop} {H : Value → List af → Prop}
theorem a_min {a b : Int} : aMin (ab a) [ab b] KV = KV (ab (min a b)) := by
 show KV (ab (if b < a then b else a)) = _
 congr 2
 split <;> omega
theorem a_max {a b : Int} : aMax (ab a) [ab b] KV = KV (ab (max a b)) := by
 show KV (ab (if b > a then b else a)) = _
 congr 2
 split <;> omega
theorem back_get {i : Nat} : (A ++ g)[A.length + i]? = g[i]? := by
 rw [List.getElem?_append_right (by omega)]
 congr 1
 omega
theorem back_set {i : Nat} {o : af} : (A ++ g).set (A.length + i) o = A ++ g.set i o := by
 rw [List.set_append_right _ _ (by omega)]
 congr 2
 omega
def OwnE (n : Nat) (g : List af) (s : Nat) (cs : List Value) (len : Nat) (v : Value) (o : Option Nat) : Prop :=
 cs.length = len * s ∧ kn cs = true ∧ ((len = 0 ∧ v = .slice none 0 0 ∧ o = none) ∨ ∃ i c sz,o = some i ∧ v = .slice (some ⟨n + i,0,none⟩) len c ∧ g[i]? = some (.cells cs true sz) ∧ ((c = fz ∧ sz = s) ∨ c = len))
theorem get_app {i : Nat} {x : af} {g' : List af} (hx : g[i]? = some x) : (g ++ g')[i]? = some x := by
 rw [List.getElem?_append_left (List.getElem?_eq_some_iff.1 hx).1]
 exact hx
theorem cI {i j : Nat} {x y : af} (hx : g[i]? = some x) (hij : i ≠ j) : (g.set j y)[i]? = some x := by
 rw [List.getElem?_set,if_neg (fun e => hij e.symm)]
 exact hx
theorem ownE_at {n s len : Nat} {cs : List Value} {v : Value} {i : Nat} (ho : OwnE n g s cs len v (some i)) : ∃ sz,g[i]? = some (.cells cs true sz) := by
 obtain ⟨_,_,⟨_,_,h⟩ | ⟨j,c,sz,h,_,h5,_⟩⟩ := ho
 ·cases h
 ·cases h
  exact ⟨sz,h5⟩
theorem ownE_lt {n s len : Nat} {cs : List Value} {v : Value} {o : Option Nat} (ho : OwnE n g s cs len v o) {i : Nat} (hi : o = some i) : i < g.length := by
 subst hi
 obtain ⟨sz,h⟩ := ownE_at ho
 exact (List.getElem?_eq_some_iff.1 h).1
theorem ownE_sli {s len : Nat} {cs : List Value} {v : Value} {o : Option Nat} (ho : OwnE A.length g s cs len v o) : Sli (A ++ g) v s len cs := by
 obtain ⟨h1,h2,⟨rfl,rfl,_⟩ | ⟨i,c,sz,rfl,rfl,h5,_⟩⟩ := ho
 ·have : cs = [] := List.length_eq_zero_iff.1 (by omega)
  subst this
  exact sli_nil
 ·refine ⟨_,_,rfl,⟨h1,h2⟩,.inr ⟨_,_,rfl,.inr ⟨cs,true,sz,?_,by rw [List.drop_zero,List.take_of_length_le (by omega)]⟩⟩⟩
  rw [back_get]
  exact h5
theorem ownE_val {n s len : Nat} {cs : List Value} {v : Value} {o : Option Nat} (ho : OwnE n g s cs len v o) : v.cells = #[v] ∧ one v = true ∧ kn1 v = true := by
 obtain ⟨_,_,⟨_,rfl,_⟩ | ⟨_,_,_,_,rfl,_⟩⟩ := ho <;> exact ⟨rfl,rfl,rfl⟩
theorem ownE_more {s len : Nat} {cs e : List Value} {v y : Value} {o : Option Nat} (ho : OwnE A.length g s cs len v o) (hs : 0 < s) (hl : len < 100000) (hy : Sli (A ++ g) y s 1 e)
  (hk : ∀ v' g',OwnE A.length g' s (cs ++ e) (len + 1) v' (some g.length) → (∀ i x,o ≠ some i → g[i]? = some x → g'[i]? = some x) → H v' (A ++ g')) : aApp s v y (A ++ g) H := by
 have hr : room = 1073741824 := rfl
 have hel : e.length = s := by
  have := sli_vlen hy
  omega
 have hek : kn e = true := by
  obtain ⟨_,_,_,⟨_,h⟩,_⟩ := hy
  exact h
 have new : ∀ g1 : List af,g1.length = g.length → (∀ i x,o ≠ some i → g[i]? = some x → g1[i]? = some x) → cs.length = len * s → kn cs = true → H (.slice (some ⟨(A ++ g).length,0,none⟩) (len + 1) fz) (A ++ (g1 ++ [.cells (cs ++ e) true s])) := by
  intro g1 hg1 hkeep h1 h2
  refine hk _ _ ⟨?_,?_,.inr ⟨g.length,fz,s,rfl,by simp,by simp [← hg1],.inl ⟨rfl,rfl⟩⟩⟩ fun j x hj hx => get_app (hkeep j x hj hx)
  ·rw [List.length_append,hel,h1,Nat.succ_mul]
  ·unfold kn at *
   rw [List.all_append,h2,hek]
   rfl
 obtain ⟨h1,h2,⟨rfl,rfl,rfl⟩ | ⟨i,c,sz,rfl,rfl,h5,h6⟩⟩ := ho
 ·have hcs : cs = [] := List.length_eq_zero_iff.1 (by omega)
  subst hcs
  refine app_nil hs hy (by omega) (fun e => absurd e (by omega)) fun _ => ?_
  rw [List.append_assoc]
  exact new g rfl (fun _ _ _ hx => hx) h1 h2
 ·have hlt := (List.getElem?_eq_some_iff.1 h5).1
  have ht : cs.take (len * s) = cs := List.take_of_length_le (by omega)
  rcases h6 with ⟨rfl,rfl⟩ | rfl
  ·refine app_own (cs := cs) (by rw [back_get]; exact h5) (by omega) (by rw [ht]; exact h2) hs hy (by omega) ?_
   rw [back_set,List.append_assoc,ht]
   exact new _ (by simp) (fun j x hj hx => cI hx fun e => hj (by rw [e])) h1 h2
  ·refine app_copy (cs := cs) (by rw [back_get]; exact h5) (by omega) (by rw [List.drop_zero,ht]; exact h2) (by omega) hs hy (by omega) ?_
   rw [List.append_assoc,List.drop_zero,ht]
   exact new g rfl (fun _ _ _ hx => hx) h1 h2
theorem hfa {nv : Value} {k : Nat} {s : Int} {rest : List af} (hs : 0 ≤ s ∧ s < 18446744073709551616) (hk : k < 1000000) {ns : List Int} (sn : Sli h nv 1 ns.length (ns.map ab)) (hln : ns.length < 4611686018427387904) : HandAt (HF h nv k s rest ++ g) h.length nv ns k s := by
 rw [hf_app]
 exact hf_hand sn hln hk hs.1 hs.2
theorem hfd {nv : Value} {k n : Nat} {s : Int} {rest h' : List af} (hd : Dealt (HF h nv k s rest ++ g) h.length nv k n h') : ∃ k' s',k' ≤ k + n ∧ (0 ≤ s' ∧ s' < 18446744073709551616) ∧ h' = HF h nv k' s' rest ++ g := by
 rw [hf_app] at hd
 obtain ⟨k',s',a,b,c,rfl⟩ := hf_dealt hd
 exact ⟨k',s',a,⟨b,c⟩,by rw [hf_app]⟩
structure Hnd (h : List af) (nv : Value) (ns : List Int) : Prop where
 list : Sli h nv 1 ns.length (ns.map ab)
 sane : ns.length < 4611686018427387904
variable {nv : Value} {ns : List Int} {rest : List af} {k : Nat} {s : Int}
section
variable {KV : Value → Prop} {a b : Int} {t : TypeId} {h : List af}
theorem aQ {b o d : Nat} (hk : KV (ptr b (o + d))) : aL (ptr b o) d KV := hk
theorem bu {c : List Value} {KL : List Value → Prop} (hk : KL c) : aH c [] KL := hk
theorem ec {b o : Nat} (hk : KV (ptr b o)) : cJ (ptr b o) KV := hk
theorem ck (h : -9223372036854775808 ≤ a + b ∧ a + b < 9223372036854775808) (hk : KV (ab (a + b))) : aj prog .add t (ab a) (ab b) KV := by rw [b_add h]; exact hk
theorem subI (h : -9223372036854775808 ≤ a - b ∧ a - b < 9223372036854775808) (hk : KV (ab (a - b))) : aj prog .sub t (ab a) (ab b) KV := by rw [b_sub h]; exact hk
theorem mulI (h : -9223372036854775808 ≤ a * b ∧ a * b < 9223372036854775808) (hk : KV (ab (a * b))) : aj prog .mul t (ab a) (ab b) KV := by rw [b_mul h]; exact hk
theorem minI (hk : KV (ab (min a b))) : aMin (ab a) [ab b] KV := by rw [a_min]; exact hk
theorem maxI (hk : KV (ab (max a b))) : aMax (ab a) [ab b] KV := by rw [a_max]; exact hk
theorem dh (hk : KV (.bool (decide (a < b)))) : aj prog .lss t (ab a) (ab b) KV := by rw [b_lss]; exact hk
theorem gtrI (hk : KV (.bool (decide (a > b)))) : aj prog .gtr t (ab a) (ab b) KV := by rw [b_gtr]; exact hk
theorem geqI (hk : KV (.bool (decide (a ≥ b)))) : aj prog .geq t (ab a) (ab b) KV := by rw [b_geq]; exact hk
theorem leqI (hk : KV (.bool (decide (a ≤ b)))) : aj prog .leq t (ab a) (ab b) KV := by rw [b_leq]; exact hk
theorem eqlI (hk : KV (.bool (decide (a = b)))) : aj prog .eql t (ab a) (ab b) KV := by rw [b_eql]; exact hk
theorem neqI (hk : KV (.bool (decide (a ≠ b)))) : aj prog .neq t (ab a) (ab b) KV := by rw [b_neq]; exact hk
theorem dU {x : Bool} (hk : KV (.bool (!x))) : aUn .not (.bool x) KV := hk
theorem ba {p : Prop} [Decidable p] {A B : Prop} (h1 : p → A) (h2 : ¬ p → B) : cnd (.bool (decide p)) A B := cnd_dec.2 ⟨h1,h2⟩
theorem cndN {p : Prop} [Decidable p] {A B : Prop} (h1 : ¬ p → A) (h2 : p → B) : cnd (.bool (!decide p)) A B := cnd_ndec.2 ⟨h1,h2⟩
theorem lenI {v : Value} {s n : Nat} {cells : List Value} (hs : Sli h v s n cells) (hk : KV (ab n)) : b0 v KV := by rw [sli_len hs]; exact hk
theorem ldI {b o s : Nat} {c : List Value} {wr : Bool} {sz : Nat} {v : Value} (hb : h[b]? = some (.cells c wr sz)) (hv : c[o]? = some v) (hn : kn1 v = true) (hk : KV v) : ai false s (ptr b o) h KV := by rw [load_cell hb hv hn]; exact hk
theorem idxI {s b o n c : Nat} {j : Int} (h1 : 0 ≤ j ∧ j < n) (hk : KV (ptr b (o + j.toNat * s))) : bT s (.slice (some ⟨b,o,none⟩) n c) (ab j) KV := by rw [idx_ok]; exact ⟨h1,hk⟩
theorem ext0 {a b : Value} (hk : KV a) : bL (.tuple ⟨[a,b]⟩) 0 KV := hk
theorem ext1 {a b : Value} (hk : KV b) : bL (.tuple ⟨[a,b]⟩) 1 KV := hk
theorem ext30 {a b c : Value} (hk : KV a) : bL (.tuple ⟨[a,b,c]⟩) 0 KV := hk
theorem ext31 {a b c : Value} (hk : KV b) : bL (.tuple ⟨[a,b,c]⟩) 1 KV := hk
theorem ext32 {a b c : Value} (hk : KV c) : bL (.tuple ⟨[a,b,c]⟩) 2 KV := hk
end
theorem up (hJ : Closed prog main J) (hn : Hnd h nv ns) (hs : 0 ≤ s ∧ s < 18446744073709551616) (hk : k < 1000000) {m : Int} (hm : m < 1000000)
  (hK : ∀ y k' s',0 ≤ y → (y ≤ m ∨ y = 0) → k' ≤ k + 1 → (0 ≤ s' ∧ s' < 18446744073709551616) → K (ab y) (HF h nv k' s' rest ++ g)) : Good prog J 25 [ptr h.length 0,ab m] (HF h nv k s rest ++ g) K := by
 refine good25 hJ (hfa hs hk hn.list hn.sane) (by omega) fun y h1 a b hd => ?_
 obtain ⟨k',s',c,d,rfl⟩ := hfd hd
 exact hK y k' s' a b c d
theorem amo (hJ : Closed prog main J) (hn : Hnd h nv ns) (hs : 0 ≤ s ∧ s < 18446744073709551616) (hk : k < 1000000) {lo hi : Int} (h1 : -1000000 ≤ lo ∧ lo ≤ 1000000) (h2 : -1000000 ≤ hi ∧ hi ≤ 1000000)
  (hK : ∀ y k' s',lo ≤ y → (y ≤ hi ∨ y = lo) → k' ≤ k + 1 → (0 ≤ s' ∧ s' < 18446744073709551616) → K (ab y) (HF h nv k' s' rest ++ g)) : Good prog J 23 [ptr h.length 0,ab lo,ab hi] (HF h nv k s rest ++ g) K := by
 refine good23 hJ (hfa hs hk hn.list hn.sane) (by omega) (by omega) fun y h1 a b hd => ?_
 obtain ⟨k',s',c,d,rfl⟩ := hfd hd
 exact hK y k' s' a b c d
end
end Go.Proofs.YtlhanfcgdfjhjaaGreatDoor
namespace Go.Proofs.YtlhanfcgdfjhjaaGreatDoor
open Go.Conc Go.Proofs.Tryz
set_option maxRecDepth 100000
def ag (X : List Nat) (h H : List af) : Prop := h.length ≤ H.length ∧ ∀ i,i < h.length → i ∉ X → H[i]? = h[i]?
theorem ag.refl {X : List Nat} {h : List af} : ag X h h := ⟨Nat.le_refl _,fun _ _ _ => rfl⟩
theorem ag.trans {X : List Nat} {h H H' : List af} (a : ag X h H) (b : ag X H H') : ag X h H' :=
 ⟨Nat.le_trans a.1 b.1,fun i hi hx => by rw [b.2 i (Nat.lt_of_lt_of_le hi a.1) hx,a.2 i hi hx]⟩
theorem ag.app {X : List Nat} {h H g : List af} (a : ag X h H) : ag X h (H ++ g) :=
 ⟨by have := a.1; simp; omega,fun i hi hx => by rw [List.getElem?_append_left (Nat.lt_of_lt_of_le hi a.1),a.2 i hi hx]⟩
theorem ag.set {X : List Nat} {h H : List af} {i : Nat} {o : af} (a : ag X h H) (hi : i ∈ X ∨ h.length ≤ i) : ag X h (H.set i o) :=
 ⟨by have := a.1; simp; omega,fun j hj hx => by
  rw [List.getElem?_set,if_neg,a.2 j hj hx]
  rintro rfl
  rcases hi with hi | hi
  ·exact hx hi
  ·omega⟩
theorem ag.get {X : List Nat} {h H : List af} {i : Nat} {o : af} (a : ag X h H) (hx : h[i]? = some o) (hi : i ∉ X) : H[i]? = some o := by
 rw [a.2 i (List.getElem?_eq_some_iff.1 hx).1 hi,hx]
theorem ag.pre {X : List Nat} {h0 g H : List af} (a : ag X (h0 ++ g) H) (hX : ∀ x ∈ X,h0.length ≤ x) : ∃ g',H = h0 ++ g' := by
 refine ⟨H.drop h0.length,?_⟩
 have : H.take h0.length = h0 := by
  apply List.ext_getElem?
  intro i
  rw [List.getElem?_take]
  split
  ·rename_i hi
   rw [a.2 i (by simp; omega) (fun hx => by have := hX i hx; omega),List.getElem?_append_left hi]
  ·rename_i hi
   rw [List.getElem?_eq_none (by omega)]
 conv => lhs; rw [← List.take_append_drop h0.length H,this]
end Go.Proofs.YtlhanfcgdfjhjaaGreatDoor
namespace Go.Proofs.YtlhanfcgdfjhjaaGreatDoor
open Go.Conc Go.Proofs.Tryz
set_option maxRecDepth 100000
def OwnX (H : List af) (s : Nat) (cs : List Value) (len : Nat) (v : Value) (o : Option Nat) : Prop :=
 cs.length = len * s ∧ kn cs = true ∧ ((len = 0 ∧ v = .slice none 0 0 ∧ o = none) ∨ ∃ i c sz,o = some i ∧ v = .slice (some ⟨i,0,none⟩) len c ∧ H[i]? = some (.cells cs true sz) ∧ ((c = fz ∧ sz = s) ∨ c = len))
section
variable {h H : List af} {K : Value → List af → Prop} {KV : Value → Prop} {HL : List af → Prop} {n0 : Nat}
theorem ag.weak {X Y : List Nat} {h H : List af} (a : ag X h H) (hxy : ∀ x ∈ X,x ∈ Y) : ag Y h H := ⟨a.1,fun i hi hx => a.2 i hi fun hm => hx (hxy i hm)⟩
theorem ag.bN {Y : List Nat} {h H : List af} (a : ag [] h H) : ag Y h H := a.weak (by simp)
theorem ag.bq {X Y : List Nat} {h H H' : List af} (a : ag X h H) (b : ag Y H H') (hy : ∀ y ∈ Y,y ∈ X ∨ h.length ≤ y) : ag X h H' :=
 ⟨Nat.le_trans a.1 b.1,fun i hi hx => by
  rw [b.2 i (Nat.lt_of_lt_of_le hi a.1) fun hm => ?_,a.2 i hi hx]
  rcases hy i hm with h1 | h1
  ·exact hx h1
  ·omega⟩
theorem ag.app0 {X : List Nat} {h H : List af} (a : ag X h H) (hX : ∀ x ∈ X,h.length ≤ x) : ∃ g,H = h ++ g := by
 have := ag.pre (h0 := h) (g := []) (X := X) (H := H) (by simpa using a) hX
 exact this
theorem ah {i : Nat} {o : af} (hx : H[i]? = some o) : i < H.length := (List.getElem?_eq_some_iff.1 hx).1
theorem ag.sli {X : List Nat} {v : Value} {s n : Nat} {cs : List Value} (a : ag X h H) (hs : Sli h v s n cs) (hX : ∀ x ∈ X,h.length ≤ x) : Sli H v s n cs := by
 obtain ⟨g,rfl⟩ := a.app0 hX
 exact sli_app hs
theorem qAl {l : List Value} (hk : ∀ H' p,p = H.length → ag [] H H' → H'[p]? = some (.cells l true 0) → H'.length = p + 1 → K (ptr p 0) H') : bo l H K :=
 hk _ _ rfl ag.refl.app (by simp) (by simp)
theorem dk {l : List Value} (h1 : l.all one = true) (hk : ∀ H' p,p = H.length → ag [] H H' → H'[p]? = some (.cells l true 0) → H'.length = p + 1 → K (ptr p 0) H') : cq (.agg ⟨l⟩) H K :=
 box_agg h1 (hk _ _ rfl ag.refl.app (by simp) (by simp))
theorem qBox1 {v : Value} (hc : v.cells = #[v]) (h1 : one v = true) (hk : ∀ H' p,p = H.length → ag [] H H' → H'[p]? = some (.cells [v] true 0) → H'.length = p + 1 → K (ptr p 0) H') : cq v H K :=
 box_one hc h1 (hk _ _ rfl ag.refl.app (by simp) (by simp))
theorem du {n : Nat} {l : List Value} (hk : ∀ H' p,p = H.length → ag [] H H' → H'[p]? = some (.cells l true 0) → H'.length = p + 1 → K (.slice (some ⟨p,0,none⟩) n n) H') : aX n l H K :=
 hk _ _ rfl ag.refl.app (by simp) (by simp)
theorem qNewM (hk : ∀ H' p,p = H.length → ag [] H H' → H'[p]? = some (.map [] true) → H'.length = p + 1 → K (.map (some p)) H') : aNewM H K :=
 hk _ _ rfl ag.refl.app (by simp) (by simp)
theorem qMk {z : List Value} {n : Nat} (hn : n ≤ 100000) (hk : ∀ H' p,p = H.length → ag [] H H' → H'[p]? = some (.cells (aV z n) true 0) → H'.length = p + 1 → K (.slice (some ⟨p,0,none⟩) n n) H') : aMkS z (ab n) (ab n) H K := by
 have hr : room = 1073741824 := rfl
 simp only [aMkS,Int.toNat_natCast]
 exact ⟨by omega,by omega,by omega,hk _ _ rfl ag.refl.app (by simp) (by simp)⟩
theorem qSt {b o : Nat} {c : List Value} {sz : Nat} {v : Value} (hb : H[b]? = some (.cells c true sz)) (ho : o < c.length) (h1 : v.cells = #[v]) (h2 : one v = true) (hk : ∀ H',ag [b] H H' → H'[b]? = some (.cells (c.set o v) true sz) → H'.length = H.length → HL H') : aB 1 (ptr b o) v H HL :=
 store_cell hb ho h1 h2 (hk _ (ag.refl.set (.inl (by simp))) (List.getElem?_set_self (ah hb)) (by simp))
theorem da {b n : Nat} {cs c : List Value} {sz : Nat} (hb : H[b]? = some (.cells cs true sz)) (hl : c.length = n) (hs : cs.length = n) (h1 : c.all one = true) (hk : ∀ H',ag [b] H H' → H'[b]? = some (.cells c true sz) → H'.length = H.length → HL H') : aB n (ptr b 0) (.agg ⟨c⟩) H HL :=
 store_agg hb hl hs h1 (hk _ (ag.refl.set (.inl (by simp))) (List.getElem?_set_self (ah hb)) (by simp))
theorem ownX_iff {s len : Nat} {cs : List Value} {v : Value} {o : Option Nat} : OwnX H s cs len v o ↔ OwnE 0 H s cs len v o := by
 simp [OwnX,OwnE]
theorem dI {s len : Nat} {cs : List Value} {v : Value} {o : Option Nat} {H' : List af} {X : List Nat} (ho : OwnX H s cs len v o) (a : ag X H H') (hX : ∀ i,o = some i → i ∉ X) : OwnX H' s cs len v o := by
 obtain ⟨h1,h2,h3 | ⟨i,c,sz,rfl,h4,h5,h6⟩⟩ := ho
 ·exact ⟨h1,h2,.inl h3⟩
 ·exact ⟨h1,h2,.inr ⟨i,c,sz,rfl,h4,a.get h5 (hX i rfl),h6⟩⟩
theorem bS {s len : Nat} {cs : List Value} {v : Value} {o : Option Nat} (ho : OwnX H s cs len v o) : Sli H v s len cs := by
 have := ownE_sli (A := []) (ownX_iff.1 ho)
 exact this
theorem ownX_val {s len : Nat} {cs : List Value} {v : Value} {o : Option Nat} (ho : OwnX H s cs len v o) : v.cells = #[v] ∧ one v = true ∧ kn1 v = true := ownE_val (ownX_iff.1 ho)
theorem ownX_lt {s len : Nat} {cs : List Value} {v : Value} {o : Option Nat} (ho : OwnX H s cs len v o) : ∀ i,o = some i → i < H.length := fun _ hi => ownE_lt (ownX_iff.1 ho) hi
theorem dv {s n p : Nat} {l : List Value} (hp : H[p]? = some (.cells l true 0)) (hl : l.length = n * s) (hk : kn l = true) : OwnX H s l n (.slice (some ⟨p,0,none⟩) n n) (some p) :=
 ⟨hl,hk,.inr ⟨p,n,0,rfl,rfl,hp,.inr rfl⟩⟩
theorem ownX_more {s len : Nat} {cs e : List Value} {v y : Value} {o : Option Nat} (ho : OwnX H s cs len v o) (hs : 0 < s) (hl : len < 100000) (hy : Sli H y s 1 e)
  (hk : ∀ v' H' p,p = H.length → OwnX H' s (cs ++ e) (len + 1) v' (some p) → ag o.toList H H' → K v' H') : aApp s v y H K := by
 have hlo := ownX_lt ho
 refine ownE_more (A := []) (g := H) (ownX_iff.1 ho) hs hl hy fun v' g' ho' hkeep => hk v' ([] ++ g') _ rfl (ownX_iff.2 ho') ⟨?_,fun i hi hx => ?_⟩
 ·have := ownE_lt ho' rfl
  simp only [List.nil_append]
  omega
 ·have hx' : o ≠ some i := fun e => hx (by rw [e]; simp)
  obtain ⟨x,hxx⟩ : ∃ x,H[i]? = some x := ⟨H[i],List.getElem?_eq_getElem hi⟩
  rw [hxx]
  exact hkeep i x hx' hxx
theorem retX {X : List Nat} {vs : List Value} (ok : aD h) (hn : n0 ≤ h.length) (S : ag X h H) (hX : ∀ x ∈ X,h.length ≤ x) (hv : ∀ v ∈ vs,v ≠ unk) (hw : VOk h.length (pack vs)) (hk : K (pack vs) h) : aI n0 K [] vs H := by
 obtain ⟨g,rfl⟩ := S.app0 hX
 exact retL_drop ok hn hv hw hk
end
end Go.Proofs.YtlhanfcgdfjhjaaGreatDoor
namespace Go.Proofs.YtlhanfcgdfjhjaaGreatDoor
open Go.Conc Go.Proofs.Tryz
set_option maxRecDepth 100000
def HX (h H : List af) (ns : List Int) (k : Nat) : Prop := ∃ nv k' s rest,H = HF h nv k' s rest ∧ k' ≤ k ∧ (0 ≤ s ∧ s < 18446744073709551616) ∧ Hnd h nv ns
section
variable {main : Bool} {J : JT} {h H : List af} {K : Value → List af → Prop} {ns : List Int} {k : Nat}
theorem HX.mono {k' : Nat} (a : HX h H ns k) (hk : k ≤ k') : HX h H ns k' := by
 obtain ⟨nv,k1,s,rest,e,h1,h2,h3⟩ := a
 exact ⟨nv,k1,s,rest,e,by omega,h2,h3⟩
theorem HX.pre (a : HX h H ns k) : ag [] h H := by
 obtain ⟨nv,k1,s,rest,rfl,_⟩ := a
 exact ag.refl.app
theorem HX.same {X : List Nat} {H' : List af} (a : HX h H ns k) (S : ag X H H') (hX : ∀ x ∈ X,h.length < x) : HX h H' ns k := by
 obtain ⟨nv,k1,s,rest,rfl,h1,h2,h3⟩ := a
 have e : HF h nv k1 s rest = (h ++ [.cells [nv,ab k1,.int .u64 s] true 0]) ++ rest := by simp [HF]
 rw [e] at S
 obtain ⟨g,hg⟩ := S.pre (fun x hx => by have := hX x hx; simp; omega)
 exact ⟨nv,k1,s,g,by rw [hg]; simp [HF],h1,h2,h3⟩
theorem hf_same {nv : Value} {k1 k2 : Nat} {s1 s2 : Int} {rest g : List af} : ag [h.length] (HF h nv k1 s1 rest) (HF h nv k2 s2 rest ++ g) := by
 refine ⟨by rw [hf_app,hf_len,hf_len]; simp,fun i hi hx => ?_⟩
 simp at hx
 rw [List.getElem?_append_left (by rw [hf_len] at hi ⊢; omega)]
 unfold HF
 rcases Nat.lt_or_ge i h.length with x | x
 ·rw [List.getElem?_append_left x,List.getElem?_append_left x]
 ·rw [List.getElem?_append_right x,List.getElem?_append_right x]
  obtain ⟨j,hj⟩ : ∃ j,i - h.length = j + 1 := ⟨i - h.length - 1,by omega⟩
  rw [hj]
  rfl
theorem newX (hJ : Closed prog main J) {nv : Value} (sn : Sli h nv 1 ns.length (ns.map ab)) (hln : ns.length < 4611686018427387904)
  (hK : ∀ H,HX h H ns 0 → K (ptr h.length 0) H) : Good prog J 6 [nv] h K := by
 obtain ⟨nb,nc,hnv,_⟩ := id sn
 subst hnv
 exact good6 hJ (hK _ ⟨_,0,88172645463325252,[],rfl,Nat.le_refl _,by omega,⟨sn,hln⟩⟩)
theorem upX (hJ : Closed prog main J) (a : HX h H ns k) (hk : k < 1000000) {m : Int} (hm : m < 1000000)
  (hK : ∀ y H',0 ≤ y → (y ≤ m ∨ y = 0) → ag [h.length] H H' → H'.length = H.length → HX h H' ns (k + 1) → K (ab y) H') : Good prog J 25 [ptr h.length 0,ab m] H K := by
 obtain ⟨nv,k1,s,rest,rfl,h1,h2,h3⟩ := a
 have := up (k := k1) (g := []) (rest := rest) (K := K) hJ h3 h2 (by omega) hm fun y k' s' a1 a2 a3 a4 => hK y _ a1 a2 hf_same (by simp [hf_len]) ⟨nv,k',s',rest,by simp,by omega,a4,h3⟩
 simpa using this
theorem amX (hJ : Closed prog main J) (a : HX h H ns k) (hk : k < 1000000) {lo hi : Int} (h1 : -1000000 ≤ lo ∧ lo ≤ 1000000) (h2 : -1000000 ≤ hi ∧ hi ≤ 1000000)
  (hK : ∀ y H',lo ≤ y → (y ≤ hi ∨ y = lo) → ag [h.length] H H' → H'.length = H.length → HX h H' ns (k + 1) → K (ab y) H') : Good prog J 23 [ptr h.length 0,ab lo,ab hi] H K := by
 obtain ⟨nv,k1,s,rest,rfl,b1,b2,b3⟩ := a
 have := amo (k := k1) (g := []) (rest := rest) (K := K) hJ b3 b2 (by omega) h1 h2 fun y k' s' a1 a2 a3 a4 => hK y _ a1 a2 hf_same (by simp [hf_len]) ⟨nv,k',s',rest,by simp,by omega,a4,b3⟩
 simpa using this
end
end Go.Proofs.YtlhanfcgdfjhjaaGreatDoor
namespace Go.Proofs.YtlhanfcgdfjhjaaGreatDoor
open Go.Conc Go.Proofs.Tryz
set_option maxRecDepth 100000
end Go.Proofs.YtlhanfcgdfjhjaaGreatDoor
namespace Go.Proofs.YtlhanfcgdfjhjaaGreatDoor
open Go.Conc Go.Proofs.Tryz
set_option maxRecDepth 100000
section
variable {main : Bool} {J : JT} {h H : List af} {K : Value → List af → Prop} {KV : Value → Prop} {HL : List af → Prop} {n0 : Nat}
theorem knV (l : List Int) : kn (l.map ab) = true := by
 simp [kn,kn1]
theorem sliN {v : Value} {xs : List Int} (hs : Sli h v 1 xs.length (xs.map ab)) {i : Nat} {x : Int} (hx : xs[i]? = some x) {K2 : Value → Value → Prop} (hK : ∀ p,K2 p (ab x)) : bT 1 v (ab (i : Nat)) fun p => ai false 1 p h (K2 p) := by
 have hi := (List.getElem?_eq_some_iff.1 hx).1
 exact cF hs ⟨by omega,by omega⟩ (by rw [Int.toNat_natCast,List.getElem?_map,hx]; rfl) hK
theorem aK {m : List Value} {o s : Nat} {v : Value} {l : List Value} {ps : List (Nat × Nat × Value)} {KL : List Value → Prop} (hv : v.cells.toList = l) (hs : l.length = s) (ho : l.all one = true) (hl : o + s ≤ m.length) (hk : aH (dL m o l) ps KL) : aH m ((o,s,v) :: ps) KL := by
 subst hv
 exact ⟨hs,ho,hl,hk⟩
theorem retQs {n0 : Nat} {rs : List ResultVar} {f : RG} (ds : f.ds = []) (hr : resW prog rs f.r h fun vs => K (pack vs) h) : aq prog rs n0 K .ret f h := by
 unfold aq
 rw [ds]
 exact resW_imp rs hr fun vs hk => .inl hk
theorem nu2 {a b : Value} (ha : a ≠ unk) (hb : b ≠ unk) : ∀ v ∈ [a,b],v ≠ unk := by
 intro v hv
 simp only [List.mem_cons,List.not_mem_nil,or_false] at hv
 rcases hv with rfl | rfl <;> assumption
theorem cndB {b : Bool} {A B : Prop} (h1 : b = true → A) (h2 : b = false → B) : cnd (.bool b) A B := by
 cases b
 ·exact aP.2 (h2 rfl)
 ·exact bm.2 (h1 rfl)
theorem callCz {g : FuncId} {args cap : List Value} (hg : Nat.blt g prog.funcs.size = true) (hk : Good prog J g (args ++ cap) H K) : dC prog (Good prog J) (.func (.func g) ⟨[]⟩ ⟨cap⟩) args H K := by
 show (bif Nat.blt g prog.funcs.size then Good prog J g ([] ++ args ++ cap) H K else False)
 rw [hg,cond_true,List.nil_append]
 exact hk
theorem retLdef {n0 n : Nat} {vs : List Value} (hd : h[n]? = some .deferred) (hv : ∀ v ∈ vs,v ≠ unk) (hk : K (pack vs) (h.set n .dead)) : aI n0 K [n] vs h := by
 have := ao (n0 := n0) (H := K) hv hk
 unfold aI at *
 exact ⟨hd,this⟩
theorem appIn {b k m : Nat} {cs : List Value} {v y : Value} (hb : H[b]? = some (.cells cs true 0)) (hl : cs.length = m) (hk : k < m) (hm : m < 1000) (hc : kn (cs.take k) = true) (hy : Sli H y 1 1 [v])
  (hK : ∀ H',ag [b] H H' → H'[b]? = some (.cells (cs.set k v) true 0) → H'.length = H.length → K (.slice (some ⟨b,0,none⟩) (k + 1) m) H') : aApp 1 (.slice (some ⟨b,0,none⟩) k m) y H K := by
 have hfz : (1000 : Nat) < fz := by decide
 have hrm : (2000 : Nat) < room := by decide
 obtain ⟨yb,yc,rfl,hyk,hh⟩ := id hy
 refine ⟨by omega,src_sli hy (by omega) ?_⟩
 simp only [hb]
 refine ⟨⟨by omega,by simpa using hc⟩,fun _ => ⟨fun _ => ⟨trivial,by omega,?_⟩,fun h => absurd h (by omega)⟩,fun h => absurd h (by omega)⟩
 have e : dL cs (0 + k * 1) [v] = cs.set k v := by simp [dL]
 rw [e]
 exact hK _ (ag.refl.set (.inl (by simp))) (List.getElem?_set_self (ah hb)) (by simp)
theorem neqNilZ {t e : TypeId} {base : Option Addr} {n c : Nat} (ht : prog.underlying t = some (.slice e)) (hg : prog.eqGuardType prog.depth t = false) (hk : KV (.bool (!base.isNone))) : aj prog .neq t (.slice base n c) (.slice none 0 0) KV := by
 show aEq prog true t (.slice base n c) (.slice none 0 0) KV
 have : teq prog 10000 t (.slice base n c) (.slice none 0 0) = some base.isNone := by
  unfold teq
  rw [ht]
  cases base <;> rfl
 unfold aEq
 rw [this]
 exact ⟨hg,by simpa using hk⟩
theorem idxAz {s len b : Nat} {j : Nat} (h1 : j < len) (hk : KV (ptr b (j * s))) : aIdxA len s (ptr b 0) (ab (j : Nat)) KV :=
 ⟨⟨by omega,by omega⟩,by rw [Int.toNat_natCast,Nat.zero_add]; exact hk⟩
theorem sbOne {X : List Nat} {p : Nat} {H H' : List af} (S : ag X H H') (hp : p < H.length) (hX : p ∉ X) : aG (some [p]) H H' := fun b hb => by
 simp at hb
 subst hb
 exact S.2 _ hp hX
theorem sbTwo {X : List Nat} {p q : Nat} {H H' : List af} (S : ag X H H') (hp : p < H.length) (hq : q < H.length) (hX : p ∉ X) (hY : q ∉ X) : aG (some [p,q]) H H' := fun b hb => by
 simp at hb
 rcases hb with rfl | rfl
 ·exact S.2 _ hp hX
 ·exact S.2 _ hq hY
theorem endQexit {n id : Nat} {f : RG} {Q : QT} {v : Value} {st : LoopState} {fn : FuncId} {r : Nat → Value} {size : Nat} {params : Array Tmp} {assign body : Code} {dfr : Nat} (hl : h[n + 1]? = some (.loop st (some (.exit id)) fn r size params assign body dfr)) (hs : st ≠ .busy) (hq : Q (.exit id) ⟨f.r,n :: f.ds⟩ (h.set (n + 1) .dead)) : endQ n f Q v h :=
 ⟨st,some (.exit id),_,_,_,_,_,_,_,hl,hs,hq⟩
theorem endQnorm {n : Nat} {f : RG} {Q : QT} {v : Value} {st : LoopState} {fn : FuncId} {r : Nat → Value} {size : Nat} {params : Array Tmp} {assign body : Code} {dfr : Nat} (hl : h[n + 1]? = some (.loop st none fn r size params assign body dfr)) (hs : st ≠ .busy) (hq : Q .normal ⟨f.r,n :: f.ds⟩ (h.set (n + 1) .dead)) : endQ n f Q v h :=
 ⟨st,none,_,_,_,_,_,_,_,hl,hs,hq⟩
theorem ownU {s len : Nat} {cs : List Value} {v : Value} {o : Option Nat} (O : OwnX H s cs len v o) : v ≠ unk := by
 have := (ownX_val O).2.2
 intro e
 rw [e] at this
 cases this
theorem fillP2 {a b : Value} {KL : List Value → Prop} (ha : a.cells = #[a] ∧ one a = true) (hb : b.cells = #[b] ∧ one b = true) {z : Value} (hk : KL [a,b]) : aH (aV [z] 2) [(0,1,a),(1,1,b)] KL := by
 refine aK (l := [a]) (by rw [ha.1]) rfl (by simp [ha.2]) (by show 0 + 1 ≤ 2; decide) ?_
 refine aK (l := [b]) (by rw [hb.1]) rfl (by simp [hb.2]) (by rw [aW]; show 1 + 1 ≤ 2; decide) ?_
 exact bu hk
theorem beqIZ (a b : Int) : (a == b) = decide (a = b) := by
 by_cases h : a = b
 ·simp [h]
 ·simp [h]
theorem eqlU {t : TypeId} {a b : UInt8} (hk : KV (.bool (decide (a = b)))) : aj prog .eql t (.int .u8 a.toNat) (.int .u8 b.toNat) KV := by
 refine ⟨rfl,?_⟩
 show KV (.bool (((a.toNat : Nat) : Int) == ((b.toNat : Nat) : Int)))
 rw [beqIZ]
 have : ((a.toNat : Nat) : Int) = ((b.toNat : Nat) : Int) ↔ a = b := by rw [Int.ofNat_inj]; exact UInt8.toNat_inj
 rw [decide_eq_decide.2 this]
 exact hk
theorem neqU {t : TypeId} {a b : UInt8} (hk : KV (.bool (decide (a ≠ b)))) : aj prog .neq t (.int .u8 a.toNat) (.int .u8 b.toNat) KV := by
 refine ⟨rfl,?_⟩
 show KV (.bool (((a.toNat : Nat) : Int) != ((b.toNat : Nat) : Int)))
 unfold bne
 rw [beqIZ,← decide_not]
 have : (¬ ((a.toNat : Nat) : Int) = ((b.toNat : Nat) : Int)) ↔ a ≠ b := by rw [Int.ofNat_inj,UInt8.toNat_inj]
 rw [decide_eq_decide.2 this]
 exact hk
theorem byteI {l : List UInt8} {i : Nat} {b : UInt8} (hb : l[i]? = some b) (hk : KV (.int .u8 b.toNat)) : bX (.string ⟨⟨l⟩⟩) (ab (i : Nat)) KV := by
 refine ⟨by omega,?_⟩
 show match l[((i : Nat) : Int).toNat]? with
  | some b => KV (.int .u8 b.toNat)
  | none => False
 rw [Int.toNat_natCast,hb]
 exact hk
theorem lenStrI {l : List UInt8} (hk : KV (ab l.length)) : bA (.string ⟨⟨l⟩⟩) KV := hk
end
structure Pas where
 grass : Int
 bears : Int
 dry : Int
 wet : Int
 stubble : Int
 sleep : Int
 deriving DecidableEq
structure aU where
 days : Int
 drought : Int
 flood : Int
 deriving DecidableEq
def Pas.cells (p : Pas) : List Value := [ab p.grass,ab p.bears,ab p.dry,ab p.wet,ab p.stubble,ab p.sleep]
def aU.cells (s : aU) : List Value := [ab s.days,ab s.drought,ab s.flood]
def cA (p : Pas) : Prop := (1 ≤ p.bears ∧ p.bears ≤ 99) ∧ (0 ≤ p.grass ∧ p.grass ≤ p.bears) ∧ (0 ≤ p.dry ∧ p.dry ≤ 9) ∧ (p.dry ≤ p.wet ∧ p.wet ≤ 9) ∧ (0 ≤ p.stubble ∧ p.stubble ≤ p.bears) ∧ (0 ≤ p.sleep ∧ p.sleep ≤ 5)
instance (p : Pas) : Decidable (cA p) := by unfold cA; infer_instance
def bR (p : Pas) : Int := if cA p then 0 else 1
def cL (s : aU) : Prop := (1 ≤ s.days ∧ s.days ≤ 8) ∧ (1 ≤ s.drought ∧ s.drought ≤ s.days) ∧ (1 ≤ s.flood ∧ s.flood ≤ s.days)
instance (s : aU) : Decidable (cL s) := by unfold cL; infer_instance
def cd (s : aU) : Int := if cL s then 0 else 1
def cntE (n lo hi : Int) : Int := if n < lo then 7 else if n > hi then 6 else 0
def hunE (heads : List Int) (days : Int) : Int := if cntE heads.length days days ≠ 0 then cntE heads.length days days else if ∀ n ∈ heads,0 ≤ n ∧ n ≤ 40 then 0 else 1
def cQ (a b : Int) : Int := if a ≠ 0 then a else b
abbrev Std := Int × Int
def leftR (x : Std) (heads : Int) : Int := x.1 - min heads x.1
def hungR (x : Std) (heads : Int) : Bool := decide (heads > x.1)
def shortR (p : Pas) (x : Std) (heads : Int) : Bool := decide (heads > 0) && decide (leftR x heads < p.stubble)
def dayR (p : Pas) (x : Std) (heads : Int) (wet : Bool) : Std :=
 if shortR p x heads = true then (leftR x heads,p.sleep) else if x.2 > 0 then (leftR x heads,x.2 - 1) else (min p.bears (leftR x heads + (if wet = true then p.wet else p.dry)),x.2)
def medC (p : Pas) (x : Std) : List Value := p.cells ++ [ab x.1,ab x.2]
structure StdOk (p : Pas) (x : Std) : Prop where
 g : 0 ≤ x.1 ∧ x.1 ≤ p.bears
 a : 0 ≤ x.2 ∧ x.2 ≤ 5
theorem leftR_bd {p : Pas} {x : Std} (o : StdOk p x) {n : Int} (hn : 0 ≤ n) : 0 ≤ leftR x n ∧ leftR x n ≤ x.1 := by
 have := o.g
 unfold leftR
 omega
theorem dayR_ok {p : Pas} {x : Std} (f : cA p) (o : StdOk p x) {n : Int} (hn : 0 ≤ n) {w : Bool} : StdOk p (dayR p x n w) := by
 have hl := leftR_bd o hn
 have hg := o.g
 have ha := o.a
 obtain ⟨f1,f2,f3,f4,f5,f6⟩ := f
 unfold dayR
 split
 ·exact ⟨by dsimp only; omega,by dsimp only; omega⟩
 ·split
  ·exact ⟨by dsimp only; omega,by dsimp only; omega⟩
  ·refine ⟨?_,by dsimp only; omega⟩
   dsimp only
   split <;> omega
theorem std0_ok {p : Pas} (f : cA p) : StdOk p (p.grass,0) := ⟨f.2.1,by dsimp only; omega⟩
def wetB (b : UInt8) : Bool := decide (b = 119)
def stdR (p : Pas) (heads : List Int) (rain : List UInt8) : Nat → Std
 | 0 => (p.grass,0)
 | k + 1 => dayR p (stdR p heads rain k) (heads.getD k 0) (wetB (rain.getD k 0))
def hungAt (p : Pas) (heads : List Int) (rain : List UInt8) (k : Nat) : Bool := hungR (stdR p heads rain k) (heads.getD k 0)
def shortAt (p : Pas) (heads : List Int) (rain : List UInt8) (k : Nat) : Bool := shortR p (stdR p heads rain k) (heads.getD k 0)
def headsOk (heads : List Int) : Prop := ∀ n ∈ heads,0 ≤ n ∧ n ≤ 40
theorem headsOk_getD {heads : List Int} (hh : headsOk heads) (k : Nat) : 0 ≤ heads.getD k 0 ∧ heads.getD k 0 ≤ 40 := by
 rw [List.getD_eq_getElem?_getD]
 cases e : heads[k]? with
 | none => exact ⟨Int.le_refl _,by decide⟩
 | some n => exact hh n (List.mem_of_getElem? e)
theorem stdR_ok {p : Pas} {heads : List Int} {rain : List UInt8} (f : cA p) (hh : headsOk heads) : ∀ k,StdOk p (stdR p heads rain k)
 | 0 => std0_ok f
 | k + 1 => dayR_ok f (stdR_ok f hh k) (headsOk_getD hh k).1
def fstH (q : Nat → Bool) : Nat → Int
 | 0 => -1
 | n + 1 => if fstH q n ≥ 0 then fstH q n else if q n = true then (n : Int) else -1
theorem fstH_none {q : Nat → Bool} : ∀ {n : Nat},(∀ i,i < n → q i = false) → fstH q n = -1
 | 0,_ => rfl
 | n + 1,h => by
  unfold fstH
  rw [fstH_none fun i hi => h i (by omega),if_neg (by decide),if_neg (by rw [h n (by omega)]; decide)]
theorem fstH_some {q : Nat → Bool} {k : Nat} (hq : q k = true) (hno : ∀ i,i < k → q i = false) : ∀ {n : Nat},k < n → fstH q n = (k : Int)
 | 0,h => absurd h (Nat.not_lt_zero _)
 | n + 1,h => by
  unfold fstH
  by_cases e : k = n
  ·subst e
   rw [fstH_none hno,if_neg (by decide),if_pos hq]
  ·rw [fstH_some hq hno (by omega : k < n),if_pos (by omega)]
theorem fstH_pos {q : Nat → Bool} {i : Nat} (hq : q i = true) : ∀ {n : Nat},i < n → 0 ≤ fstH q n
 | 0,h => absurd h (Nat.not_lt_zero _)
 | n + 1,h => by
  unfold fstH
  by_cases x : fstH q n ≥ 0
  ·rw [if_pos x]
   exact x
  ·rw [if_neg x]
   by_cases y : i = n
   ·subst y
    rw [if_pos hq]
    omega
   ·exact absurd (fstH_pos hq (by omega)) x
def cH (p : Pas) (heads : List Int) (rain : List UInt8) : Int := fstH (hungAt p heads rain) rain.length
abbrev Spl := UInt8 × Int
def spC (x : Spl) : List Value := [.int .u8 x.1.toNat,ab x.2]
def cP (x : Spl) (c : UInt8) : Spl := if x.1 ≠ c then (c,1) else (c,x.2 + 1)
def dV (s : aU) (x : Spl) (c : UInt8) : Bool := if x.1 ≠ c then true else decide (x.2 < if c = 119 then s.flood else s.drought)
def growB (s : aU) : Nat → List UInt8 → Spl → List (List UInt8)
 | 0,w,_ => [w]
 | n + 1,w,x => (if dV s x 100 = true then growB s n (w ++ [100]) (cP x 100) else []) ++ (if dV s x 119 = true then growB s n (w ++ [119]) (cP x 119) else [])
def df (s : aU) : List (List UInt8) := growB s s.days.toNat [] (0,0)
theorem growB_len {s : aU} : ∀ {n : Nat} {w : List UInt8} {x : Spl},∀ u ∈ growB s n w x,u.length = w.length + n
 | 0,w,x,u,hu => by
  rw [List.mem_singleton.1 hu]
  rfl
 | n + 1,w,x,u,hu => by
  unfold growB at hu
  rcases List.mem_append.1 hu with hu | hu
  ·split at hu
   ·rw [growB_len u hu,List.length_append]
    simp
    omega
   ·cases hu
  ·split at hu
   ·rw [growB_len u hu,List.length_append]
    simp
    omega
   ·cases hu
theorem rainsB_len {s : aU} {u : List UInt8} (h : u ∈ df s) : u.length = s.days.toNat := by
 have := growB_len u h
 simpa using this
section
variable {main : Bool} {J : JT} {h H : List af} {K : Value → List af → Prop} {KV : Value → Prop} {HL : List af → Prop} {n0 : Nat}
theorem good44 (hJ : Closed prog main J) {n lo hi : Int} (hK : K (.bool (decide (lo ≤ n ∧ n ≤ hi))) h) : Good prog J 44 [ab n,ab lo,ab hi] h K := by
 refine g44 hJ fun ok => ?_
 rw [e44]
 refine leqI (ba (fun h1 => leqI (ao (by simp [unk]) ?_)) fun h1 => ao (by simp [unk]) ?_)
 ·simpa [pack,h1] using hK
 ·simpa [pack,h1] using hK
theorem good46 (hJ : Closed prog main J) {n lo hi : Int} (hK : K (ab (cntE n lo hi)) h) : Good prog J 46 [ab n,ab lo,ab hi] h K := by
 refine g46 hJ fun ok => ?_
 rw [e46]
 refine dh (ba (fun h1 => ao (by simp [unk]) ?_) fun h1 => gtrI (ba (fun h2 => ao (by simp [unk]) ?_) fun h2 => ao (by simp [unk]) ?_))
 ·simpa [cntE,h1,pack] using hK
 ·simpa [cntE,h1,h2,pack] using hK
 ·simpa [cntE,h1,h2,pack] using hK
theorem good27 (hJ : Closed prog main J) {p : Pas} (hK : K (ab (bR p)) h) : Good prog J 27 [.agg ⟨p.cells⟩] h K := by
 refine g27 hJ fun ok => ?_
 rw [e27]
 refine dk (l := p.cells) rfl fun H1 p1 e1 S1 c1 l1 => ?_
 have fin : ∀ e : Int,bR p = e → aI h.length K [] [ab e] H1 := fun e he => by
  subst he
  exact retX ok (Nat.le_refl _) S1 (by simp) (by simp [unk]) (by simp [pack,VOk]) hK
 have no : ∀ {q : Prop},(cA p → q) → ¬ q → aI h.length K [] [ab 1] H1 := fun a b => fin 1 (by unfold bR; rw [if_neg fun x => b (a x)])
 refine aQ (ldI (v := ab p.bears) c1 rfl rfl (good44 hJ (ba (fun h1 => ?_) fun h1 => hold.2 ?_)))
 rotate_left
 ·rw [s27_1]
  exact aP.2 (no (fun x => x.1) h1)
 refine aQ (ldI (v := ab p.grass) c1 rfl rfl (aQ (ldI (v := ab p.bears) c1 rfl rfl (good44 hJ (ba (fun h2 => ?_) fun h2 => hold.2 ?_)))))
 rotate_left
 ·rw [s27_1]
  exact aP.2 (no (fun x => x.2.1) h2)
 refine aQ (ldI (v := ab p.dry) c1 rfl rfl (good44 hJ (ba (fun h3 => ?_) fun h3 => hold.2 ?_)))
 rotate_left
 ·rw [s27_1]
  exact aP.2 (no (fun x => x.2.2.1) h3)
 refine aQ (ldI (v := ab p.wet) c1 rfl rfl (aQ (ldI (v := ab p.dry) c1 rfl rfl (good44 hJ (ba (fun h4 => ?_) fun h4 => hold.2 ?_)))))
 rotate_left
 ·rw [s27_1]
  exact aP.2 (no (fun x => x.2.2.2.1) h4)
 refine aQ (ldI (v := ab p.stubble) c1 rfl rfl (aQ (ldI (v := ab p.bears) c1 rfl rfl (good44 hJ (ba (fun h5 => ?_) fun h5 => hold.2 ?_)))))
 rotate_left
 ·rw [s27_1]
  exact aP.2 (no (fun x => x.2.2.2.2.1) h5)
 refine aQ (ldI (v := ab p.sleep) c1 rfl rfl (good44 hJ (hold.2 ?_)))
 rw [s27_1]
 refine ba (fun h6 => fin 0 ?_) fun h6 => no (fun x => x.2.2.2.2.2) h6
 unfold bR
 rw [if_pos ⟨h1,h2,h3,h4,h5,h6⟩]
theorem good28 (hJ : Closed prog main J) {s : aU} (hK : K (ab (cd s)) h) : Good prog J 28 [.agg ⟨s.cells⟩] h K := by
 refine g28 hJ fun ok => ?_
 rw [e28]
 refine dk (l := s.cells) rfl fun H1 p1 e1 S1 c1 l1 => ?_
 have fin : ∀ e : Int,cd s = e → aI h.length K [] [ab e] H1 := fun e he => by
  subst he
  exact retX ok (Nat.le_refl _) S1 (by simp) (by simp [unk]) (by simp [pack,VOk]) hK
 have no : ∀ {q : Prop},(cL s → q) → ¬ q → aI h.length K [] [ab 1] H1 := fun a b => fin 1 (by unfold cd; rw [if_neg fun x => b (a x)])
 refine aQ (ldI (v := ab s.days) c1 rfl rfl (good44 hJ (ba (fun h1 => ?_) fun h1 => hold.2 ?_)))
 rotate_left
 ·rw [s28_1]
  exact aP.2 (no (fun x => x.1) h1)
 refine aQ (ldI (v := ab s.drought) c1 rfl rfl (aQ (ldI (v := ab s.days) c1 rfl rfl (good44 hJ (ba (fun h2 => ?_) fun h2 => hold.2 ?_)))))
 rotate_left
 ·rw [s28_1]
  exact aP.2 (no (fun x => x.2.1) h2)
 refine aQ (ldI (v := ab s.flood) c1 rfl rfl (aQ (ldI (v := ab s.days) c1 rfl rfl (good44 hJ (hold.2 ?_)))))
 rw [s28_1]
 refine ba (fun h3 => fin 0 ?_) fun h3 => no (fun x => x.2.2) h3
 unfold cd
 rw [if_pos ⟨h1,h2,h3⟩]
theorem good26 (hJ : Closed prog main J) {v : Value} {a b : Int} (hs : Sli H v 1 2 [ab a,ab b]) (hK : K (ab (cQ a b)) H) : Good prog J 26 [v] H K := by
 refine g26 hJ fun ok => ?_
 rw [e26]
 have hs' : Sli H v 1 ([a,b] : List Int).length (([a,b] : List Int).map ab) := hs
 refine lenI hs ?_
 refine l26_1 hJ (fun i : Nat => 2 - i) (fun i F H' => H' = H ∧ i ≤ 2 ∧ (1 ≤ i → a = 0) ∧ (2 ≤ i → b = 0) ∧ F.ds = [] ∧ F.r 5 = v ∧ F.r 6 = ab (2 : Nat) ∧ F.r 7 = ab (i : Nat)) ?_ (s := 0)
  (.inl ⟨rfl,by omega,by omega,by omega,rfl,rfl,rfl,rfl⟩)
 rintro i F H' ⟨rfl,hi,ha,hb,ds,r5,r6,r7⟩ okc hnc
 rw [s26_1,r5,r6,r7,ds]
 refine dh (ba (fun hlt => ?_) fun hge => ?_)
 rotate_left
 ·have h1 := ha (by omega)
  have h2 := hb (by omega)
  refine ao (by simp [unk]) ?_
  unfold cQ at hK
  rw [if_neg (by omega),h2] at hK
  exact hK
 have hil : i < 2 := by omega
 by_cases e : i = 0
 ·subst e
  refine sliN hs' (i := 0) (x := a) rfl fun q => neqI (ba (fun hne => ao (by simp [unk]) ?_) fun heq => ck (by omega) ⟨1,by decide,.inl ⟨rfl,by omega,fun _ => by omega,by omega,ds,r5,r6,rfl⟩⟩)
  unfold cQ at hK
  rw [if_pos hne] at hK
  exact hK
 ·have : i = 1 := by omega
  subst this
  have h1 := ha (by omega)
  refine sliN hs' (i := 1) (x := b) rfl fun q => neqI (ba (fun hne => ao (by simp [unk]) ?_) fun heq => ck (by omega) ⟨2,by decide,.inl ⟨rfl,by omega,fun _ => h1,fun _ => by omega,ds,r5,r6,rfl⟩⟩)
  unfold cQ at hK
  rw [if_neg (by omega)] at hK
  exact hK
theorem good67 (hJ : Closed prog main J) {v : Value} {hs : List Int} {n : Int} (sh : Sli H v 1 hs.length (hs.map ab)) (hl : hs.length < 1000000) (hK : K (ab (hunE hs n)) H) : Good prog J 67 [v,ab n] H K := by
 refine g67 hJ fun ok => ?_
 rw [e67]
 refine lenI sh (good46 hJ (neqI (ba (fun h1 => ao (by simp [unk]) ?_) fun h1 => lenI sh ?_)))
 ·unfold hunE at hK
  rw [if_pos h1] at hK
  exact hK
 refine l67_1 hJ (fun i : Nat => hs.length - i) (fun i F H' => H' = H ∧ i ≤ hs.length ∧ (∀ n ∈ hs.take i,0 ≤ n ∧ n ≤ 40) ∧ F.ds = [] ∧ F.r 16 = v ∧ F.r 17 = ab (hs.length : Nat) ∧ F.r 18 = ab (i : Nat)) ?_ (s := 0)
  (.inl ⟨rfl,by omega,by simp,rfl,rfl,rfl,rfl⟩)
 rintro i F H' ⟨rfl,hi,hd,ds,r16,r17,r18⟩ okc hnc
 rw [s67_1,r16,r17,r18,ds]
 refine dh (ba (fun hlt => ?_) fun hge => ?_)
 ·have hil : i < hs.length := by omega
  have hx : hs[i]? = some hs[i] := List.getElem?_eq_getElem hil
  refine sliN sh hx fun q => good44 hJ (dU (cndN (fun hno => ao (by simp [unk]) ?_) fun hyes => ck (by omega) ⟨i + 1,by dsimp only; omega,.inl ⟨rfl,by omega,fun n hn => ?_,ds,r16,r17,by show ab _ = ab _; congr 1⟩⟩))
  ·unfold hunE at hK
   rw [if_neg h1,if_neg fun x => hno (x _ (List.getElem_mem hil))] at hK
   exact hK
  ·rw [List.take_add_one,hx] at hn
   rcases List.mem_append.1 hn with hn | hn
   ·exact hd n hn
   ·have : n = hs[i] := by simpa using hn
    rw [this]
    exact hyes
 ·have : i = hs.length := by omega
  subst this
  refine ao (by simp [unk]) ?_
  unfold hunE at hK
  rw [if_neg h1,if_pos (by simpa using hd)] at hK
  exact hK
theorem fillM {p : Pas} {a b : Int} {KL : List Value → Prop} (hk : KL (medC p (a,b))) : aH [(ab 0),(ab 0),(ab 0),(ab 0),(ab 0),(ab 0),(ab 0),(ab 0)] [(0,6,.agg ⟨p.cells⟩),(6,2,.agg ⟨[ab a,ab b]⟩)] KL := by
 refine aK (l := p.cells) rfl rfl rfl (by decide) (aK (l := [ab a,ab b]) rfl rfl rfl (by rw [aW]; decide) (bu hk))
theorem good68 (hJ : Closed prog main J) {p : Pas} (hK : ∀ H' m,m = H'.length - 1 → ag [] H H' → H'[m]? = some (.cells (medC p (p.grass,0)) true 0) → H.length ≤ m → K (ptr m 0) H') : Good prog J 68 [.agg ⟨p.cells⟩] H K := by
 refine g68 hJ fun ok => ?_
 rw [e68]
 refine dk (l := p.cells) rfl fun H1 p1 e1 S1 c1 l1 => ar (c := p.cells) c1 (by simp [Pas.cells]) rfl rfl (aQ (ldI (v := ab p.grass) c1 rfl rfl ?_))
 refine aK (l := [ab p.grass]) rfl rfl rfl (by decide) (bu (fillM (dk (l := medC p (p.grass,0)) rfl fun H2 p2 e2 S2 c2 l2 => ao (by simp [unk]) (hK H2 p2 (by omega) (S1.trans S2) c2 (by omega)))))
theorem good69 (hJ : Closed prog main J) {p : Pas} {x : Std} {n : Int} {w : Bool} {m : Nat} (hm : H[m]? = some (.cells (medC p x) true 0)) (f : cA p) (o : StdOk p x) (hn : 0 ≤ n ∧ n ≤ 1000000)
  (hK : ∀ H',ag [m] H H' → H'[m]? = some (.cells (medC p (dayR p x n w)) true 0) → K (.tuple ⟨[.bool (hungR x n),.bool (shortR p x n)]⟩) H') : Good prog J 69 [ptr m 0,ab n,.bool w] H K := by
 refine g69 hJ fun ok => ?_
 rw [e69]
 have og := o.g
 have oa := o.a
 have hb := leftR_bd o hn.1
 obtain ⟨f1,f2,f3,f4,f5,f6⟩ := f
 have mc : ∀ (a b : Int),medC p (a,b) = [ab p.grass,ab p.bears,ab p.dry,ab p.wet,ab p.stubble,ab p.sleep,ab a,ab b] := fun a b => rfl
 obtain ⟨xa,xb⟩ := x
 dsimp only at og oa
 rw [mc] at hm
 refine ec (aQ (aQ (ldI (v := ab xa) hm rfl rfl (gtrI ?_))))
 refine ec (aQ (aQ (ldI (v := ab xa) hm rfl rfl ?_)))
 refine ec (aQ (aQ (ldI (v := ab xa) hm rfl rfl (minI (subI (by omega) ?_)))))
 refine ec (aQ (aQ (qSt hm (by simp) rfl rfl fun H1 S1 c1 l1 => ?_)))
 have el : xa - min n xa = leftR (xa,xb) n := rfl
 rw [el] at c1 ⊢
 have c1 : H1[m]? = some (.cells (medC p (leftR (xa,xb) n,xb)) true 0) := c1
 -- behind the eating
 have post : ∀ {F : RG},F.ds = [] → F.r 0 = ptr m 0 → F.r 2 = .bool w → F.r 6 = .bool (hungR (xa,xb) n) → F.r 7 = .bool (shortR p (xa,xb) n) →
   w69 J H.length [1,1,1,1] F H1 [] K := by
  intro F ds r0 r2 r6 r7
  rw [s69_1,r0,r2,r6,r7,ds]
  have fin : ∀ {y : Std} {H2 : List af},dayR p (xa,xb) n w = y → ag [m] H1 H2 → H2[m]? = some (.cells (medC p y) true 0) → aI H.length K [] [.bool (hungR (xa,xb) n),.bool (shortR p (xa,xb) n)] H2 := fun hy S2 c2 => by
   subst hy
   exact ao (by simp [unk]) (hK _ (S1.trans S2) c2)
  rw [mc] at c1
  refine cndB (fun hs => ?_) fun hs => ?_
  ·refine ec (aQ (aQ (ldI (v := ab p.sleep) c1 rfl rfl (ec (aQ (aQ (qSt c1 (by simp) rfl rfl fun H2 S2 c2 l2 => ?_)))))))
   refine fin (y := (leftR (xa,xb) n,p.sleep)) ?_ S2 c2
   unfold dayR
   rw [if_pos hs]
  ·have hs' : ¬ shortR p (xa,xb) n = true := by rw [hs]; decide
   refine ec (aQ (aQ (ldI (v := ab xb) c1 rfl rfl (gtrI (ba (fun h0 => ?_) fun h0 => ?_)))))
   ·refine ec (aQ (aQ (ldI (v := ab xb) c1 rfl rfl (subI (by omega) (ec (aQ (aQ (qSt c1 (by simp) rfl rfl fun H2 S2 c2 l2 => ?_))))))))
    refine fin (y := (leftR (xa,xb) n,xb - 1)) ?_ S2 c2
    unfold dayR
    rw [if_neg hs',if_pos h0]
   ·refine cndB (fun hw => ?_) fun hw => ?_
    ·refine ec (aQ (aQ (ldI (v := ab p.bears) c1 rfl rfl (ec (aQ (aQ (ldI (v := ab (leftR (xa,xb) n)) c1 rfl rfl (ec (aQ (aQ (ldI (v := ab p.wet) c1 rfl rfl (ck (by omega) (minI (ec (aQ (aQ (qSt c1 (by simp) rfl rfl fun H2 S2 c2 l2 => ?_)))))))))))))))))
     refine fin (y := (min p.bears (leftR (xa,xb) n + p.wet),xb)) ?_ S2 c2
     unfold dayR
     rw [if_neg hs',if_neg h0,if_pos hw]
    ·refine ec (aQ (aQ (ldI (v := ab p.bears) c1 rfl rfl (ec (aQ (aQ (ldI (v := ab (leftR (xa,xb) n)) c1 rfl rfl (ec (aQ (aQ (ldI (v := ab p.dry) c1 rfl rfl (ck (by omega) (minI (ec (aQ (aQ (qSt c1 (by simp) rfl rfl fun H2 S2 c2 l2 => ?_)))))))))))))))))
     refine fin (y := (min p.bears (leftR (xa,xb) n + p.dry),xb)) ?_ S2 c2
     unfold dayR
     rw [if_neg hs',if_neg h0,if_neg (by rw [hw]; decide)]
 refine gtrI (ba (fun h0 => ?_) fun h0 => hold.2 ?_)
 ·rw [mc] at c1
  refine ec (aQ (aQ (ldI (v := ab (leftR (xa,xb) n)) c1 rfl rfl (ec (aQ (aQ (ldI (v := ab p.stubble) c1 rfl rfl (dh (hold.2 ?_)))))))))
  refine post rfl rfl rfl rfl ?_
  show Value.bool _ = Value.bool _
  unfold shortR
  rw [decide_eq_true h0]
  rfl
 ·refine post rfl rfl rfl rfl ?_
  show Value.bool _ = Value.bool _
  unfold shortR
  rw [decide_eq_false h0]
  rfl
theorem good74 (hJ : Closed prog main J) {s : aU} {x : Spl} {c : UInt8} (hx : -1 ≤ x.2 ∧ x.2 ≤ 1000000) (hK : ∀ H',ag [] H H' → K (.tuple ⟨[.agg ⟨spC (cP x c)⟩,.bool (dV s x c)]⟩) H') : Good prog J 74 [.agg ⟨spC x⟩,.agg ⟨s.cells⟩,.int .u8 c.toNat] H K := by
 refine g74 hJ fun ok => ?_
 rw [e74]
 refine dk (l := spC x) rfl fun H1 p1 e1 S1 c1 l1 => dk (l := s.cells) rfl fun H2 p2 e2 S2 c2 l2 => qAl fun H3 p3 e3 S3 c3 l3 => ?_
 have c13 := S3.get (S2.get c1 (by simp)) (by simp)
 have c23 := S3.get c2 (by simp)
 have T3 := (S1.trans S2).trans S3
 refine aQ (ldI (v := .int .u8 x.1.toNat) c13 rfl rfl (neqU (ba (fun hne => ?_) fun heq => ?_)))
 ·refine aK (l := [.int .u8 c.toNat]) rfl rfl rfl (by decide) (aK (l := [ab 1]) rfl rfl rfl (by rw [aW]; decide) (bu ?_))
  refine da (c := spC (c,1)) c3 rfl rfl rfl fun H4 S4 c4 l4 => ?_
  refine retQs rfl (de (gg := true) (s := 2) (by kernel_rfl) (ar (c := spC (c,1)) c4 (by simp [spC]) rfl rfl (resW_tmp (by simp [unk,RG.p]) (dN ?_))))
  have := hK H4 (T3.bq S4 (by simp; omega))
  unfold cP dV at this
  rw [if_pos hne,if_pos hne] at this
  exact this
 ·have heq : x.1 = c := Classical.not_not.1 heq
  have post : ∀ {F : RG} {most : Int},most = (if c = 119 then s.flood else s.drought) → F.ds = [] → F.r 2 = .int .u8 c.toNat → F.r 3 = ptr p1 0 → F.r 6 = ptr p3 0 → F.r 8 = ab most →
    w74 J H.length [1,1,1,1] F H3 [] K := by
   intro F most hm ds r2 r3 r6 r8
   rw [s74_1,r2,r3,r6,r8]
   refine ⟨[p1],aQ (ldI (v := ab x.2) c13 rfl rfl ⟨by simp [aR,au],ck (by omega) ?_⟩)⟩
   refine aK (l := [.int .u8 c.toNat]) rfl rfl rfl (by decide) (aK (l := [ab (x.2 + 1)]) rfl rfl rfl (by rw [aW]; decide) (bu ?_))
   refine aQ (ldI (v := ab x.2) c13 rfl rfl ⟨by simp [aR,au],dh ?_⟩)
   refine da (c := spC (c,x.2 + 1)) c3 rfl rfl rfl fun H4 S4 c4 l4 => ⟨sbOne S4 (ah c13) (by simp; omega),?_⟩
   refine retQs ds (de (gg := true) (s := 2) (by kernel_rfl) ?_)
   show ai true 2 (F.r 6) H4 _
   rw [r6]
   refine ar (c := spC (c,x.2 + 1)) c4 (by simp [spC]) rfl rfl (resW_tmp (by simp [unk,RG.p]) (dN ?_))
   have := hK H4 (T3.bq S4 (by simp; omega))
   unfold cP dV at this
   rw [if_neg (not_not_intro heq),if_neg (not_not_intro heq),← hm] at this
   exact this
  refine aQ (ldI (v := ab s.drought) c23 rfl rfl ?_)
  have e119 : (Value.int .u8 119) = .int .u8 (119 : UInt8).toNat := rfl
  rw [e119]
  refine eqlU (ba (fun hw => ?_) fun hw => hold.2 ?_)
  ·exact aQ (ldI (v := ab s.flood) c23 rfl rfl (hold.2 (post (most := s.flood) (by rw [if_pos hw]) rfl rfl rfl rfl rfl)))
  ·exact post (most := s.drought) (by rw [if_neg hw]) rfl rfl rfl rfl rfl
end
def pas0 : Pas := ⟨0,0,0,0,0,0⟩
structure Wd where
 a : Std
 b : Std
 c : Std
 sp : Spl
 deriving DecidableEq
def Wd.cells (w : Wd) : List Value := [ab w.a.1,ab w.a.2,ab w.b.1,ab w.b.2,ab w.c.1,ab w.c.2,.int .u8 w.sp.1.toNat,ab w.sp.2]
def Wd.val (w : Wd) : Value := .agg ⟨w.cells⟩
def Wd.st (w : Wd) : Nat → Std
 | 0 => w.a
 | 1 => w.b
 | _ => w.c
def Wd.lay (w : Wd) : Nat → Std → Wd
 | 0,x => { w with a := x }
 | 1,x => { w with b := x }
 | _,x => { w with c := x }
theorem Wd.st_lay (w : Wd) {k j : Nat} (x : Std) (hk : k < 3) (hj : j < 3) : (w.lay k x).st j = if j = k then x else w.st j := by
 match k,hk with
 | 0,_ => match j,hj with
  | 0,_ => rfl
  | 1,_ => rfl
  | 2,_ => rfl
 | 1,_ => match j,hj with
  | 0,_ => rfl
  | 1,_ => rfl
  | 2,_ => rfl
 | 2,_ => match j,hj with
  | 0,_ => rfl
  | 1,_ => rfl
  | 2,_ => rfl
theorem Wd.sp_lay (w : Wd) (k : Nat) (x : Std) : (w.lay k x).sp = w.sp := by
 match k with
 | 0 => rfl
 | 1 => rfl
 | _ + 2 => rfl
structure WdOk (ls : List Pas) (w : Wd) : Prop where
 std : ∀ k,k < ls.length → StdOk (ls.getD k pas0) (w.st k)
 sp : 0 ≤ w.sp.2 ∧ w.sp.2 ≤ 8
structure LsOk (ls : List Pas) : Prop where
 few : 1 ≤ ls.length ∧ ls.length ≤ 3
 ok : ∀ p ∈ ls,cA p
theorem LsOk.get {ls : List Pas} (L : LsOk ls) {k : Nat} (hk : k < ls.length) : cA (ls.getD k pas0) := by
 rw [List.getD_eq_getElem?_getD,List.getElem?_eq_getElem hk]
 exact L.ok _ (List.getElem_mem hk)
def startK (ls : List Pas) : Nat → Wd
 | 0 => ⟨(0,0),(0,0),(0,0),(0,0)⟩
 | k + 1 => (startK ls k).lay k ((ls.getD k pas0).grass,0)
def c0 (ls : List Pas) : Wd := startK ls ls.length
theorem startK_sp {ls : List Pas} : ∀ k,(startK ls k).sp = (0,0)
 | 0 => rfl
 | k + 1 => by rw [startK,Wd.sp_lay,startK_sp]
theorem startK_st {ls : List Pas} (L : LsOk ls) : ∀ k,k ≤ ls.length → ∀ j,j < k → StdOk (ls.getD j pas0) ((startK ls k).st j)
 | 0,_,j,hj => absurd hj (Nat.not_lt_zero _)
 | k + 1,hk,j,hj => by
  have := L.few
  rw [startK,Wd.st_lay _ _ (by omega) (by omega)]
  by_cases e : j = k
  ·subst e
   rw [if_pos rfl]
   exact std0_ok (L.get (by omega))
  ·rw [if_neg e]
   exact startK_st L k (by omega) j (by omega)
theorem startW_ok {ls : List Pas} (L : LsOk ls) : WdOk ls (c0 ls) := ⟨fun k hk => startK_st L _ (Nat.le_refl _) k hk,by
 unfold c0
 rw [startK_sp]
 decide⟩
def nAt (at_ : Nat) (heads : Int) (k : Nat) : Int := if k = at_ then heads else 0
def gzK (ls : List Pas) (at_ : Nat) (heads : Int) (wet : Bool) (w : Wd) : Nat → Wd × Bool
 | 0 => (w,true)
 | k + 1 => ((gzK ls at_ heads wet w k).1.lay k (dayR (ls.getD k pas0) ((gzK ls at_ heads wet w k).1.st k) (nAt at_ heads k) wet),(gzK ls at_ heads wet w k).2 && !hungR ((gzK ls at_ heads wet w k).1.st k) (nAt at_ heads k))
def gzW (ls : List Pas) (at_ : Nat) (heads : Int) (w : Wd) (x : Spl) : Wd := { (gzK ls at_ heads (wetB x.1) w ls.length).1 with sp := x }
def gzB (ls : List Pas) (at_ : Nat) (heads : Int) (w : Wd) (x : Spl) : Bool := (gzK ls at_ heads (wetB x.1) w ls.length).2
theorem nAt_bd {at_ : Nat} {heads : Int} {k : Nat} (h : 0 ≤ heads ∧ heads ≤ 40) : 0 ≤ nAt at_ heads k ∧ nAt at_ heads k ≤ 1000000 := by
 unfold nAt
 split <;> omega
theorem gzK_ok {ls : List Pas} (L : LsOk ls) {at_ : Nat} {heads : Int} (hh : 0 ≤ heads ∧ heads ≤ 40) {wet : Bool} {w : Wd} (o : WdOk ls w) : ∀ k,k ≤ ls.length → ∀ j,j < ls.length → StdOk (ls.getD j pas0) ((gzK ls at_ heads wet w k).1.st j)
 | 0,_,j,hj => o.std j hj
 | k + 1,hk,j,hj => by
  have hf := L.few
  show StdOk _ (((gzK ls at_ heads wet w k).1.lay k _).st j)
  rw [Wd.st_lay _ _ (by omega) (by omega)]
  by_cases e : j = k
  ·subst e
   rw [if_pos rfl]
   exact dayR_ok (L.get hj) (gzK_ok L hh o j (by omega) j hj) (nAt_bd hh).1
  ·rw [if_neg e]
   exact gzK_ok L hh o k (by omega) j hj
theorem gzW_ok {ls : List Pas} (L : LsOk ls) {at_ : Nat} {heads : Int} (hh : 0 ≤ heads ∧ heads ≤ 40) {w : Wd} (o : WdOk ls w) {x : Spl} (hx : 0 ≤ x.2 ∧ x.2 ≤ 8) : WdOk ls (gzW ls at_ heads w x) := by
 refine ⟨fun k hk => ?_,hx⟩
 have := gzK_ok L hh (wet := wetB x.1) (at_ := at_) o ls.length (Nat.le_refl _) k hk
 have e : (gzW ls at_ heads w x).st k = (gzK ls at_ heads (wetB x.1) w ls.length).1.st k := by
  match k with
  | 0 => rfl
  | 1 => rfl
  | _ + 2 => rfl
 rw [e]
 exact this
def letters : List UInt8 := [100,119]
def afters (ls : List Pas) (s : aU) (at_ : Nat) (heads : Int) (w : Wd) : List (Wd × Bool) := letters.flatMap fun c => if dV s w.sp c = true then [(gzW ls at_ heads w (cP w.sp c),gzB ls at_ heads w (cP w.sp c))] else []
def dawnB (ls : List Pas) (s : aU) (at_ : Nat) (heads : Int) (L : List Wd) : Bool := L.all fun w => (afters ls s at_ heads w).all fun y => y.2
def dawnL (ls : List Pas) (s : aU) (at_ : Nat) (heads : Int) (L : List Wd) : List Wd := L.flatMap fun w => (afters ls s at_ heads w).map fun y => y.1
def turnA (ls : List Pas) (s : aU) (heads : Int) (L : List Wd) (rest : List Wd → Option (List Int)) : Nat → Option (List Int)
 | 0 => none
 | k + 1 =>
  let at_ := ls.length - (k + 1)
  if dawnB ls s at_ heads L = true then
   match rest (dawnL ls s at_ heads L) with
   | some r => some ((at_ : Int) :: r)
   | none => turnA ls s heads L rest k
  else turnA ls s heads L rest k
def turnR (ls : List Pas) (s : aU) (heads : Int) : Nat → List Wd → Option (List Int)
 | 0,L => turnA ls s heads L (fun _ => some []) ls.length
 | d + 1,L => turnA ls s heads L (turnR ls s heads d) ls.length
def SameW (L L' : List Wd) : Prop := ∀ w,w ∈ L ↔ w ∈ L'
theorem dawnB_same {ls : List Pas} {s : aU} {at_ : Nat} {heads : Int} {L L' : List Wd} (h : SameW L L') : dawnB ls s at_ heads L = dawnB ls s at_ heads L' := by
 unfold dawnB
 rw [Bool.eq_iff_iff,List.all_eq_true,List.all_eq_true]
 exact ⟨fun a w hw => a w ((h w).2 hw),fun a w hw => a w ((h w).1 hw)⟩
theorem dawnL_same {ls : List Pas} {s : aU} {at_ : Nat} {heads : Int} {L L' : List Wd} (h : SameW L L') : SameW (dawnL ls s at_ heads L) (dawnL ls s at_ heads L') := fun w => by
 unfold dawnL
 rw [List.mem_flatMap,List.mem_flatMap]
 exact ⟨fun ⟨a,h1,h2⟩ => ⟨a,(h a).1 h1,h2⟩,fun ⟨a,h1,h2⟩ => ⟨a,(h a).2 h1,h2⟩⟩
theorem turnA_same {ls : List Pas} {s : aU} {heads : Int} {L L' : List Wd} (h : SameW L L') {rest : List Wd → Option (List Int)} (hr : ∀ M M',SameW M M' → rest M = rest M') : ∀ k,turnA ls s heads L rest k = turnA ls s heads L' rest k
 | 0 => rfl
 | k + 1 => by
  simp only [turnA]
  rw [dawnB_same h,hr _ _ (dawnL_same h),turnA_same h hr k]
theorem turnR_same {ls : List Pas} {s : aU} {heads : Int} : ∀ (d : Nat) (L L' : List Wd),SameW L L' → turnR ls s heads d L = turnR ls s heads d L'
 | 0,_L,_L',h => turnA_same h (fun _ _ _ => rfl) _
 | d + 1,_L,_L',h => turnA_same h (fun M M' => turnR_same d M M') _
theorem nextX_bd {s : aU} (f : cL s) {x : Spl} {c : UInt8} (h : dV s x c = true) (hx : 0 ≤ x.2 ∧ x.2 ≤ 8) : 0 ≤ (cP x c).2 ∧ (cP x c).2 ≤ 8 := by
 obtain ⟨f1,f2,f3⟩ := f
 unfold cP
 unfold dV at h
 split
 ·exact ⟨by show (0 : Int) ≤ 1; decide,by show (1 : Int) ≤ 8; decide⟩
 ·rename_i e
  rw [if_neg e] at h
  have h := of_decide_eq_true h
  dsimp only
  split at h <;> omega
theorem afters_ok {ls : List Pas} (L : LsOk ls) {s : aU} (f : cL s) {at_ : Nat} {heads : Int} (hh : 0 ≤ heads ∧ heads ≤ 40) {w : Wd} (o : WdOk ls w) : ∀ y ∈ afters ls s at_ heads w,WdOk ls y.1 := fun y hy => by
 unfold afters at hy
 rw [List.mem_flatMap] at hy
 obtain ⟨c,_,hy⟩ := hy
 split at hy
 ·rename_i hc
  rw [List.mem_singleton.1 hy]
  exact gzW_ok L hh o (nextX_bd f hc o.sp)
 ·cases hy
section
variable {main : Bool} {J : JT} {h H : List af} {K : Value → List af → Prop} {KV : Value → Prop} {HL : List af → Prop} {n0 : Nat}
theorem store2 {b k sz : Nat} {w : Wd} {x : Std} (hb : H[b]? = some (.cells w.cells true sz)) (hk : k < 3) (h1 : ∀ H',ag [b] H H' → H'[b]? = some (.cells (w.lay k x).cells true sz) → H'.length = H.length → HL H') : aB 2 (ptr b (k * 2)) (.agg ⟨[ab x.1,ab x.2]⟩) H HL := by
 have hlt := ah hb
 have fin : HL (H.set b (.cells (w.lay k x).cells true sz)) := h1 _ ⟨by simp,fun i hi hn => by rw [List.getElem?_set_ne (fun e => hn (by simp [e]))]⟩ (by simp [hlt]) (by simp)
 unfold aB
 simp only [hb]
 refine ⟨rfl,rfl,?_,?_⟩
 ·simp [Wd.cells]
  omega
 ·match k,hk with
  | 0,_ => exact fin
  | 1,_ => exact fin
  | 2,_ => exact fin
theorem load2 {b k sz : Nat} {w : Wd} {wr : Bool} (hb : H[b]? = some (.cells w.cells wr sz)) (hk : k < 3) (h1 : KV (.agg ⟨[ab (w.st k).1,ab (w.st k).2]⟩)) : ai true 2 (ptr b (k * 2)) H KV := by
 refine ar (c := [ab (w.st k).1,ab (w.st k).2]) hb (by simp [Wd.cells]; omega) ?_ rfl h1
 match k,hk with
 | 0,_ => rfl
 | 1,_ => rfl
 | 2,_ => rfl
theorem storeS {b sz : Nat} {w : Wd} {x : Spl} (hb : H[b]? = some (.cells w.cells true sz)) (h1 : ∀ H',ag [b] H H' → H'[b]? = some (.cells ({ w with sp := x } : Wd).cells true sz) → H'.length = H.length → HL H') : aB 2 (ptr b 6) (.agg ⟨spC x⟩) H HL := by
 have hlt := ah hb
 have fin : HL (H.set b (.cells ({ w with sp := x } : Wd).cells true sz)) := h1 _ ⟨by simp,fun i hi hn => by rw [List.getElem?_set_ne (fun e => hn (by simp [e]))]⟩ (by simp [hlt]) (by simp)
 unfold aB
 simp only [hb]
 exact ⟨rfl,rfl,by simp [Wd.cells],fin⟩
theorem good51 (hJ : Closed prog main J) {ls : List Pas} {lv : Value} (L : LsOk ls) (hl : SliE H lv 6 Pas.cells ls) (hK : ∀ H',ag [] H H' → K (c0 ls).val H') : Good prog J 51 [lv] H K := by
 refine g51 hJ fun ok => ?_
 rw [e51]
 have few := L.few
 refine qAl fun H1 p1 e1 S1 c1 l1 => qAl fun H2 p2 e2 S2 c2 l2 => ?_
 rw [sliE_len hl]
 have c1' := S2.get c1 (by simp)
 refine l51_1 hJ (fun k : Nat => ls.length - k) (fun k F H' => k ≤ ls.length ∧ ag [] H H' ∧ H'[p1]? = some (.cells [ab 0,ab 0,ab 0,ab 0,ab 0,ab 0,.int .u8 0,ab 0] true 0) ∧ H'[p2]? = some (.cells (startK ls k).cells true 0) ∧ F.ds = [] ∧ F.r 2 = ptr p1 0 ∧ F.r 3 = ptr p2 0 ∧ F.r 6 = lv ∧ F.r 7 = ab (ls.length : Nat) ∧ F.r 8 = ab (k : Nat)) ?_ (s := 0)
  (.inl ⟨by omega,S1.trans S2,c1',c2,rfl,rfl,rfl,rfl,rfl,rfl⟩)
 rintro k F H' ⟨hk,S,d1,d2,ds,r2,r3,r6,r7,r8⟩ okc hnc
 rw [s51_1,r2,r3,r6,r7,r8]
 refine dh (ba (fun hlt => ?_) fun hge => ?_)
 rotate_left
 ·have : k = ls.length := by omega
  subst this
  refine ar (c := (c0 ls).cells) d2 (by simp [Wd.cells]) rfl rfl ?_
  refine da (c := (c0 ls).cells) d1 rfl rfl rfl fun H4 S4 c4 l4 => ?_
  refine retQs ds (de (gg := true) (s := 8) (by kernel_rfl) ?_)
  show ai true 8 (F.r 2) H4 _
  rw [r2]
  refine ar (c := (c0 ls).cells) c4 (by simp [Wd.cells]) rfl rfl (dN ?_)
  exact hK H4 (S.bq S4 (by simp; omega))
 have hkl : k < ls.length := by omega
 have hl' := S.sli hl (by simp)
 obtain ⟨b,o,cs,wr,sz,hidx,hb,hos,htk,hkn⟩ := sliE_elem (s := 6) (fun _ => rfl) (by decide) hl' hkl
 have eg : ls[k] = ls.getD k pas0 := by
  rw [List.getD_eq_getElem?_getD,List.getElem?_eq_getElem hkl]
  rfl
 rw [eg] at htk
 generalize hp : ls.getD k pas0 = p at htk
 refine hidx _ (ar (c := p.cells) hb hos htk rfl (qAl fun H4 p4 e4 S4 c4 l4 => da (c := p.cells) c4 rfl rfl rfl fun H5 S5 c5 l5 => ?_))
 have d2' := S5.get (S4.get d2 (by simp)) (by have := ah d2; simp; omega)
 have d1' := S5.get (S4.get d1 (by simp)) (by have := ah d1; simp; omega)
 have S' := (S.trans S4).bq S5 (by have := S.1; simp; omega)
 refine aQ (ldI (v := ab p.grass) c5 rfl rfl (aK (l := [ab p.grass]) rfl rfl rfl (by decide) (bu (aQ (idxAz (by omega) (store2 (x := (p.grass,0)) d2' (by omega) fun H6 S6 c6 l6 => ?_))))))
 refine ck (by omega) ⟨k + 1,by dsimp only; omega,.inl ⟨by omega,S'.bq S6 (by simp; omega),S6.get d1' (by simp; omega),?_,ds,r2,r3,r6,r7,by show ab _ = ab _; congr 1⟩⟩
 rw [c6,startK,hp]
theorem good88 (hJ : Closed prog main J) {ls : List Pas} {lv : Value} {w : Wd} {x : Spl} {at_ : Nat} {heads : Int} (L : LsOk ls) (hl : SliE H lv 6 Pas.cells ls) (o : WdOk ls w) (hh : 0 ≤ heads ∧ heads ≤ 40) (hK : ∀ H',ag [] H H' → K (.tuple ⟨[(gzW ls at_ heads w x).val,.bool (gzB ls at_ heads w x)]⟩) H') : Good prog J 88 [w.val,lv,ab (at_ : Nat),ab heads,.agg ⟨spC x⟩] H K := by
 refine g88 hJ fun ok => ?_
 rw [e88]
 have few := L.few
 refine dk (l := w.cells) rfl fun H1 p1 e1 S1 c1 l1 => dk (l := spC x) rfl fun H2 p2 e2 S2 c2 l2 => qAl fun H3 p3 e3 S3 c3 l3 => ?_
 rw [sliE_len hl]
 have c1' := S3.get (S2.get c1 (by simp)) (by simp)
 have c2' := S3.get c2 (by simp)
 refine l88_1 hJ (fun k : Nat => ls.length - k) (fun k F H' => k ≤ ls.length ∧ ag [] H H' ∧ H'[p1]? = some (.cells (gzK ls at_ heads (wetB x.1) w k).1.cells true 0) ∧ H'[p2]? = some (.cells (spC x) true 0) ∧ H'[p3]? = some (.cells [ab 0,ab 0,ab 0,ab 0,ab 0,ab 0,.int .u8 0,ab 0] true 0) ∧ F.ds = [] ∧ F.r 2 = ab (at_ : Nat) ∧ F.r 3 = ab heads ∧ F.r 5 = ptr p1 0 ∧ F.r 9 = ptr p2 0 ∧ F.r 10 = ptr p3 0 ∧ F.r 12 = .bool (gzK ls at_ heads (wetB x.1) w k).2 ∧ F.r 19 = lv ∧ F.r 20 = ab (ls.length : Nat) ∧ F.r 21 = ab (k : Nat)) ?_ (s := 0)
  (.inl ⟨by omega,(S1.trans S2).trans S3,c1',c2',c3,rfl,rfl,rfl,rfl,rfl,rfl,rfl,rfl,rfl,rfl⟩)
 rintro k F H' ⟨hk,S,d1,d2,d3,ds,r2,r3,r5,r9,r10,r12,r19,r20,r21⟩ okc hnc
 rw [s88_1,r2,r3,r5,r9,r10,r12,r19,r20,r21]
 refine dh (ba (fun hlt => ?_) fun hge => ?_)
 rotate_left
 ·have : k = ls.length := by omega
  subst this
  refine ar (c := spC x) d2 (by simp [spC]) rfl rfl (aQ (storeS d1 fun H4 S4 c4 l4 => ?_))
  have d3' := S4.get d3 (by simp; omega)
  refine ar (c := (gzW ls at_ heads w x).cells) c4 (by simp [Wd.cells]) rfl rfl ?_
  refine da (c := (gzW ls at_ heads w x).cells) d3' rfl rfl rfl fun H5 S5 c5 l5 => ?_
  refine retQs ds (de (gg := true) (s := 8) (by kernel_rfl) ?_)
  show ai true 8 (F.r 10) H5 _
  rw [r10]
  refine ar (c := (gzW ls at_ heads w x).cells) c5 (by simp [Wd.cells]) rfl rfl (resW_tmp (by simp [unk,RG.p]) (dN ?_))
  exact hK H5 ((S.bq S4 (by simp; omega)).bq S5 (by simp; omega))
 have hkl : k < ls.length := by omega
 have hl' := S.sli hl (by simp)
 obtain ⟨b,oo,cs,wr,sz,hidx,hb,hos,htk,hkn⟩ := sliE_elem (s := 6) (fun _ => rfl) (by decide) hl' hkl
 have eg : ls[k] = ls.getD k pas0 := by
  rw [List.getD_eq_getElem?_getD,List.getElem?_eq_getElem hkl]
  rfl
 rw [eg] at htk
 have fp := L.get hkl
 have fo := gzK_ok L hh (at_ := at_) (wet := wetB x.1) o k hk k hkl
 generalize hp : ls.getD k pas0 = p at htk fp fo
 refine hidx _ (ar (c := p.cells) hb hos htk rfl (qAl fun H4 p4 e4 S4 c4 l4 => da (c := p.cells) c4 rfl rfl rfl fun H5 S5 c5 l5 => eqlI ?_))
 have n4 : p4 = H'.length := e4
 have l1' := ah d1
 have l2' := ah d2
 have l3' := ah d3
 have d1' := S5.get (S4.get d1 (by simp)) (by simp; omega)
 have d2' := S5.get (S4.get d2 (by simp)) (by simp; omega)
 have d3' := S5.get (S4.get d3 (by simp)) (by simp; omega)
 have S' := (S.trans S4).bq S5 (by have := S.1; simp; omega)
 have post : ∀ {F' : RG},F'.ds = [] → F'.r 2 = ab (at_ : Nat) → F'.r 3 = ab heads → F'.r 5 = ptr p1 0 → F'.r 9 = ptr p2 0 → F'.r 10 = ptr p3 0 → F'.r 12 = .bool (gzK ls at_ heads (wetB x.1) w k).2 → F'.r 19 = lv → F'.r 20 = ab (ls.length : Nat) → F'.r 21 = ab (k : Nat) → F'.r 13 = ab (k : Nat) → F'.r 14 = ptr p4 0 → F'.r 15 = ab (nAt at_ heads k) → 
   w88 J H.length yp5 F' H5 [Nx H.length (fun k : Nat => ls.length - k) (fun k F H' => k ≤ ls.length ∧ ag [] H H' ∧ H'[p1]? = some (.cells (gzK ls at_ heads (wetB x.1) w k).1.cells true 0) ∧ H'[p2]? = some (.cells (spC x) true 0) ∧ H'[p3]? = some (.cells [ab 0,ab 0,ab 0,ab 0,ab 0,ab 0,.int .u8 0,ab 0] true 0) ∧ F.ds = [] ∧ F.r 2 = ab (at_ : Nat) ∧ F.r 3 = ab heads ∧ F.r 5 = ptr p1 0 ∧ F.r 9 = ptr p2 0 ∧ F.r 10 = ptr p3 0 ∧ F.r 12 = .bool (gzK ls at_ heads (wetB x.1) w k).2 ∧ F.r 19 = lv ∧ F.r 20 = ab (ls.length : Nat) ∧ F.r 21 = ab (k : Nat)) k] K := by
  intro F' ds r2 r3 r5 r9 r10 r12 r19 r20 r21 r13 r14 r15
  rw [s88_2,r5,r9,r13,r14,r15,r21]
  generalize hW : (gzK ls at_ heads (wetB x.1) w k).1 = W at *
  refine ⟨[p4,p1],ar (c := p.cells) c5 (by simp [Pas.cells]) rfl rfl ⟨by simp [aR,au],aQ (idxAz (by omega) (load2 d1' (by omega) ⟨by simp [aR,au],fillM (qAl fun H6 p6 e6 S6 c6 l6 => ⟨sbTwo S6 (ah c5) (ah d1') (by simp) (by simp),?_⟩)⟩))⟩⟩
  refine da (c := medC p (W.st k)) c6 rfl rfl rfl fun H7 S7 c7 l7 => ?_
  have d17 := S7.get (S6.get d1' (by simp)) (by have := ah d1'; simp; omega)
  have d27 := S7.get (S6.get d2' (by simp)) (by have := ah d2'; simp; omega)
  have d37 := S7.get (S6.get d3' (by simp)) (by have := ah d3'; simp; omega)
  have S7' := (S'.trans S6).bq S7 (by have := S'.1; simp; omega)
  refine aQ (ldI (v := .int .u8 x.1.toNat) d27 rfl rfl ?_)
  have e119 : (Value.int .u8 119) = .int .u8 (119 : UInt8).toNat := rfl
  rw [e119]
  refine eqlU (good69 hJ c7 fp fo (nAt_bd hh) fun H8 S8 c8 => ext0 (ext1 ?_))
  have n6 : p6 = H5.length := e6
  have l5' := S5.1
  have l4' := S4.1
  have l15 := ah d1'
  have l25 := ah d2'
  have l35 := ah d3'
  have d18 := S8.get d17 (by simp; omega)
  have d28 := S8.get d27 (by simp; omega)
  have d38 := S8.get d37 (by simp; omega)
  have S8' := S7'.bq S8 (by have := S'.1; simp; omega)
  have nxt : ∀ {F2 : RG} {H9 : List af},ag [p1] H8 H9 → H9[p1]? = some (.cells (W.lay k (dayR p (W.st k) (nAt at_ heads k) (wetB x.1))).cells true 0) → F2.ds = [] → F2.r 2 = ab (at_ : Nat) → F2.r 3 = ab heads → F2.r 5 = ptr p1 0 → F2.r 9 = ptr p2 0 → F2.r 10 = ptr p3 0 → F2.r 12 = .bool ((gzK ls at_ heads (wetB x.1) w k).2 && !hungR (W.st k) (nAt at_ heads k)) → F2.r 19 = lv → F2.r 20 = ab (ls.length : Nat) → F2.r 21 = ab ((k : Int) + 1) → 
    Nx H.length (fun k : Nat => ls.length - k) (fun k F H' => k ≤ ls.length ∧ ag [] H H' ∧ H'[p1]? = some (.cells (gzK ls at_ heads (wetB x.1) w k).1.cells true 0) ∧ H'[p2]? = some (.cells (spC x) true 0) ∧ H'[p3]? = some (.cells [ab 0,ab 0,ab 0,ab 0,ab 0,ab 0,.int .u8 0,ab 0] true 0) ∧ F.ds = [] ∧ F.r 2 = ab (at_ : Nat) ∧ F.r 3 = ab heads ∧ F.r 5 = ptr p1 0 ∧ F.r 9 = ptr p2 0 ∧ F.r 10 = ptr p3 0 ∧ F.r 12 = .bool (gzK ls at_ heads (wetB x.1) w k).2 ∧ F.r 19 = lv ∧ F.r 20 = ab (ls.length : Nat) ∧ F.r 21 = ab (k : Nat)) k F2 H9 := by
   intro F2 H9 S9 c9 ds r2 r3 r5 r9 r10 r12 r19 r20 r21
   refine ⟨k + 1,by dsimp only; omega,.inl ⟨by omega,S8'.bq S9 (by simp; omega),?_,S9.get d28 (by simp; omega),S9.get d38 (by simp; omega),ds,r2,r3,r5,r9,r10,?_,r19,r20,by rw [r21]; congr 1⟩⟩
   ·rw [c9,gzK,hW,hp]
   ·rw [r12,gzK,hW]
  have c8' : H8[p6]? = some (.cells (medC p (dayR p (W.st k) (nAt at_ heads k) (wetB x.1))) true 0) := c8
  have ld : ∀ {KV : Value → Prop},KV (.agg ⟨[ab (dayR p (W.st k) (nAt at_ heads k) (wetB x.1)).1,ab (dayR p (W.st k) (nAt at_ heads k) (wetB x.1)).2]⟩) → ai true 2 (ptr p6 (0 + 6)) H8 KV := fun hk => ar (c := [ab (dayR p (W.st k) (nAt at_ heads k) (wetB x.1)).1,ab (dayR p (W.st k) (nAt at_ heads k) (wetB x.1)).2]) c8' (by simp [medC,Pas.cells]) rfl rfl hk
  refine cndB (fun hy => ?_) fun hn => ?_
  ·refine aQ (ld (aQ (idxAz (by omega) (store2 (x := dayR p (W.st k) (nAt at_ heads k) (wetB x.1)) d18 (by omega) fun H9 S9 c9 l9 => ck (by omega) (nxt S9 c9 ds r2 r3 r5 r9 r10 ?_ r19 r20 rfl)))))
   rw [hy,Bool.not_true,Bool.and_false]
   rfl
  ·refine aQ (ld (aQ (idxAz (by omega) (store2 (x := dayR p (W.st k) (nAt at_ heads k) (wetB x.1)) d18 (by omega) fun H9 S9 c9 l9 => ck (by omega) (nxt S9 c9 ds r2 r3 r5 r9 r10 ?_ r19 r20 rfl)))))
   rw [hn,Bool.not_false,Bool.and_true]
   exact r12
 refine ba (fun he => hold.2 ?_) fun he => hold.2 ?_
 ·refine post ds r2 r3 r5 r9 r10 r12 r19 r20 r21 rfl rfl ?_
  show ab heads = _
  rw [nAt,if_pos (by omega)]
 ·refine post ds r2 r3 r5 r9 r10 r12 r19 r20 r21 rfl rfl ?_
  show ab 0 = _
  rw [nAt,if_neg (by omega)]
end
def mB (x y : Option Bool) : Option Bool := match x with
 | some true => y
 | some false => some false
 | none => none
theorem mB_some (a b : Bool) : mB (some a) (some b) = some (a && b) := by cases a <;> rfl
def mF (a b c d : Int) : Option Bool := mB (some (a == b)) (mB (some (c == d)) (some true))
theorem teqW (w w' : Wd) : teq prog 10000 118 w.val w'.val = mB (mB (mF w.a.1 w'.a.1 w.a.2 w'.a.2) (mB (mF w.b.1 w'.b.1 w.b.2 w'.b.2) (mB (mF w.c.1 w'.c.1 w.c.2 w'.c.2) (some true)))) (mB (mF (w.sp.1.toNat : Int) (w'.sp.1.toNat : Int) w.sp.2 w'.sp.2) (some true)) := by kernel_rfl
theorem val_inj {w w' : Wd} (h : w.val = w'.val) : w = w' := by
 obtain ⟨⟨a1,a2⟩,⟨b1,b2⟩,⟨c1,c2⟩,⟨s1,s2⟩⟩ := w
 obtain ⟨⟨a1',a2'⟩,⟨b1',b2'⟩,⟨c1',c2'⟩,⟨s1',s2'⟩⟩ := w'
 simp only [Wd.val,Wd.cells,ab,Value.agg.injEq,Array.mk.injEq,List.cons.injEq,Value.int.injEq,true_and,and_true] at h
 obtain ⟨rfl,rfl,rfl,rfl,rfl,rfl,e,rfl⟩ := h
 have : s1 = s1' := UInt8.toNat_inj.1 (by omega)
 rw [this]
theorem teq_val {w w' : Wd} [i : Decidable (w.val = w'.val)] : teq prog 10000 118 (Wd.val w) (Wd.val w') = some (decide (w.val = w'.val)) := by
 rw [teqW]
 simp only [mF,mB_some,Option.some.injEq]
 rw [Bool.eq_iff_iff]
 simp only [Bool.and_eq_true,beq_iff_eq,decide_eq_true_eq,and_true]
 constructor
 ·rintro ⟨⟨⟨h1,h2⟩,⟨h3,h4⟩,h5,h6⟩,h7,h8⟩
  simp only [Wd.val,Wd.cells,h1,h2,h3,h4,h5,h6,h7,h8]
 ·intro h
  rw [val_inj h]
  simp
theorem kOk_val (w : Wd) : kOk prog 10000 118 w.val = true := by kernel_rfl
theorem same_val (w : Wd) : Instr.sameBits 10000 w.val w.val = true := by
 simp [Instr.sameBits,Wd.val,Wd.cells,ab]
def entW (w : Wd) : Value × Value := (w.val,.bool true)
theorem updL_val {w : Wd} : ∀ N : List Wd,updL w.val (.bool true) (N.map entW) = (if w ∈ N then N else N ++ [w]).map entW
 | [] => by simp [updL,entW]
 | x :: N => by
  simp only [List.map_cons,entW,updL]
  by_cases e : w = x
  ·subst e
   simp [entW]
  ·rw [if_neg fun h => e (val_inj h)]
   have := updL_val (w := w) N
   unfold entW at this ⊢
   rw [this]
   by_cases hm : w ∈ N
   ·simp [hm,e]
   ·simp [hm,e]
section
variable {main : Bool} {J : JT} {h H : List af} {K : Value → List af → Prop} {KV : Value → Prop} {HL : List af → Prop} {n0 : Nat}
theorem updW {b : Nat} {N : List Wd} {w : Wd} (hb : H[b]? = some (.map (N.map entW) true)) (nd : N.Nodup) (hk : ∀ (H' : List af) (N' : List Wd),ag [b] H H' → H'[b]? = some (.map (N'.map entW) true) → N'.Nodup → (∀ y,y ∈ N' ↔ y ∈ N ∨ y = w) → H'.length = H.length → HL H') : aUpdX prog 109 (.map (some b)) w.val (.bool true) H HL := by
 have hlt := ah hb
 unfold aUpdX
 rw [show prog.underlying 109 = some (.map 118 4) by kernel_rfl]
 simp only [hb]
 refine ⟨kOk_val w,by simp [Wd.val,Wd.cells,ab,VOk,AOk,LOk],same_val w,fun e he => ?_,?_⟩
 ·obtain ⟨x,_,rfl⟩ := List.mem_map.1 he
  exact @teq_val _ _ (Classical.propDecidable _)
 ·rw [updL_val]
  refine hk _ (if w ∈ N then N else N ++ [w]) ⟨by simp,fun i hi hn => by rw [List.getElem?_set_ne (fun e => hn (by simp [e]))]⟩ (by simp [hlt]) ?_ (fun y => ?_) (by simp)
  ·split
   ·exact nd
   ·rename_i hn
    rw [List.nodup_append]
    exact ⟨nd,by simp,fun a ha b hb => by
     rw [List.mem_singleton.1 hb]
     exact fun e => hn (e ▸ ha)⟩
  ·split
   ·rename_i hm
    exact ⟨.inl,fun h => h.elim id fun e => e ▸ hm⟩
   ·simp
def MapW (h : List af) (v : Value) (L : List Wd) : Prop := ∃ b wr,v = .map (some b) ∧ h[b]? = some (.map (L.map entW) wr) ∧ L.Nodup
theorem nextW {b m : Nat} {M : List Wd} {wr : Bool} {sn : List Nat} (hb : H[b]? = some (.iter m M.length sn)) (hm : H[m]? = some (.map (M.map entW) wr)) (hne : b ≠ m)
  (h1 : ∀ (i : Nat) (w : Wd) (H' : List af),M[i]? = some w → i ∉ sn → ag [b] H H' → H'[b]? = some (.iter m M.length (sn ++ [i])) → H'[m]? = some (.map (M.map entW) wr) → H'.length = H.length → K (.tuple ⟨[.bool true,w.val,.bool true]⟩) H') (h2 : (∀ i,i < M.length → i ∈ sn) → K (.tuple ⟨[.bool false]⟩) H) : aNext (ptr b 0) H K := by
 have hlt := ah hb
 unfold aNext
 simp only [ptr,hb,hm]
 refine ⟨by simp,fun i a u hi hn => ?_,h2⟩
 rw [List.getElem?_map] at hi
 obtain ⟨w,hw,e⟩ := Option.map_eq_some_iff.1 hi
 cases e
 exact h1 i w _ hw hn ⟨by simp,fun j hj hx => by rw [List.getElem?_set_ne (fun e => hx (by simp [e]))]⟩ (by simp [hlt]) (by rw [List.getElem?_set_ne hne]; exact hm) (by simp)
theorem entryW {b m i : Nat} {M : List Wd} {wr : Bool} {sn : List Nat} {w : Wd} (hb : H[b]? = some (.iter m M.length (sn ++ [i]))) (hm : H[m]? = some (.map (M.map entW) wr)) (hw : M[i]? = some w) (hk : KV (.tuple ⟨[w.val,.bool true]⟩)) : aEntry (ptr b 0) H KV := by
 unfold aEntry
 have e : (M.map entW)[i]? = some (w.val,.bool true) := by
  rw [List.getElem?_map,hw]
  rfl
 simp only [ptr,hb,hm,List.getLast?_append,List.getLast?_singleton,Option.some_or,e]
 exact ⟨by simp,hk⟩
theorem rangeW {m : Nat} {M : List Wd} {wr : Bool} (hm : H[m]? = some (.map (M.map entW) wr)) (hk : ∀ H' p,p = H.length → ag [] H H' → H'[p]? = some (.iter m M.length []) → H'.length = p + 1 → K (ptr p 0) H') : aRange prog 109 (.map (some m)) H K := by
 unfold aRange
 rw [show prog.underlying 109 = some (.map 118 4) by kernel_rfl]
 simp only [hm,List.length_map]
 exact hk _ H.length rfl ag.refl.app (by simp) (by simp)
end
theorem nodup_le : ∀ (n : Nat) (l : List Nat),l.Nodup → (∀ i ∈ l,i < n) → l.length ≤ n
 | 0,l,_,h => by
  cases l with
  | nil => simp
  | cons x l => exact absurd (h x (by simp)) (Nat.not_lt_zero _)
 | n + 1,l,nd,h => by
  by_cases hm : n ∈ l
  ·have h1 := List.length_erase_of_mem hm
   have h2 := nodup_le n (l.erase n) (nd.erase n) fun i hi => by
    obtain ⟨hne,hi⟩ := nd.mem_erase_iff.1 hi
    have := h i hi
    omega
   omega
  ·have := nodup_le n l nd fun i hi => by
    have := h i hi
    have : i ≠ n := fun e => hm (e ▸ hi)
    omega
   omega
def afC (ls : List Pas) (s : aU) (at_ : Nat) (heads : Int) (w : Wd) (c : UInt8) : List (Wd × Bool) := if dV s w.sp c = true then [(gzW ls at_ heads w (cP w.sp c),gzB ls at_ heads w (cP w.sp c))] else []
def afJ (ls : List Pas) (s : aU) (at_ : Nat) (heads : Int) (w : Wd) (j : Nat) : List (Wd × Bool) := (letters.take j).flatMap (afC ls s at_ heads w)
theorem afJ_all {ls : List Pas} {s : aU} {at_ : Nat} {heads : Int} {w : Wd} : afJ ls s at_ heads w 2 = afters ls s at_ heads w := rfl
theorem afJ_step {ls : List Pas} {s : aU} {at_ : Nat} {heads : Int} {w : Wd} {j : Nat} {c : UInt8} (hc : letters[j]? = some c) : afJ ls s at_ heads w (j + 1) = afJ ls s at_ heads w j ++ afC ls s at_ heads w c := by
 unfold afJ
 rw [List.take_add_one,hc]
 simp
structure Dawned (ls : List Pas) (s : aU) (at_ : Nat) (heads : Int) (M : List Wd) (sn : List Nat) (E : List (Wd × Bool)) (N : List Wd) : Prop where
 mem : ∀ y,y ∈ N ↔ (∃ i w0,i ∈ sn ∧ M[i]? = some w0 ∧ ∃ z ∈ afters ls s at_ heads w0,z.1 = y) ∨ ∃ z ∈ E,z.1 = y
 fed : ∀ i ∈ sn,∀ w0,M[i]? = some w0 → ∀ z ∈ afters ls s at_ heads w0,z.2 = true
 fedE : ∀ z ∈ E,z.2 = true
theorem Dawned.more {ls : List Pas} {s : aU} {at_ : Nat} {heads : Int} {M : List Wd} {sn : List Nat} {w : Wd} {i : Nat} {N : List Wd} (D : Dawned ls s at_ heads M sn (afters ls s at_ heads w) N) (hi : M[i]? = some w) : Dawned ls s at_ heads M (sn ++ [i]) [] N := by
 refine ⟨fun y => ?_,fun j hj w0 hw => ?_,fun z hz => by cases hz⟩
 ·rw [D.mem y]
  constructor
  ·rintro (⟨j,w0,h1,h2,h3⟩ | h)
   ·exact .inl ⟨j,w0,by simp [h1],h2,h3⟩
   ·exact .inl ⟨i,w,by simp,hi,h⟩
  ·rintro (⟨j,w0,h1,h2,h3⟩ | ⟨z,hz,_⟩)
   ·rcases List.mem_append.1 h1 with h1 | h1
    ·exact .inl ⟨j,w0,h1,h2,h3⟩
    ·rw [List.mem_singleton.1 h1,hi] at h2
     cases h2
     exact .inr h3
   ·cases hz
 ·rcases List.mem_append.1 hj with h1 | h1
  ·exact D.fed j h1 w0 hw
  ·rw [List.mem_singleton.1 h1,hi] at hw
   cases hw
   exact D.fedE
theorem Dawned.done {ls : List Pas} {s : aU} {at_ : Nat} {heads : Int} {M : List Wd} {sn : List Nat} {N : List Wd} (D : Dawned ls s at_ heads M sn [] N) (hs : ∀ i,i < M.length → i ∈ sn) : dawnB ls s at_ heads M = true ∧ SameW N (dawnL ls s at_ heads M) := by
 constructor
 ·unfold dawnB
  rw [List.all_eq_true]
  intro w hw
  rw [List.all_eq_true]
  intro z hz
  obtain ⟨i,hi⟩ := List.getElem?_of_mem hw
  exact D.fed i (hs i (List.getElem?_eq_some_iff.1 hi).1) w hi z hz
 ·intro y
  rw [D.mem y]
  unfold dawnL
  rw [List.mem_flatMap]
  constructor
  ·rintro (⟨j,w0,h1,h2,z,hz,rfl⟩ | ⟨z,hz,_⟩)
   ·exact ⟨w0,List.mem_of_getElem? h2,List.mem_map.2 ⟨z,hz,rfl⟩⟩
   ·cases hz
  ·rintro ⟨w0,hw,hy⟩
   obtain ⟨z,hz,e⟩ := List.mem_map.1 hy
   obtain ⟨i,hi⟩ := List.getElem?_of_mem hw
   exact .inl ⟨i,w0,hs i (List.getElem?_eq_some_iff.1 hi).1,hi,z,hz,e⟩
section
variable {main : Bool} {J : JT} {h H : List af} {K : Value → List af → Prop} {KV : Value → Prop} {HL : List af → Prop} {n0 : Nat}
theorem extO {b : Bool} (hk : KV (.bool b)) : bL (.tuple ⟨[.bool b]⟩) 0 KV := ⟨rfl,hk⟩
def lettersV : Value := .agg ⟨[.int .u8 100,.int .u8 119]⟩
theorem letterI {j : Nat} {c : UInt8} (hc : letters[j]? = some c) (hk : KV (.int .u8 c.toNat)) : aIdxV 2 1 false lettersV (ab (j : Nat)) KV := by
 match j,hc with
 | 0,hc =>
  cases hc
  exact ⟨by decide,hk⟩
 | 1,hc =>
  cases hc
  exact ⟨by decide,hk⟩
theorem good50 (hJ : Closed prog main J) {ls : List Pas} {lv mv : Value} {s : aU} {M : List Wd} {at_ : Nat} {heads : Int} (L : LsOk ls) (_f : cL s) (hl : SliE H lv 6 Pas.cells ls) (hh : 0 ≤ heads ∧ heads ≤ 40) (hm : MapW H mv M) (o : ∀ w ∈ M,WdOk ls w)
  (hK1 : dawnB ls s at_ heads M = true → ∀ H' mv' M',ag [] H H' → MapW H' mv' M' → SameW M' (dawnL ls s at_ heads M) → K (.tuple ⟨[mv',.bool true]⟩) H')
  (hK0 : dawnB ls s at_ heads M = false → ∀ H',ag [] H H' → K (.tuple ⟨[.map none,.bool false]⟩) H') : Good prog J 50 [mv,lv,.agg ⟨s.cells⟩,ab (at_ : Nat),ab heads] H K := by
 obtain ⟨m,wr,rfl,hm,ndM⟩ := hm
 have hml := ah hm
 refine g50 hJ fun ok => ?_
 rw [e50]
 refine dk (l := s.cells) rfl fun H1 ps e1 S1 c1 l1 => qNewM fun H2 po e2 S2 c2 l2 => rangeW (M := M) (wr := wr) (S2.get (S1.get hm (by simp)) (by simp)) fun H3 pi e3 S3 c3 l3 => ?_
 have c13 := S3.get (S2.get c1 (by simp)) (by simp)
 have c23 := S3.get c2 (by simp)
 have b1 := S1.1
 have b2 := S2.1
 have b3 := S3.1
 refine l50_1 hJ (fun sn : List Nat => M.length - sn.length) (fun sn F H' => sn.Nodup ∧ (∀ i ∈ sn,i < M.length) ∧ ag [] H H' ∧ H'[ps]? = some (.cells s.cells true 0) ∧ H'[pi]? = some (.iter m M.length sn) ∧ (∃ N,H'[po]? = some (.map (N.map entW) true) ∧ N.Nodup ∧ Dawned ls s at_ heads M sn [] N) ∧ F.ds = [] ∧ F.r 1 = lv ∧ F.r 3 = ab (at_ : Nat) ∧ F.r 4 = ab heads ∧ F.r 7 = ptr ps 0 ∧ F.r 12 = .map (some po) ∧ F.r 22 = ptr pi 0) ?_ (s := [])
  (.inl ⟨List.nodup_nil,by simp,(S1.trans S2).trans S3,c13,c3,⟨[],c23,List.nodup_nil,⟨fun y => by simp,by simp,by simp⟩⟩,rfl,rfl,rfl,rfl,rfl,rfl,rfl⟩)
 rintro sn F H' ⟨nd,hb,S,d1,d3,⟨N,d2,ndN,D⟩,ds,r1,r3,r4,r7,r12,r22⟩ okc hnc
 rw [s50_1,r22,r12,ds]
 have dm := S.get hm (by simp)
 refine nextW d3 dm (by omega) (fun i w H4 hw hi S4 c4 m4 l4 => ext30 (bm.2 ?_)) fun hall => extO (aP.2 ?_)
 rotate_left
 ·obtain ⟨hB,hS⟩ := D.done hall
  exact ao (by simp [unk]) (hK1 hB H' _ N S ⟨po,true,rfl,d2,ndN⟩ hS)
 have ow := o w (List.mem_of_getElem? hw)
 refine entryW c4 m4 hw (ext0 (qAl fun H5 pw e5 S5 c5 l5 => da (c := w.cells) c5 rfl rfl rfl fun H6 S6 c6 l6 => aK (l := [.int .u8 100]) rfl rfl rfl (by decide) (aK (l := [.int .u8 119]) rfl rfl rfl (by decide) (bu ?_))))
 have g1 := ah d1
 have g2 := ah d2
 have g3 := ah d3
 have g4 := S4.1
 have g5 := S5.1
 have t1 := S6.get (S5.get (S4.get d1 (by simp; omega)) (by simp)) (by simp; omega)
 have t2 := S6.get (S5.get (S4.get d2 (by simp; omega)) (by simp)) (by simp; omega)
 have t3 := S6.get (S5.get c4 (by simp)) (by simp; omega)
 have T := ((S.bq S4 (by simp; omega)).trans S5).bq S6 (by have := S.1; simp; omega)
 -- the letters
 refine l50_2 hJ (fun j : Nat => 2 - j) (fun j F H' => j ≤ 2 ∧ ag [] H H' ∧ H'[ps]? = some (.cells s.cells true 0) ∧ H'[pi]? = some (.iter m M.length (sn ++ [i])) ∧ H'[pw]? = some (.cells w.cells true 0) ∧ (∃ N,H'[po]? = some (.map (N.map entW) true) ∧ N.Nodup ∧ Dawned ls s at_ heads M sn (afJ ls s at_ heads w j) N) ∧ F.ds = [] ∧ F.r 1 = lv ∧ F.r 3 = ab (at_ : Nat) ∧ F.r 4 = ab heads ∧ F.r 7 = ptr ps 0 ∧ F.r 12 = .map (some po) ∧ F.r 22 = ptr pi 0 ∧ F.r 13 = ptr pw 0 ∧ F.r 27 = lettersV ∧ F.r 28 = ab (j : Nat)) ?_ (s := 0)
  (.inl ⟨by omega,T,t1,t3,c6,⟨N,t2,ndN,D⟩,ds,r1,r3,r4,r7,r12,r22,rfl,rfl,rfl⟩)
 clear t1 t2 t3 T D ndN d2 N d1 d3
 rintro j F2 H7 ⟨hj,T,t1,t3,t4,⟨N,t2,ndN,D⟩,ds,r1,r3,r4,r7,r12,r22,r13,r27,r28⟩ okc2 hnc2
 rw [s50_2,r1,r3,r4,r7,r12,r13,r27,r28,ds]
 refine dh (ba (fun hlt => ?_) fun hge => ?_)
 rotate_left
 ·have : j = 2 := by omega
  subst this
  rw [afJ_all] at D
  have nd' : (sn ++ [i]).Nodup := by
   rw [List.nodup_append]
   exact ⟨nd,by simp,fun a ha b hb e => hi (by rw [List.mem_singleton.1 hb] at e; exact e ▸ ha)⟩
  have hb' : ∀ x ∈ sn ++ [i],x < M.length := fun x hx => by
   rcases List.mem_append.1 hx with hx | hx
   ·exact hb x hx
   ·rw [List.mem_singleton.1 hx]
    exact (List.getElem?_eq_some_iff.1 hw).1
  have hle := nodup_le M.length _ nd' hb'
  rw [List.length_append] at hle
  exact ⟨sn ++ [i],by dsimp only; rw [List.length_append]; simp at hle ⊢; omega,.inl ⟨nd',hb',T,t1,t3,⟨N,t2,ndN,D.more hw⟩,ds,r1,r3,r4,r7,r12,r22⟩⟩
 obtain ⟨c,hc⟩ : ∃ c,letters[j]? = some c := ⟨_,List.getElem?_eq_getElem (show j < letters.length by show j < 2; omega)⟩
 have hstep := afJ_step (ls := ls) (s := s) (at_ := at_) (heads := heads) (w := w) hc
 refine letterI hc (aQ (ar (c := spC w.sp) t4 (by simp [Wd.cells]) rfl rfl (ar (c := s.cells) t1 (by simp [aU.cells]) rfl rfl ?_)))
 have q1 := ah t1
 have q2 := ah t2
 have q3 := ah t3
 have q4 := ah t4
 refine good74 hJ (by have := ow.sp; omega) fun H8 S8 => ext0 (ext1 (qAl fun H9 px e9 S9 c9 l9 => da (c := spC (cP w.sp c)) c9 rfl rfl rfl fun H10 S10 c10 l10 => dU ?_))
 have v8 := S8.1
 have u1 := S10.get (S9.get (S8.get t1 (by simp)) (by simp)) (by simp; omega)
 have u2 := S10.get (S9.get (S8.get t2 (by simp)) (by simp)) (by simp; omega)
 have u3 := S10.get (S9.get (S8.get t3 (by simp)) (by simp)) (by simp; omega)
 have u4 := S10.get (S9.get (S8.get t4 (by simp)) (by simp)) (by simp; omega)
 have U := ((T.trans S8).trans S9).bq S10 (by have := T.1; simp; omega)
 have k1 := ah u1
 have k2 := ah u2
 have k3 := ah u3
 have k4 := ah u4
 cases hnx : dV s w.sp c with
 | false =>
  have e0 : afJ ls s at_ heads w (j + 1) = afJ ls s at_ heads w j := by
   rw [hstep,afC,hnx]
   simp
  refine bm.2 (ck (by omega) ⟨j + 1,by dsimp only; omega,.inl ⟨by omega,U,u1,u3,u4,⟨N,u2,ndN,by rw [e0]; exact D⟩,ds,r1,r3,r4,r7,r12,r22,r13,r27,rfl⟩⟩)
 | true =>
  have e0 : afJ ls s at_ heads w (j + 1) = afJ ls s at_ heads w j ++ [(gzW ls at_ heads w (cP w.sp c),gzB ls at_ heads w (cP w.sp c))] := by
   rw [hstep,afC,hnx]
   simp
  refine aP.2 (ar (c := w.cells) u4 (by simp [Wd.cells]) rfl rfl (ar (c := spC (cP w.sp c)) c10 (by simp [spC]) rfl rfl ?_))
  refine good88 hJ L (U.sli hl (by simp)) ow hh fun H11 S11 => ext0 (ext1 (qAl fun H12 py e12 S12 c12 l12 => da (c := (gzW ls at_ heads w (cP w.sp c)).cells) c12 rfl rfl rfl fun H13 S13 c13 l13 => dU ?_))
  have v11 := S11.1
  have w1 := S13.get (S12.get (S11.get u1 (by simp)) (by simp)) (by simp; omega)
  have w2 := S13.get (S12.get (S11.get u2 (by simp)) (by simp)) (by simp; omega)
  have w3 := S13.get (S12.get (S11.get u3 (by simp)) (by simp)) (by simp; omega)
  have w4 := S13.get (S12.get (S11.get u4 (by simp)) (by simp)) (by simp; omega)
  have Wt := ((U.trans S11).trans S12).bq S13 (by have := U.1; simp; omega)
  cases hfd : gzB ls at_ heads w (cP w.sp c) with
  | false =>
   refine bm.2 (ao (by simp [unk]) (hK0 ?_ H13 Wt))
   rw [← Bool.not_eq_true]
   intro hB
   unfold dawnB at hB
   rw [List.all_eq_true] at hB
   have h1 := hB w (List.mem_of_getElem? hw)
   rw [List.all_eq_true] at h1
   have h2 := h1 (gzW ls at_ heads w (cP w.sp c),gzB ls at_ heads w (cP w.sp c)) (List.mem_flatMap.2 ⟨c,List.mem_of_getElem? hc,by rw [hnx]; simp⟩)
   rw [hfd] at h2
   cases h2
  | true =>
   refine aP.2 (ar (c := (gzW ls at_ heads w (cP w.sp c)).cells) c13 (by simp [Wd.cells]) rfl rfl ⟨⟨by simp [VOk],rfl⟩,updW w2 ndN fun H14 N' S14 c14 nd14 m14 l14 => ?_⟩)
   refine ck (by omega) ⟨j + 1,by dsimp only; omega,.inl ⟨by omega,Wt.bq S14 (by simp; omega),S14.get w1 (by simp; omega),S14.get w3 (by simp; omega),S14.get w4 (by simp; omega),⟨N',c14,nd14,⟨fun y => ?_,D.fed,fun z hz => ?_⟩⟩,ds,r1,r3,r4,r7,r12,r22,r13,r27,rfl⟩⟩
   ·rw [m14,D.mem y,e0]
    simp only [List.mem_append,List.mem_singleton]
    constructor
    ·rintro ((h | ⟨z,hz,e⟩) | rfl)
     ·exact .inl h
     ·exact .inr ⟨z,.inl hz,e⟩
     ·exact .inr ⟨_,.inr rfl,rfl⟩
    ·rintro (h | ⟨z,hz | rfl,e⟩)
     ·exact .inl (.inl h)
     ·exact .inl (.inr ⟨z,hz,e⟩)
     ·exact .inr e.symm
   ·rw [e0] at hz
    rcases List.mem_append.1 hz with hz | hz
    ·exact D.fedE z hz
    ·rw [List.mem_singleton.1 hz]
     exact hfd
end
theorem turnA_len {ls : List Pas} {s : aU} {heads : Int} {L : List Wd} {rest : List Wd → Option (List Int)} {n : Nat} (hr : ∀ M l,rest M = some l → l.length = n) : ∀ k l,turnA ls s heads L rest k = some l → l.length = n + 1
 | 0,l,h => by cases h
 | k + 1,l,h => by
  simp only [turnA] at h
  split at h
  ·split at h
   ·rename_i r hr'
    cases h
    rw [List.length_cons,hr _ _ hr']
   ·exact turnA_len hr k l h
  ·exact turnA_len hr k l h
theorem turnR_len {ls : List Pas} {s : aU} {heads : Int} : ∀ (d : Nat) (L : List Wd) (l : List Int),turnR ls s heads d L = some l → l.length = d + 1
 | 0,L,l,h => turnA_len (n := 0) (fun _ _ h => by cases h; rfl) _ _ h
 | d + 1,L,l,h => turnA_len (n := d + 1) (fun M l h => turnR_len d M l h) _ _ h
def restR (ls : List Pas) (s : aU) (heads : Int) : Nat → List Wd → Option (List Int)
 | 0 => fun _ => some []
 | d + 1 => turnR ls s heads d
theorem turnR_is {ls : List Pas} {s : aU} {heads : Int} (d : Nat) (L : List Wd) : turnR ls s heads d L = turnA ls s heads L (restR ls s heads d) ls.length := by cases d <;> rfl
section
variable {main : Bool} {J : JT} {h H : List af} {K : Value → List af → Prop} {KV : Value → Prop} {HL : List af → Prop} {n0 : Nat}
theorem sli_kn {v : Value} {s n : Nat} {cs : List Value} (h1 : Sli H v s n cs) : kn cs = true := by
 obtain ⟨_,_,_,⟨_,h⟩,_⟩ := h1
 exact h
theorem sli_ln {v : Value} {s n : Nat} {cs : List Value} (h1 : Sli H v s n cs) : cs.length = n * s := by
 obtain ⟨_,_,_,⟨h,_⟩,_⟩ := h1
 exact h
theorem appF {m p : Nat} {x y : Value} {ys : List Value} (hp : H[p]? = some (.cells [x] true 0)) (hx : kn1 x = true) (hm : 1 ≤ m ∧ m < 1000000) (hy : Sli H y 1 m ys)
  (hk : OwnX (H ++ [.cells (x :: ys) true 1]) 1 (x :: ys) (1 + m) (.slice (some ⟨H.length,0,none⟩) (1 + m) fz) (some H.length) → K (.slice (some ⟨H.length,0,none⟩) (1 + m) fz) (H ++ [.cells (x :: ys) true 1])) : aApp 1 (.slice (some ⟨p,0,none⟩) 1 1) y H K := by
 have hr : room = 1073741824 := rfl
 have hf : fz = 1180591620717411303424 := rfl
 have hkn := sli_kn hy
 have hln := sli_ln hy
 have hy' := hy
 obtain ⟨yb,yc,rfl,_⟩ := hy
 unfold aApp
 simp only [hp]
 refine ⟨by omega,src_sli hy' (by decide) ⟨⟨by simp,by simp [kn,hx]⟩,fun _ => ⟨fun h => absurd h (by omega),fun _ => ?_⟩,fun h => absurd h (by omega)⟩⟩
 refine hk ⟨by simp [hln]; omega,?_,.inr ⟨H.length,fz,1,rfl,rfl,by simp,.inl ⟨rfl,rfl⟩⟩⟩
 unfold kn at hkn ⊢
 simp [hx,hkn]
def TurnV (H : List af) (v : Value) : Option (List Int) → Prop
 | none => v = .slice none 0 0
 | some l => ∃ o,OwnX H 1 (l.map ab) l.length v (some o)
theorem turn_step (hJ : Closed prog main J) {ls : List Pas} {lv : Value} {s : aU} {heads : Int} (L : LsOk ls) (f : cL s) (hh : 0 ≤ heads ∧ heads ≤ 40) (d : Nat)
  (hrec : ∀ d',d = d' + 1 → ∀ {H : List af} {mv : Value} {M : List Wd} {K : Value → List af → Prop},SliE H lv 6 Pas.cells ls → MapW H mv M → (∀ w ∈ M,WdOk ls w) → (∀ H' v,ag [] H H' → TurnV H' v (turnR ls s heads d' M) → K v H') → Good prog J 52 [mv,lv,.agg ⟨s.cells⟩,ab heads,ab ((d' : Int) + 1)] H K)
  {H : List af} {mv : Value} {M : List Wd} {K : Value → List af → Prop} (hd : d ≤ 100) (hl : SliE H lv 6 Pas.cells ls) (hm : MapW H mv M) (o : ∀ w ∈ M,WdOk ls w)
  (hK : ∀ H' v,ag [] H H' → TurnV H' v (turnR ls s heads d M) → K v H') : Good prog J 52 [mv,lv,.agg ⟨s.cells⟩,ab heads,ab ((d : Int) + 1)] H K := by
 refine g52 hJ fun ok => ?_
 rw [e52]
 have few := L.few
 refine dk (l := s.cells) rfl fun H1 ps e1 S1 c1 l1 => ?_
 rw [sliE_len hl]
 rw [turnR_is] at hK
 refine l52_1 hJ (fun k : Nat => ls.length - k) (fun k F H' => k ≤ ls.length ∧ ag [] H H' ∧ H'[ps]? = some (.cells s.cells true 0) ∧ turnA ls s heads M (restR ls s heads d) ls.length = turnA ls s heads M (restR ls s heads d) (ls.length - k) ∧ F.ds = [] ∧ F.r 0 = mv ∧ F.r 1 = lv ∧ F.r 3 = ab heads ∧ F.r 4 = ab ((d : Int) + 1) ∧ F.r 7 = ptr ps 0 ∧ F.r 16 = ab (ls.length : Nat) ∧ F.r 17 = ab (k : Nat)) ?_ (s := 0)
  (.inl ⟨by omega,S1,c1,rfl,rfl,rfl,rfl,rfl,rfl,rfl,rfl,rfl⟩)
 rintro k F H' ⟨hk,S,d1,ht,ds,r0,r1,r3,r4,r7,r16,r17⟩ okc hnc
 rw [s52_1,r0,r1,r3,r4,r7,r16,r17,ds]
 refine dh (ba (fun hlt => ?_) fun hge => ?_)
 rotate_left
 ·have : k = ls.length := by omega
  subst this
  rw [Nat.sub_self] at ht
  refine ao (by simp [unk]) (hK H' _ S ?_)
  rw [ht]
  rfl
 have hkl : k < ls.length := by omega
 have hat : ls.length - k = (ls.length - k - 1) + 1 := by omega
 have hak : ls.length - ((ls.length - k - 1) + 1) = k := by omega
 rw [hat] at ht
 simp only [turnA] at ht
 rw [hak] at ht
 have hk1 : ls.length - k - 1 = ls.length - (k + 1) := by omega
 rw [hk1] at ht
 have q1 := ah d1
 refine ar (c := s.cells) d1 (by simp [aU.cells]) rfl rfl ?_
 have hm' : MapW H' mv M := by
  obtain ⟨m,wr,e,h1,h2⟩ := hm
  exact ⟨m,wr,e,S.get h1 (by simp),h2⟩
 refine good50 hJ L f (S.sli hl (by simp)) hh hm' o (fun hB H4 mv' M' S4 hmv hsame => ?_) fun hB H4 S4 => ?_
 rotate_left
 ·refine ext0 (ext1 (dU (bm.2 (ck (by omega) ⟨k + 1,by dsimp only; omega,.inl ⟨by omega,S.trans S4,S4.get d1 (by simp),?_,ds,r0,r1,r3,r4,r7,r16,rfl⟩⟩))))
  rw [hB] at ht
  simpa using ht
 have oM : ∀ w ∈ M',WdOk ls w := fun w hw => by
  have := (hsame w).1 hw
  unfold dawnL at this
  rw [List.mem_flatMap] at this
  obtain ⟨w0,h0,h1⟩ := this
  obtain ⟨z,hz,rfl⟩ := List.mem_map.1 h1
  exact afters_ok L f hh (o w0 h0) z hz
 rw [hB,if_pos rfl] at ht
 have ST := S.trans S4
 refine ext0 (ext1 (dU (aP.2 (eqlI (ba (fun h1 => ?_) fun h1 => ?_)))))
 ·have : d = 0 := by omega
  subst this
  refine ⟨⟨by decide,by decide,rfl⟩,aK (l := [ab (k : Nat)]) rfl rfl rfl (by decide) (bu (du fun H5 p5 e5 S5 c5 l5 => ao (by simp [unk]) (hK H5 _ (ST.trans S5) ?_)))⟩
  rw [ht]
  exact ⟨p5,dv (l := [ab (k : Nat)]) c5 rfl rfl⟩
 ·obtain ⟨d',rfl⟩ : ∃ d',d = d' + 1 := ⟨d - 1,by omega⟩
  refine ar (c := s.cells) (S4.get d1 (by simp)) (by simp [aU.cells]) rfl rfl (subI (by omega) ?_)
  have e : ((d' + 1 : Nat) : Int) + 1 - 1 = (d' : Int) + 1 := by omega
  rw [e]
  refine hrec d' rfl (ST.sli hl (by simp)) hmv oM fun H5 v S5 hv => ?_
  have hr : restR ls s heads (d' + 1) (dawnL ls s k heads M) = turnR ls s heads d' M' := (turnR_same d' _ _ hsame).symm
  rw [hr] at ht
  cases hR : turnR ls s heads d' M' with
  | none =>
   rw [hR] at hv ht
   have hv : v = .slice none 0 0 := hv
   subst hv
   refine neqNilZ (e := 3) (by kernel_rfl) (by kernel_rfl) (aP.2 (ck (by omega) ⟨k + 1,by dsimp only; omega,.inl ⟨by omega,ST.trans S5,S5.get (S4.get d1 (by simp)) (by simp),ht,ds,r0,r1,r3,r4,r7,r16,rfl⟩⟩))
  | some l =>
   rw [hR] at hv ht
   have hlen := turnR_len _ _ _ hR
   obtain ⟨ob,O⟩ := hv
   obtain ⟨_,_,hO | ⟨i,c,sz,hi,rfl,_,_⟩⟩ := id O
   ·cases hO.2.2
   refine neqNilZ (e := 3) (by kernel_rfl) (by kernel_rfl) (bm.2 ⟨⟨by decide,by decide,rfl⟩,aK (l := [ab (k : Nat)]) rfl rfl rfl (by decide) (bu (du fun H6 p6 e6 S6 c6 l6 => ?_))⟩)
   refine ⟨⟨rfl,by decide,by decide,by decide⟩,appF c6 rfl (by omega) (S6.sli (bS O) (by simp)) fun O7 => ao (by simp [unk]) (hK _ _ (((ST.trans S5).trans S6).trans ag.refl.app) ?_)⟩
   rw [ht]
   refine ⟨H6.length,?_⟩
   have : l.length + 1 = 1 + l.length := by omega
   show OwnX _ 1 (((k : Int) :: l).map ab) ((k : Int) :: l).length _ _
   rw [List.length_cons,this]
   exact O7
theorem good52 (hJ : Closed prog main J) {ls : List Pas} {lv : Value} {s : aU} {heads : Int} (L : LsOk ls) (f : cL s) (hh : 0 ≤ heads ∧ heads ≤ 40) : ∀ (d : Nat) {H : List af} {mv : Value} {M : List Wd} {K : Value → List af → Prop},d ≤ 100 → SliE H lv 6 Pas.cells ls → MapW H mv M → (∀ w ∈ M,WdOk ls w) →
  (∀ H' v,ag [] H H' → TurnV H' v (turnR ls s heads d M) → K v H') → Good prog J 52 [mv,lv,.agg ⟨s.cells⟩,ab heads,ab ((d : Int) + 1)] H K
 | 0,H,mv,M,K,hd,hl,hm,o,hK => turn_step hJ L f hh 0 (fun d' e => by omega) hd hl hm o hK
 | d + 1,H,mv,M,K,hd,hl,hm,o,hK => turn_step hJ L f hh (d + 1) (fun d' e => by
  cases e
  intro H mv M K hl hm o hK
  exact good52 hJ L f hh d (by omega) hl hm o hK) hd hl hm o hK
end
end Go.Proofs.YtlhanfcgdfjhjaaGreatDoor
namespace Go.Proofs.YtlhanfcgdfjhjaaGreatDoor
open Go.Conc
open Go.ConcN (sumTo upd sumTo_upd upd_ne upd_same)
def Ends (P : Program) (Post : Value → World → Prop) (m : Machine) (t : Trace) : Prop :=
 ∃ N last o w' t',runNT P (N + 1) m t = (.ended o w',t') ∧ runN P N m = .next last ∧ step P last = .ended o w' ∧ Go.Conc.Good P Post last o w' t'
structure Base (W0 w : World) : Prop where
 tape : w.tape = W0.tape
 os : w.os = W0.os
 output : w.output = W0.output
 size : W0.heap.size ≤ w.heap.size
def J1 (P : Program) (W0 : World) (Post : Value → World → Prop) (g : Goroutine) (w : World) (ft : aJ) : Prop :=
 ∀ (gs : Array Goroutine) (w₁ : World) (sl : Option (Nat × Nat)) (t : Trace) (q : Nat → Nat),(∀ b,ft.rd b → b < w₁.heap.size) → (∀ b,ft.wr b → ft.rd b) → bF ft w w₁ → Base W0 w₁ → gs[0]? = some g → Leavers P t gs q → Past (fun _ => False) w₁.heap.size t →
  Ends P Post (crowd gs w₁ sl) t
section
variable {P : Program} {W0 : World} {Post : Value → World → Prop} {g : Goroutine} {w w₁ : World} {ft : aJ}
theorem Ends.next {m m' : Machine} {t : Trace} {ops : Array MemOp} (hs : stepT P m = (.next m',ops)) (h : Ends P Post m' (t ++ ops)) : Ends P Post m t := by
 obtain ⟨n,last,o,w,t',h1,h2,h3,h4⟩ := h
 exact ⟨n + 1,last,o,w,t',by rw [runNT_succ_next hs]; exact h1,by rw [runN_succ_next hs]; exact h2,h3,h4⟩
theorem evL_of {e : Event} {B : Nat} (he : bp ft e) (hb : ∀ b,ft.rd b → b < B) : EvL (fun _ => False) B e := by
 obtain ⟨loc,wr,sync⟩ := e
 unfold bp at he
 refine ⟨fun x _ hs => hs.elim,?_,?_,?_⟩
 ·intro hl
  simp only at hl
  subst hl
  exact he
 ·intro hl
  simp only at hl
  subst hl
  exact he
 ·cases loc with
  | cell a => exact hb _ he.2.1
  | obj r =>
   have hs : sync = false := he.1
   subst hs
   have := hb _ he.2.1
   cases wr <;> exact this
  | mark m =>
   cases m <;> first | exact he.elim | trivial
  | output => trivial
  | goroutines => trivial
theorem cE {i : Nat} {fn : FuncId} {pos : String} {es : Array Event} {op : MemOp} (h : op ∈ MemOp.ofEvents i fn pos es) : op.g = i := by
 rw [ofEvents_eq] at h
 obtain ⟨e,he,rfl⟩ := Array.mem_map.1 h
 rfl
theorem dF (ft : aJ) (w : World) (d : Nat) : bF ft w (w.at d) := ⟨fun _ _ => rfl,Nat.le_refl _,rfl,rfl,rfl⟩
end
end Go.Proofs.YtlhanfcgdfjhjaaGreatDoor
namespace Go.Proofs.YtlhanfcgdfjhjaaGreatDoor
open Go.Conc
def bC {α : Type} (P : Program) (s : Go.Sem α) (w : World) (v : α) (w' : World) (es : List Event) : Prop := ∀ acc : Array Event,s.runT P w acc = (.ok v w',acc ++ es.toArray)
section
variable {α β : Type} {P : Program} {w w1 w2 w' : World}
theorem bC.of {s : Go.Sem α} {v : α} {es : List Event} (h1 : s.run P w = .ok v w') (h2 : ∀ acc,s.events P w acc = acc ++ es.toArray) : bC P s w v w' es := fun acc => by
 rw [Sem.runT_eq,h1,h2]
theorem bC.pure {a : α} : bC P (Pure.pure a) w a w [] := fun acc => by
 show (Result.ok a w,acc) = _
 simp
theorem bC.bind {s : Go.Sem α} {f : α → Go.Sem β} {v : α} {u : β} {e1 e2 : List Event} (h : bC P s w v w1 e1) (h2 : bC P (f v) w1 u w2 e2) : bC P (s >>= f) w u w2 (e1 ++ e2) := by
 intro acc
 show (s.bind f).runT P w acc = _
 rw [Sem.runT_bind',h acc]
 show (f v).runT P w1 (acc ++ e1.toArray) = _
 rw [h2]
 simp
theorem bC.program : bC P Go.program w P w [] := fun acc => by
 show (Result.ok P w,acc) = _
 simp
theorem bC.mark {m : Mark} : bC P (Go.mark m) w () w [⟨.mark m,false,true⟩] := fun acc => by
 show (Result.ok () w,acc.push _) = _
 simp
structure IsExt (P : Program) (g : FuncId) (fn : Func) (e : Array Value → Go.Sem Value) : Prop where
 here : P.funcs[g]? = some fn
 name : (fn.name == "runtime.NumGoroutine") = false
 body : fn.body.isNone = true
 next : Extern.findNext fn = none
 find : Extern.find fn = some e
variable {main : Bool} {J : JT} {g : FuncId} {cargs : List Value} {b : FB} {a : Act} {ops : Array Oper} {i : Nat} {rest : List Nat} {o : Oper} {k : List Item} {cs : List Frame} {w' : World} {fn : Func}
theorem IsExt.not {e : Array Value → Go.Sem Value} (E : IsExt P g fn e) : g < P.funcs.size ∧ cB P g = false := by
 refine ⟨(Array.getElem?_eq_some_iff.1 E.here).1,?_⟩
 have hb : fn.body.isSome = false := by
  have := E.body
  cases h : fn.body with
  | none => rfl
  | some c => rw [h] at this; cases this
 unfold cB
 rw [E.here]
 simp [hb]
theorem aN.tell {ρ : Env} {h : List af} {FC : Frm} {ft : aJ} (H : aN ρ h FC w ft) {p x y : Nat} (hp : h[p]? = some (.group x)) (hone : ∀ (q z : Nat),h[q]? = some (.group z) → q = p) : aN ρ (h.set p (.group y)) FC w { ft with tag := y + 32 * ρ.blk p } := by
 have get : ∀ {i : Nat} {o : af},(h.set p (.group y))[i]? = some o → o.live = true → h[i]? = some o := by
  intro i o hi hl
  rcases bI hi with ⟨rfl,rfl,_⟩ | ⟨_,hi⟩
  ·cases hl
  ·exact hi
 have wl : ∀ {o : af},o.wrt = true → o.live = true := fun {o} hw => by cases o <;> first | rfl | cases hw
 refine ⟨fun i o hi => ?_,fun i j o o' hi hj l1 l2 lw e => H.inj i j o o' (get hi l1) (get hj l2) l1 l2 lw e,fun i o hi hl => H.rd i o (get hi hl) hl,fun i o hi hw => H.wr i o (get hi (wl hw)) hw,H.lt,H.sub,fun b o hb => ?_,H.keptW,fun i z hi => ?_⟩
 ·rw [List.length_set]
  rcases bI hi with ⟨rfl,rfl,_⟩ | ⟨_,hi⟩
  ·trivial
  ·exact H.obj i o hi
 ·obtain ⟨a1,a2,a3⟩ := H.kept b o hb
  exact ⟨a1,a2,fun a oa ha hw => a3 a oa (get ha (wl hw)) hw⟩
 ·rcases bI hi with ⟨rfl,e,_⟩ | ⟨hne,hi⟩
  ·cases e
   rfl
  ·exact absurd (hone i z hi) hne
end
def putAt {X : Type} (f : Nat → X) (i : Nat) (x : X) : Nat → X := fun j => if j = i then x else f j
theorem dq {X : Type} (f : Nat → X) (i : Nat) (x : X) : putAt f i x i = x := by simp [putAt]
theorem dP {X : Type} (f : Nat → X) {i j : Nat} (x : X) (h : j ≠ i) : putAt f i x j = f j := by simp [putAt,h]
def Less {X : Type} (r : X → X → Prop) (n : Nat) (f' f : Nat → X) : Prop := ∃ i,i < n ∧ r (f' i) (f i) ∧ ∀ j,j ≠ i → f' j = f j
theorem less_acc {X : Type} (r : X → X → Prop) : ∀ (n : Nat) (f : Nat → X),(∀ i,i < n → Acc r (f i)) → Acc (Less r n) f
 | 0,f,_ => ⟨f,fun _ h => by obtain ⟨i,hi,_⟩ := h; omega⟩
 | n + 1,f,h => by
  have key : ∀ a,Acc r a → ∀ g : Nat → X,Acc (Less r n) g → Acc (Less r (n + 1)) (putAt g n a) := by
   intro a ha
   induction ha with
   | intro a _ iha =>
    intro g hg
    induction hg with
    | intro g hgs ihg =>
     refine ⟨_,fun y hy => ?_⟩
     obtain ⟨i,hi,hr,ho⟩ := hy
     by_cases hin : i = n
     ·subst hin
      rw [dq] at hr
      have : y = putAt g i (y i) := by
       funext j
       by_cases hj : j = i
       ·subst hj; rw [dq]
       ·rw [dP _ _ hj,ho j hj,dP _ _ hj]
      rw [this]
      exact iha (y i) hr g ⟨g,hgs⟩
     ·rw [dP _ _ hin] at hr
      have : y = putAt (putAt g i (y i)) n a := by
       funext j
       by_cases hj : j = n
       ·subst hj
        rw [dq,ho j (fun e => hin e.symm),dq]
       ·rw [dP _ _ hj]
        by_cases hji : j = i
        ·subst hji; rw [dq]
        ·rw [dP _ _ hji,ho j hji,dP _ _ hj]
      rw [this]
      refine ihg _ ⟨i,by omega,by rw [dq]; exact hr,fun j hj => dP _ _ hj⟩
  have e : f = putAt f n (f n) := by
   funext j
   by_cases hj : j = n
   ·subst hj; rw [dq]
   ·rw [dP _ _ hj]
  rw [e]
  exact key (f n) (h n (by omega)) f (less_acc r n f fun i hi => h i (by omega))
inductive Toward (P : Program) (Stop : JT) : Goroutine → World → aJ → Prop where
 | stop {g : Goroutine} {w : World} {ft : aJ} : g.status = .running → (∀ w₁,bF ft w w₁ → Stop g w₁ ft) → Toward P Stop g w ft
 | step {g : Goroutine} {w : World} {ft : aJ} : g.status = .running → (∀ w₁,bF ft w w₁ → ∃ g' w' es,stepG P false g w₁ = .go g' w' es ∧ g'.status = .running ∧ GuarW ft w₁ w' es) →
  (∀ w₁ g' w' es,bF ft w w₁ → stepG P false g w₁ = .go g' w' es → Toward P Stop g' w' (ft.ext w₁.heap.size w'.heap.size)) → Toward P Stop g w ft
theorem Toward.running {P : Program} {Stop : JT} {g : Goroutine} {w : World} {ft : aJ} (h : Toward P Stop g w ft) : g.status = .running := by
 cases h with
 | stop h _ => exact h
 | step h _ _ => exact h
theorem Toward.rely {P : Program} {Stop : JT} {g : Goroutine} {w w₁ : World} {ft : aJ} (h : Toward P Stop g w ft) (hr : bF ft w w₁) : Toward P Stop g w₁ ft := by
 cases h with
 | stop h1 h2 => exact .stop h1 fun w₂ h₂ => h2 w₂ (hr.trans h₂)
 | step h1 h2 h3 => exact .step h1 (fun w₂ h₂ => h2 w₂ (hr.trans h₂)) fun w₂ g' w' es h₂ hs => h3 w₂ g' w' es (hr.trans h₂) hs
theorem Toward.closed (P : Program) (Stop : JT) : Closed P false (Toward P Stop) where
 rely := fun h hr => h.rely hr
 step := fun hrun h => .step hrun (fun w₁ h₁ => by
  obtain ⟨g',w',es,a,b,c,_⟩ := h w₁ h₁
  exact ⟨g',w',es,a,b,c⟩) fun w₁ g' w' es h₁ hs => by
  obtain ⟨g2,w2,es2,a,b,c,d⟩ := h w₁ h₁
  rw [hs] at a
  cases a
  exact d
inductive WS where
 | quit (n : Nat)
 | way (w : World) (ft : aJ)
 | park
def locBlk : Loc → Option Nat
 | .cell a => some a.block
 | .obj r => some r
 | _ => none
def db (t : Trace) (x : Nat) (ft : aJ) : Prop :=
 ∀ i a,touchAt t i = some a → a.loc.isMemory = true → Knows t x i ∨ ∀ b,locBlk a.loc = some b → ¬ ft.wr b ∧ (a.write = true → ¬ ft.rd b)
theorem evOk_touch {ft : aJ} {e : Event} {a : Touch} (he : bp ft e) (ha : (MemAct.ofEvent e).touch? = some a) : ∃ b,locBlk a.loc = some b ∧ ft.rd b ∧ (a.write = true → ft.wr b) := by
 obtain ⟨loc,wr,sync⟩ := e
 unfold bp at he
 cases loc with
 | cell x =>
  simp only at he
  simp only [MemAct.ofEvent,MemAct.touch?,Option.some.injEq] at ha
  subst ha
  exact ⟨_,rfl,he.2.1,he.2.2⟩
 | obj r =>
  obtain ⟨rfl,h1,h2⟩ := he
  cases wr <;> (simp only [MemAct.ofEvent,MemAct.touch?,Option.some.injEq] at ha; subst ha; exact ⟨_,rfl,h1,h2⟩)
 | mark m => cases m <;> first | exact he.elim | (simp [MemAct.ofEvent,MemAct.touch?] at ha)
 | output => exact he.elim
 | goroutines => exact he.elim
theorem touch_low {x : MemAct} {a : Touch} {n b : Nat} (hl : x.low n) (ha : x.touch? = some a) (hb : locBlk a.loc = some b) : b < n := by
 cases x with
 | access e =>
  obtain ⟨loc,wr,sy⟩ := e
  simp only [MemAct.touch?,Option.some.injEq] at ha
  subst ha
  cases loc with
  | cell x => injection hb with hb; subst hb; exact hl
  | obj x => injection hb with hb; subst hb; exact hl
  | _ => cases hb
 | mark mk =>
  cases mk with
  | read x => injection ha with ha; subst ha; injection hb with hb; subst hb; exact hl
  | write x => injection ha with ha; subst ha; injection hb with hb; subst hb; exact hl
  | _ => cases ha
 | _ => cases ha
theorem bE {t u : Trace} {i : Nat} {a : Touch} (h : touchAt (t ++ u) i = some a) : (i < t.size ∧ touchAt t i = some a) ∨ ∃ op ∈ u,(t ++ u)[i]? = some op ∧ op.act.touch? = some a := by
 obtain ⟨x,hx,hxa⟩ := touch_of h
 rcases getElem?_append_cases hx with ⟨hi,hx'⟩ | ⟨_,hxu⟩
 ·exact .inl ⟨hi,by rw [touchAt_of hx']; exact hxa⟩
 ·exact .inr ⟨x,hxu,hx,hxa⟩
theorem conf_blk {said : Bool} {a b : Touch} (h : a.conflicts said b) : locBlk a.loc = locBlk b.loc ∧ a.loc.isMemory = true ∧ (a.write = true ∨ b.write = true) := ⟨by rw [h.1],h.2.1,h.2.2.1⟩
section
variable {t u : Trace} {x y : Nat} {ft fy : aJ} {fn : FuncId} {pos : String} {es : Array Event}
theorem db.noRace {said : Bool} (hc : ¬ Race said t) (hk : db t x ft) (he : ∀ e ∈ es,bp ft e) : ¬ Race said (t ++ MemOp.ofEvents x fn pos es) := by
 refine noRace_append hc (fun op hop => cE hop) fun i a ha op hop b hb hcf => ?_
 obtain ⟨e,hee,rfl⟩ := Go.Conc.mem_ofEvents hop
 obtain ⟨bl,h1,h2,h3⟩ := evOk_touch (he e hee) hb
 obtain ⟨c1,c2,c3⟩ := conf_blk hcf
 rcases hk i a ha c2 with h | h
 ·exact h
 ·obtain ⟨n1,n2⟩ := h bl (by rw [c1]; exact h1)
  rcases c3 with c | c
  ·exact absurd h2 (n2 c)
  ·exact absurd (h3 c) n1
theorem db.mute (hk : db t y fy) (hu : ∀ op ∈ u,op.act.touch? = none) : db (t ++ u) y fy := by
 intro i a ha hm
 rcases bE ha with ⟨hi,h⟩ | ⟨op,hop,_,h⟩
 ·exact (hk i a h hm).imp (·.app u) id
 ·rw [hu op hop] at h; cases h
theorem db.other (hk : db t y fy) (he : ∀ e ∈ es,bp ft e) (d1 : ∀ b,ft.wr b → ¬ fy.rd b) (d2 : ∀ b,fy.wr b → ¬ ft.rd b) : db (t ++ MemOp.ofEvents x fn pos es) y fy := by
 intro i a ha hm
 rcases bE ha with ⟨hi,h⟩ | ⟨op,hop,_,h⟩
 ·exact (hk i a h hm).imp (·.app _) id
 ·obtain ⟨e,hee,rfl⟩ := Go.Conc.mem_ofEvents hop
  obtain ⟨bl,h1,h2,h3⟩ := evOk_touch (he e hee) h
  refine .inr fun b hb => ?_
  rw [h1] at hb
  cases hb
  exact ⟨fun hw => d2 _ hw h2,fun hw => d1 _ (h3 hw)⟩
theorem db.own {n m : Nat} (hk : db t x ft) (_he : ∀ e ∈ es,bp ft e) (hs : ∀ op ∈ t,op.act.low n) : db (t ++ MemOp.ofEvents x fn pos es) x (ft.ext n m) := by
 intro i a ha hm
 rcases bE ha with ⟨hi,h⟩ | ⟨op,hop,hg,h⟩
 ·rcases hk i a h hm with hh | hh
  ·exact .inl (hh.app _)
  ·refine .inr fun b hb => ?_
   obtain ⟨n1,n2⟩ := hh b hb
   have hlow : b < n := by
    obtain ⟨z,hz,hza⟩ := touch_of h
    exact touch_low (hs z (Array.mem_of_getElem? hz)) hza hb
   exact ⟨fun hw => hw.elim n1 (fun e => by omega),fun hw hr => hr.elim (n2 hw) fun e => by omega⟩
 ·have := knows_own hg
  rw [cE hop] at this
  exact .inl this
theorem db.less {f' : aJ} (hk : db t x ft) (h1 : ∀ b,f'.rd b → ft.rd b) (h2 : ∀ b,f'.wr b → ft.wr b) : db t x f' := fun i a ha hm =>
 (hk i a ha hm).imp id fun hh b hb => ⟨fun hw => (hh b hb).1 (h2 b hw),fun hw hr => (hh b hb).2 hw (h1 b hr)⟩
theorem low_events {n : Nat} (he : ∀ e ∈ es,bp ft e) (hb : ∀ b,ft.rd b → b < n) : ∀ op ∈ MemOp.ofEvents x fn pos es,op.act.low n := fun op hop => by
 obtain ⟨e,hee,rfl⟩ := Go.Conc.mem_ofEvents hop
 exact (evL_of (he e hee) hb).2.2.2
end
structure Crew where
 ch : Nat → Option (Nat × Array Value × Bool)
 c : Nat
 pend : List Nat
 phi : Nat → Value → Prop
section
variable {P : Program} {W0 : World} {Post : Value → World → Prop} {T : Crew} {g : Goroutine} {w w₁ w' : World} {ft : aJ} {gs : Array Goroutine} {t : Trace} {st : Nat → WS} {ix : Nat → Nat} {i : Nat} {sl : Option (Nat × Nat)}
theorem moved_get {f : Goroutine → Goroutine} {g' : Goroutine} {j : Nat} {y : Goroutine} (hne : i ≠ j) (h : ((gs.map f).setIfInBounds i g')[j]? = some y) : ∃ z,gs[j]? = some z ∧ y = f z := by
 rw [Array.getElem?_setIfInBounds_ne hne,Array.getElem?_map] at h
 obtain ⟨z,hz,e⟩ := Option.map_eq_some_iff.1 h
 exact ⟨z,hz,e.symm⟩
theorem cO {f : Goroutine → Goroutine} {g' : Goroutine} {j : Nat} {z : Goroutine} (hne : i ≠ j) (h : gs[j]? = some z) (e : f z = z) : ((gs.map f).setIfInBounds i g')[j]? = some z := by
 rw [Array.getElem?_setIfInBounds_ne hne,Array.getElem?_map,h]
 simp [e]
theorem bP {f : Goroutine → Goroutine} {g g' : Goroutine} (h : gs[i]? = some g) : ((gs.map f).setIfInBounds i g')[i]? = some g' := by
 have hlt := (Array.getElem?_eq_some_iff.1 h).1
 rw [Array.getElem?_setIfInBounds_self_of_lt (by simpa using hlt)]
theorem deaf_evs {fi : aJ} {fn : FuncId} {pos : String} {es : Array Event} {n : Nat} (he : ∀ e ∈ es,bp fi e) (hb : ∀ b,fi.rd b → b < n) (j : Nat) : Deaf (t ++ MemOp.ofEvents i fn pos es) j = Deaf t j := by
 by_cases h : i = j
 ·subst h
  rw [Deaf_own]
  exact deafBehind_still (fun e hm => ⟨(evL_of (he e hm) hb).2.1,(evL_of (he e hm) hb).2.2.1⟩) _
 ·rw [Deaf_other t h _ (fun op hop => cE hop)]
theorem g_app {u : Trace} {j : Nat} {y : Nat} (h : t.g? j = some y) : (t ++ u).g? j = some y := by
 unfold Trace.g? at h ⊢
 obtain ⟨z,hz,e⟩ := Option.map_eq_some_iff.1 h
 rw [getElem?_append_old (lt_size_of_getElem? hz),hz]
 simp [e]
end
def Crew.less (T : Crew) (k : Nat) : Crew := { T with pend := T.pend.erase k }
end Go.Proofs.YtlhanfcgdfjhjaaGreatDoor
namespace Go.Proofs.YtlhanfcgdfjhjaaGreatDoor
open Go.Conc
open Go.ConcN (sumTo upd sumTo_upd upd_ne upd_same)
open Go.ConcR (Bk)
def InBlk (S : Nat → Prop) : Loc → Prop := fun l => ∃ b,locBlk l = some b ∧ S b
structure PastS (S : Nat → Prop) (ft : aJ) (B : Nat) (t : Trace) : Prop where
 past : Past (InBlk S) B t
 shun : ∀ b,S b → ¬ ft.rd b ∧ b < B
 norel : ∀ a : Addr,ft.rd a.block → NoRelease a t
theorem evS_of {S : Nat → Prop} {ft : aJ} {e : Event} {B : Nat} (he : bp ft e) (hs : ∀ b,S b → ¬ ft.rd b) (hb : ∀ b,ft.rd b → b < B) : EvL (InBlk S) B e := by
 obtain ⟨_,h2,h3,h4⟩ := evL_of he hb
 refine ⟨fun x hx hsx => ?_,h2,h3,h4⟩
 obtain ⟨b,e1,e2,_⟩ := evOk_touch he hx
 obtain ⟨b',e1',hb'⟩ := hsx
 rw [e1] at e1'
 cases e1'
 exact absurd e2 (hs b hb')
theorem ok_norel {ft : aJ} {es : Array Event} (he : ∀ e ∈ es,bp ft e) {g : Nat} {fn : FuncId} {pos : String} (a : Addr) : ∀ op ∈ MemOp.ofEvents g fn pos es,op.act ≠ .mark (.release a) := by
 intro op hop e
 obtain ⟨x,hx,rfl⟩ := Go.Conc.mem_ofEvents hop
 have := he x hx
 obtain ⟨loc,wr,sy⟩ := x
 cases loc with
 | cell y => cases e
 | obj y =>
  obtain ⟨rfl,_⟩ := this
  cases wr <;> cases e
 | mark m => cases m <;> first | exact this.elim | cases e
 | output => exact this.elim
 | goroutines => exact this.elim
theorem bk_norel {Wg : Nat} {es : Array Event} (he : ∀ e ∈ es,Bk Wg e) {g : Nat} {fn : FuncId} {pos : String} (a : Addr) : ∀ op ∈ MemOp.ofEvents g fn pos es,op.act ≠ .mark (.release a) := by
 intro op hop e
 obtain ⟨x,hx,rfl⟩ := Go.Conc.mem_ofEvents hop
 rcases he x hx with h1 | h1 | ⟨y,wr,rfl,_⟩
 ·simp only [Go.ConcR.ofEvent_loc_mark h1] at e
  cases e
 ·simp only [Go.ConcR.ofEvent_loc_mark h1] at e
  cases e
 ·cases e
theorem mute_norel {es : Array Event} (he : ∀ e ∈ es,Event.mute e = true) {g : Nat} {fn : FuncId} {pos : String} (a : Addr) : ∀ op ∈ MemOp.ofEvents g fn pos es,op.act ≠ .mark (.release a) :=
 bk_norel (Wg := 0) (fun e h => Go.ConcR.bk_of_mute (he e h)) a
theorem norel_fresh {t : Trace} {B : Nat} (hs : ∀ op ∈ t,op.act.low B) {a : Addr} (ha : B ≤ a.block) : NoRelease a t := by
 intro i e
 obtain ⟨op,ho,hoa⟩ := Option.map_eq_some_iff.1 e
 have := hs op (Array.mem_of_getElem? ho)
 rw [hoa] at this
 have : a.block < B := this
 omega
section
variable {S : Nat → Prop} {ft : aJ} {B B' : Nat} {t : Trace}
theorem PastS.own (h : PastS S ft B t) {fn : FuncId} {pos : String} {es : Array Event} (hes : ∀ e ∈ es,bp ft e) (hb : ∀ b,ft.rd b → b < B) (hB : B ≤ B') : PastS S (ft.ext B B') B' (t ++ MemOp.ofEvents 0 fn pos es) where
 past := (h.past.mono hB).own fun e he => evS_of (hes e he) (fun b hb => (h.shun b hb).1) fun b hr => Nat.lt_of_lt_of_le (hb b hr) hB
 shun := fun b hS => ⟨fun hr => hr.elim (h.shun b hS).1 fun e => by have := (h.shun b hS).2; omega,Nat.lt_of_lt_of_le (h.shun b hS).2 hB⟩
 norel := fun a ha => by
  refine NoRelease.app ?_ (ok_norel hes a)
  rcases ha with ha | ha
  ·exact h.norel a ha
  ·exact norel_fresh h.past.seen ha.1
theorem PastS.mute (h : PastS S ft B t) {g : Nat} (hg : g ≠ 0) {fn : FuncId} {pos : String} {es : Array Event} (hm : ∀ e ∈ es,Event.mute e = true) : PastS S ft B (t ++ MemOp.ofEvents g fn pos es) :=
 ⟨h.past.mute hg hm,h.shun,fun a ha => (h.norel a ha).app (mute_norel hm a)⟩
end
def J2 (P : Program) (W0 : World) (Post : Value → World → Prop) (g : Goroutine) (w : World) (ft : aJ) : Prop :=
 ∀ (gs : Array Goroutine) (w₁ : World) (sl : Option (Nat × Nat)) (t : Trace) (q : Nat → Nat) (S : Nat → Prop),(∀ b,ft.rd b → b < w₁.heap.size) → (∀ b,ft.wr b → ft.rd b) → bF ft w w₁ → Base W0 w₁ → gs[0]? = some g → Leavers P t gs q → PastS S ft w₁.heap.size t →
  Ends P Post (crowd gs w₁ sl) t
section
variable {P : Program} {W0 : World} {Post : Value → World → Prop} {g : Goroutine} {w w₁ : World} {ft : aJ}
theorem J2.both (hrun : g.status = .running)
  (h : ∀ w₁,bF ft w w₁ → Base W0 w₁ → (∃ g' w' es,stepG P true g w₁ = .go g' w' es ∧ g'.status = .running ∧ GuarW ft w₁ w' es ∧ J2 P W0 Post g' w' (ft.ext w₁.heap.size w'.heap.size)) ∨
   ∃ v es,stepG P true g w₁ = .ended (.done v) w₁ es ∧ (∀ e ∈ es,bp ft e) ∧ Post v w₁) : J2 P W0 Post g w ft := by
 intro gs w₁ sl t q S hbd hsub hrel hbase h0 hL hP
 generalize hM : sumTo gs.size q = M
 induction M using Nat.strongRecOn generalizing gs w₁ sl t q with
 | ind M ih =>
  have haw : ∀ g ∈ gs,awake g := by
   intro x hx
   obtain ⟨i,hi,rfl⟩ := Array.mem_iff_getElem.1 hx
   rcases Nat.eq_zero_or_pos i with rfl | hpos
   ·have : gs[0] = g := by simpa [Array.getElem?_eq_getElem hi] using h0
    rw [this]; exact awake_of (.inl hrun)
   ·exact awake_of ((hL.old i _ hpos (Array.getElem?_eq_getElem hi)).status.elim .inl fun x => .inr (.inr x))
  obtain ⟨i,x,d,sl',hi,hg,hst⟩ := crowd_pick (P := P) (w := w₁) (sl := sl) haw ⟨0,g,h0,hrun⟩
  rcases Nat.eq_zero_or_pos i with rfl | hpos
  ·obtain rfl : x = g := by rw [h0] at hi; exact (Option.some.inj hi).symm
   rcases h (w₁.at d) (hrel.trans (dF ft w₁ d)) ⟨hbase.tape,hbase.os,hbase.output,hbase.size⟩ with ⟨g',w',es,hgo,hrun',hgu,hJ⟩ | ⟨v,es,hend,hes,hpost⟩
   ·have hrunT := runT_crowd_go (P := P) (sl := sl') (i := 0) hi (show stepG P (0 == 0) x (w₁.at d) = _ from hgo)
    have hsz : ((gs.map (woken P x g' w')).setIfInBounds 0 g').size = gs.size := by simp
    have hlt : 0 < gs.size := (Array.getElem?_eq_some_iff.1 h0).1
    have hw' : w₁.heap.size ≤ w'.heap.size := hgu.size
    refine Ends.next (hst.trans hrunT) ?_
    refine hJ _ w' sl' _ q S (fun b hb => ?_) (fun b hb => ?_) (bF.refl _ _) ⟨hgu.tape.trans hbase.tape,hgu.os.trans hbase.os,hgu.output.trans hbase.output,Nat.le_trans hbase.size hgu.size⟩ (by simp [hlt]) ⟨fun j y hj hy => ?_,fun j hj => ?_⟩ ?_
    ·rcases hb with hb | hb
     ·exact Nat.lt_of_lt_of_le (hbd b hb) hw'
     ·exact hb.2
    ·rcases hb with hb | hb
     ·exact .inl (hsub b hb)
     ·exact .inr hb
    ·have hne : 0 ≠ j := by omega
     rw [Array.getElem?_setIfInBounds_ne hne,Array.getElem?_map] at hy
     obtain ⟨z,hz,rfl⟩ := Option.map_eq_some_iff.1 hy
     have hq := hL.old j z hj hz
     rw [woken_quitsD hq,Deaf_other t (by omega) _ (fun op hop => cE hop)]
     exact hq
    ·rw [Deaf_other t (g' := 0) (by simp at hj; omega) _ (fun op hop => cE hop)]
     exact hL.above j (by simpa using hj)
    ·exact hP.own hgu.evs hbd hw'
   ·have hrunT := runT_many_ended (P := P) (sl := sl') (i := 0) hi (show stepG P (0 == 0) x (w₁.at d) = _ from hend)
    have hP' := (hP.own (fn := x.frame.fn) (pos := x.frame.place) hes hbd (Nat.le_refl _)).past
    refine ⟨0,crowd gs w₁ sl,.done v,w₁.at d,_,by simp only [runNT,hst.trans hrunT],rfl,by simp [step,hst.trans hrunT],v,rfl,hpost,hP'.clean,hP'.over,⟨fun y hy => ?_,rfl⟩,fun j y hy hj => ?_⟩
    ·obtain ⟨j,hj⟩ := List.mem_iff_getElem?.1 hy
     rw [List.getElem?_drop] at hj
     exact ⟨_,(hL.old (1 + j) y (by omega) (by simpa [crowd] using hj)).leaves⟩
    ·have hq := hL.old j y (by omega) hy
     refine ⟨q j,?_⟩
     have e : (t ++ MemOp.ofEvents 0 x.frame.fn x.frame.place es).deaf j (t ++ MemOp.ofEvents 0 x.frame.fn x.frame.place es).size = Deaf t j :=
      Deaf_other t (g := j) (g' := 0) (by omega) _ (fun op hop => cE hop)
     rw [e]
     exact hq.hears _
  ·have hq := hL.old i x hpos hi
   have hi0 : (i == 0) = false := by simp; omega
   have hlt : i < gs.size := (Array.getElem?_eq_some_iff.1 hi).1
   cases hqi : q i with
   | zero => rw [hqi] at hq; rw [hq.1] at hg; cases hg
   | succ k =>
    rw [hqi] at hq
    rcases hq with ⟨hf,_⟩ | ⟨_,g',es,hm,hstp,hq'⟩
    ·rw [hf] at hg; cases hg
    have hrunT := runT_crowd_go (P := P) (sl := sl') (i := i) hi (by rw [hi0]; exact hstp (w₁.at d))
    have hsz : ((gs.map (woken P x g' (w₁.at d))).setIfInBounds i g').size = gs.size := by simp
    have hsum : sumTo gs.size (upd q i k) + (k + 1) = sumTo gs.size q + k := by
     have := sumTo_upd q k id hlt
     simpa [hqi] using this
    refine Ends.next (hst.trans hrunT) (ih (sumTo gs.size (upd q i k)) (by omega) _ (w₁.at d) sl' _ (upd q i k) hbd (hrel.trans (dF ft w₁ d)) ⟨hbase.tape,hbase.os,hbase.output,hbase.size⟩ ?_ ⟨fun j y hj hy => ?_,fun j hj => ?_⟩ (hP.mute (by omega) hm) (by rw [hsz]))
    ·have hne : i ≠ 0 := by omega
     rw [Array.getElem?_setIfInBounds_ne hne,Array.getElem?_map,h0]
     simp [woken_run hrun]
    ·by_cases hji : i = j
     ·subst hji
      rw [Array.getElem?_setIfInBounds_self_of_lt (by simpa using hlt)] at hy
      obtain rfl := Option.some.inj hy
      rw [upd_same,Deaf_own]
      exact hq'
     ·rw [Array.getElem?_setIfInBounds_ne hji,Array.getElem?_map] at hy
      obtain ⟨z,hz,rfl⟩ := Option.map_eq_some_iff.1 hy
      have hqj := hL.old j z hj hz
      rw [woken_quitsD hqj,upd_ne q k (Ne.symm hji),Deaf_other t hji _ (fun op hop => cE hop)]
      exact hqj
    ·rw [Deaf_other t (g' := i) (by simp at hj; omega) _ (fun op hop => cE hop)]
     exact hL.above j (by simpa using hj)
theorem J2.closed (P : Program) (W0 : World) (Post : Value → World → Prop) : Closed P true (J2 P W0 Post) where
 rely := fun h hr gs w₂ sl t q S hbd hsub hrel hbase h0 hL hP => h gs w₂ sl t q S hbd hsub (hr.trans hrel) hbase h0 hL hP
 step := fun hrun h => J2.both hrun fun w₁ h₁ _ => by
  obtain ⟨g',w',es,a,b,c,d⟩ := h w₁ h₁
  exact .inl ⟨g',w',es,a,b,c,d⟩
theorem run_of_J2 {g : Goroutine} {w : World} {ft : aJ} (h : J2 P W0 Post g w ft) (hb : ∀ b,ft.rd b → b < w.heap.size) (hs : ∀ b,ft.wr b → ft.rd b) (hw : W0 = w) : Ends P Post (solo g w) #[] := by
 rw [solo_eq_crowd]
 have hp := past_nil
 refine h #[g] w none #[] (fun _ => 0) (fun _ => False) hb hs (bF.refl _ _) (by subst hw; exact ⟨rfl,rfl,rfl,Nat.le_refl _⟩) rfl (leavers_one P g) ⟨⟨hp.clean,fun i a ha hm => ?_,hp.over,hp.hears,fun op hop => by simp at hop⟩,fun b hb => hb.elim,fun a _ i e => by simp [Trace.act?] at e⟩
 exact absurd ha (by simp [touchAt,Trace.act?])
end
end Go.Proofs.YtlhanfcgdfjhjaaGreatDoor
