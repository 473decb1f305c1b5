/- Parts of the proof, 7. No conditions. -/
import Derived.Test.YtdbammacnfojdaaK2
import Derived.Test.YtdbammacnfojdaaK3
import Derived.Test.YtdbammacnfojdaaK6
namespace Go.Proofs.Ytdbammacnfojdaa
open Go.Conc
abbrev OpIs (P : Program) (J : JT) (ops : Array Oper) (i d N : Nat) (X : RG → List AObj → (Value → List AObj → Prop) → Prop) : Prop :=
 ops[i]? = some (opGet ops i) ∧ (opGet ops i).dst = some d ∧ dstOk N (opGet ops i) = true ∧ (∀ r,gd ops (opGet ops i) r = some true) ∧ ∀ (f : RG) (h : List AObj) (H : Value → List AObj → Prop),opW P (Good P J) (opGet ops i) f.r h H = X f h H
end Go.Proofs.Ytdbammacnfojdaa
namespace Go.Proofs.Ytdbammacnfojdaa
open Go.Conc Go.Proofs.Try
set_option maxRecDepth 100000
set_option maxHeartbeats 4000000
set_option linter.unusedVariables false
section
variable {main : Bool} {J : JT} {n0 : Nat} {h : List AObj} {K : Value → List AObj → Prop}
section
variable {Sx : RG → List AObj → Prop}
theorem at3 : prog.funcs[3]? = some f3 := by kernel_rfl
theorem body3 : f3.body = some (codeOf f3) := by kernel_rfl
def pl3 : Plans := []
def ct3 : Cuts := .go
theorem pok3 : plansOk prog pl3 (trunc 5 (codeOf f3)) = true := by kernel_rfl
theorem e3 {a0 a1 a2 a3 : Value} : W prog J 136 h.length 3 (trunc 5 (codeOf f3)) (RG.mk (regs [a0,a1,a2,a3]) []) h (thenK Sx (RetQ prog [.tmp 8] h.length K)) =
(aBox a1 h fun v1 h2 =>
aLenS a0 fun v3 =>
aBin prog .gtr 3 v3 (vint 20) fun v4 =>
cnd v4
(Good prog J 5 [] h2 fun v5 h6 =>
retL h.length K [] [v5] h6)
(Good prog J 6 [a3] h2 fun v7 h8 =>
Good prog J 7 [v7,(vint 1),(vint 3)] h8 fun v9 h10 =>
Sem J 136 h.length 3 (subC [1,1,1,1,0,1,0] (trunc 5 (codeOf f3))) (RG.p (RG.p (RG.p (RG.p (RG.p (RG.p (RG.p (RG.p (RG.p (RG.p (RG.p (RG.p (RG.mk (regs [a0,a1,a2,a3]) []) 5 v1) 8 (Value.bool false)) 22 a0) 23 v3) 24 v4) 26 a3) 27 v7) 9 v7) 10 (Value.slice none 0 0)) 28 v7) 29 v9) 11 v9) h10 (contX pl3 prog J 136 h.length 3 ct3 [1,1,1,1,0,1,0] (trunc 5 (codeOf f3)) [] (thenK Sx (RetQ prog [.tmp 8] h.length K))))) := top_eq pok3 ct3 (by kernel_rfl)
theorem s3_1 {f : RG} {nx0 : RG → List AObj → Prop} : W prog J 136 n0 3 (subC [1,1,1,1,0,1,0,0] (trunc 5 (codeOf f3))) f h (thenK nx0 (contX pl3 prog J 136 n0 3 ct3 [1,1,1,1,0,1,0] (trunc 5 (codeOf f3)) [] (thenK Sx (RetQ prog [.tmp 8] n0 K)))) =
(aBin prog .gtr 3 (f.r 11) (vint 0) fun v1 =>
cnd v1
(Good prog J 8 [(f.r 9)] h fun v2 h3 =>
(((1 * 6 : Nat) ≤ 16777216 ∧ (1 : Nat) ≤ 16777216 ∧ List.length [(vint 0),(vint 0),(vint 0),(vint 0),(vint 0),(vint 0)] = 6) ∧ aFill (zrep [(vint 0),(vint 0),(vint 0),(vint 0),(vint 0),(vint 0)] 1) [(0,6,v2)] fun c4 =>
aNewS 1 c4 h3 fun v5 h6 =>
((List.length [(vint 0),(vint 0),(vint 0),(vint 0),(vint 0),(vint 0)] = 6 ∧ 0 < (6 : Nat) ∧ 0 < (48 : Nat) ∧ (48 : Nat) ≤ 1024) ∧ aApp 6 (f.r 10) v5 h6 fun v7 h8 =>
aBin prog .sub 3 (f.r 11) (vint 1) fun v9 =>
nx0 (RG.p (RG.p (RG.p (RG.p (RG.p (RG.p (RG.p (RG.p (RG.p (RG.p (RG.p f 30 (f.r 11)) 31 v1) 34 (f.r 10)) 35 (f.r 9)) 36 v2) 37 v5) 38 v7) 10 v7) 32 (f.r 11)) 33 v9) 11 v9) h8)))
(Sx (RG.p (RG.p f 30 (f.r 11)) 31 v1) h)) := sub_eq pok3 ct3 (by kernel_rfl)
theorem l3_1 (hJ : Closed prog main J) {S : Type} (μ : S → Nat) (I : S → RG → List AObj → Prop) (hI : ∀ s f h,I s f h → heapOk h → n0 ≤ h.length → W prog J 136 n0 3 (subC [1,1,1,1,0,1,0,0] (trunc 5 (codeOf f3))) f h (thenK (Nx n0 μ I s) (contX pl3 prog J 136 n0 3 ct3 [1,1,1,1,0,1,0] (trunc 5 (codeOf f3)) [] (thenK Sx (RetQ prog [.tmp 8] n0 K)))))
 {s : S} {f : RG} (hi : Gets n0 I s f h) : Sem J 136 n0 3 (subC [1,1,1,1,0,1,0] (trunc 5 (codeOf f3))) f h (contX pl3 prog J 136 n0 3 ct3 [1,1,1,1,0,1,0] (trunc 5 (codeOf f3)) [] (thenK Sx (RetQ prog [.tmp 8] n0 K))) :=
 loop_rule hJ mixed (b := subC [1,1,1,1,0,1,0,0] (trunc 5 (codeOf f3))) (by kernel_rfl) μ I hI hi
end
noncomputable def ops3_1 : Array Oper := opsAt [1,1,1,1,1,0] (codeOf f3)
theorem r3_1 : subC [1,1,1,1,1,0] (codeOf f3) = .region 9 ops3_1 true := by kernel_rfl
theorem z3_1 : ops3_1.size = 14 := by kernel_rfl
theorem o3_1_0 {J : JT} : OpIs prog J ops3_1 0 39 136 fun f h H => (H (f.r 10) h) := ⟨by kernel_rfl,by kernel_rfl,by kernel_rfl,fun _ => by kernel_rfl,fun _ _ _ => by kernel_rfl⟩
theorem o3_1_1 {J : JT} : OpIs prog J ops3_1 1 40 136 fun f h H => (H (f.r 0) h) := ⟨by kernel_rfl,by kernel_rfl,by kernel_rfl,fun _ => by kernel_rfl,fun _ _ _ => by kernel_rfl⟩
theorem o3_1_2 {J : JT} : OpIs prog J ops3_1 2 41 136 fun f h H => ((((2 * 1 : Nat) ≤ 16777216 ∧ (2 : Nat) ≤ 16777216 ∧ List.length [(Value.slice none 0 0)] = 1) ∧ aFill (zrep [(Value.slice none 0 0)] 2) [(0,1,(f.r 39)),(1,1,(f.r 40))] fun c1 =>
aNewS 2 c1 h fun v2 h3 =>
H v2 h3)) := ⟨by kernel_rfl,by kernel_rfl,by kernel_rfl,fun _ => by kernel_rfl,fun _ _ _ => by kernel_rfl⟩
theorem o3_1_3 {J : JT} : OpIs prog J ops3_1 3 42 136 fun f h H => (H (f.r 9) h) := ⟨by kernel_rfl,by kernel_rfl,by kernel_rfl,fun _ => by kernel_rfl,fun _ _ _ => by kernel_rfl⟩
theorem o3_1_4 {J : JT} : OpIs prog J ops3_1 4 43 136 fun f h H => (Good prog J 9 [(f.r 42),(vint 4)] h fun v1 h2 =>
H v1 h2) := ⟨by kernel_rfl,by kernel_rfl,by kernel_rfl,fun _ => by kernel_rfl,fun _ _ _ => by kernel_rfl⟩
theorem o3_1_5 {J : JT} : OpIs prog J ops3_1 5 44 136 fun f h H => (aLoad true 3 (f.r 5) h fun v1 =>
H v1 h) := ⟨by kernel_rfl,by kernel_rfl,by kernel_rfl,fun _ => by kernel_rfl,fun _ _ _ => by kernel_rfl⟩
theorem o3_1_6 {J : JT} : OpIs prog J ops3_1 6 45 136 fun f h H => ((((2 * 3 : Nat) ≤ 16777216 ∧ (2 : Nat) ≤ 16777216 ∧ List.length [(vint 0),(vint 0),(vint 0)] = 3) ∧ aFill (zrep [(vint 0),(vint 0),(vint 0)] 2) [(0,3,(f.r 43)),(3,3,(f.r 44))] fun c1 =>
aNewS 2 c1 h fun v2 h3 =>
H v2 h3)) := ⟨by kernel_rfl,by kernel_rfl,by kernel_rfl,fun _ => by kernel_rfl,fun _ _ _ => by kernel_rfl⟩
theorem o3_1_7 {J : JT} : OpIs prog J ops3_1 7 46 136 fun f h H => (H (f.r 9) h) := ⟨by kernel_rfl,by kernel_rfl,by kernel_rfl,fun _ => by kernel_rfl,fun _ _ _ => by kernel_rfl⟩
theorem o3_1_8 {J : JT} : OpIs prog J ops3_1 8 47 136 fun f h H => (Good prog J 10 [(f.r 46),(vint 15)] h fun v1 h2 =>
H v1 h2) := ⟨by kernel_rfl,by kernel_rfl,by kernel_rfl,fun _ => by kernel_rfl,fun _ _ _ => by kernel_rfl⟩
theorem o3_1_9 {J : JT} : OpIs prog J ops3_1 9 48 136 fun f h H => (H (f.r 2) h) := ⟨by kernel_rfl,by kernel_rfl,by kernel_rfl,fun _ => by kernel_rfl,fun _ _ _ => by kernel_rfl⟩
theorem o3_1_10 {J : JT} : OpIs prog J ops3_1 10 49 136 fun f h H => ((((2 * 1 : Nat) ≤ 16777216 ∧ (2 : Nat) ≤ 16777216 ∧ List.length [(vint 0)] = 1) ∧ aFill (zrep [(vint 0)] 2) [(0,1,(f.r 47)),(1,1,(f.r 48))] fun c1 =>
aNewS 2 c1 h fun v2 h3 =>
H v2 h3)) := ⟨by kernel_rfl,by kernel_rfl,by kernel_rfl,fun _ => by kernel_rfl,fun _ _ _ => by kernel_rfl⟩
theorem o3_1_11 {J : JT} : OpIs prog J ops3_1 11 12 136 fun f h H => (H (f.r 41) h) := ⟨by kernel_rfl,by kernel_rfl,by kernel_rfl,fun _ => by kernel_rfl,fun _ _ _ => by kernel_rfl⟩
theorem o3_1_12 {J : JT} : OpIs prog J ops3_1 12 13 136 fun f h H => (H (f.r 45) h) := ⟨by kernel_rfl,by kernel_rfl,by kernel_rfl,fun _ => by kernel_rfl,fun _ _ _ => by kernel_rfl⟩
theorem o3_1_13 {J : JT} : OpIs prog J ops3_1 13 14 136 fun f h H => (H (f.r 49) h) := ⟨by kernel_rfl,by kernel_rfl,by kernel_rfl,fun _ => by kernel_rfl,fun _ _ _ => by kernel_rfl⟩
def pl3t : Plans := [(9,false,.take 0 (.take 1 (.take 3 (.take 5 (.take 7 (.take 9 (.alt 2 true (.last 4 true (.alt 6 false (.last 8 true (.take 11 (.take 12 (.last 10 true (.take 13 (.fin)))))) (.last 8 true (.take 11 (.alt 6 false (.take 12 (.last 10 true (.take 13 (.fin)))) (.last 10 true (.last 6 false (.take 12 (.take 13 (.fin)))))))))) (.last 4 true (.alt 2 true (.alt 6 false (.last 8 true (.take 11 (.take 12 (.last 10 true (.take 13 (.fin)))))) (.last 8 true (.take 11 (.alt 6 false (.take 12 (.last 10 true (.take 13 (.fin)))) (.last 10 true (.last 6 false (.take 12 (.take 13 (.fin))))))))) (.alt 6 false (.alt 2 true (.last 8 true (.take 11 (.take 12 (.last 10 true (.take 13 (.fin)))))) (.last 8 true (.alt 2 true (.take 11 (.take 12 (.last 10 true (.take 13 (.fin))))) (.last 10 true (.last 2 true (.take 11 (.take 12 (.take 13 (.fin))))))))) (.last 8 true (.alt 2 true (.take 11 (.alt 6 false (.take 12 (.last 10 true (.take 13 (.fin)))) (.last 10 true (.last 6 false (.take 12 (.take 13 (.fin))))))) (.alt 6 false (.alt 2 true (.take 11 (.take 12 (.last 10 true (.take 13 (.fin))))) (.last 10 true (.last 2 true (.take 11 (.take 12 (.take 13 (.fin))))))) (.last 10 true (.alt 2 true (.take 11 (.last 6 false (.take 12 (.take 13 (.fin))))) (.last 6 false (.last 2 true (.take 11 (.take 12 (.take 13 (.fin))))))))))))))))))))),
 (15,true,.take 0 (.take 1 (.take 2 (.take 3 (.take 4 (.take 5 (.take 6 (.take 7 (.take 8 (.last 9 false (.take 10 (.take 11 (.take 12 (.take 13 (.take 14 (.fin)))))))))))))))),
 (16,true,.take 0 (.take 1 (.take 2 (.take 3 (.take 4 (.take 5 (.take 6 (.take 7 (.take 8 (.take 9 (.take 10 (.take 11 (.last 12 false (.take 13 (.take 14 (.take 15 (.take 16 (.take 17 (.fin))))))))))))))))))),
 (22,true,.take 0 (.take 1 (.take 2 (.take 3 (.take 4 (.take 5 (.take 6 (.take 7 (.take 8 (.take 9 (.take 10 (.take 11 (.fin)))))))))))))]
def ct3t : Cuts := .bin (.go) (.bin (.go) (.bin (.go) (.bin (.go) (.bin (.go) (.bin (.go) (.cut (.bin (.bin (.go) (.un (.un (.bin (.go) (.bin (.un (.bin (.bin (.go) (.cut (.go))) (.bin (.go) (.bin (.go) (.bin (.go) (.bin (.bin (.go) (.cut (.go))) (.go))))))) (.go)))))) (.go))))))))
theorem pok3t : plansOk prog pl3t (codeOf f3) = true := by kernel_rfl
theorem s3t_1 {f : RG} : W prog J 136 n0 3 (subC [1,1,1,1,1,1] (codeOf f3)) f h (contX pl3t prog J 136 n0 3 ct3t [1,1,1,1,1,1] (codeOf f3) [] (RetQ prog [.tmp 8] n0 K)) =
(Sem J 136 n0 3 (subC [1,1,1,1,1,1,0,1,0] (codeOf f3)) (RG.p f 15 (vint 0)) h (contX pl3t prog J 136 n0 3 ct3t [1,1,1,1,1,1,0,1,0] (codeOf f3) [] (RetQ prog [.tmp 8] n0 K))) := sub_eq pok3t ct3t (by kernel_rfl)
theorem s3t_2 {f : RG} {nx0 : RG → List AObj → Prop} : W prog J 136 n0 3 (subC [1,1,1,1,1,1,0,1,0,0] (codeOf f3)) f h (thenK nx0 (contX pl3t prog J 136 n0 3 ct3t [1,1,1,1,1,1,0,1,0] (codeOf f3) [] (RetQ prog [.tmp 8] n0 K))) =
(aLenS (f.r 12) fun v1 =>
aBin prog .lss 3 (f.r 15) v1 fun v2 =>
cnd v2
(aBin prog .eql 3 (f.r 15) (vint 1) fun v3 =>
cnd v3
(aLenS (f.r 0) fun v4 =>
aBin prog .gtr 3 v4 (vint 1) fun v5 =>
cnd v5
(aOff (f.r 5) 0 fun v6 =>
aLoad false 1 v6 h fun v7 =>
aBin prog .gtr 3 v7 (vint 4) fun v8 =>
cnd v8
(aOff (f.r 5) 0 fun v9 =>
aLoad false 1 v9 h fun v10 =>
aBin prog .leq 3 v10 (vint 8) fun v11 =>
Hold (W prog J 136 n0 3 (subC [1,1,1,1,1,1,0,1,0,0,1,0,0,0,1] (codeOf f3)) (RG.p (RG.p (RG.p (RG.p (RG.p (RG.p (RG.p (RG.p (RG.p (RG.p (RG.p (RG.p (RG.p (RG.p (RG.p (RG.p (RG.p (RG.p (RG.p (RG.p (RG.p (RG.p (RG.p (RG.p f 50 (f.r 15)) 51 (f.r 12)) 52 v1) 53 v2) 56 (f.r 15)) 57 v3) 58 v3) 58 (Value.bool true)) 59 (f.r 0)) 60 v4) 61 v5) 62 v5) 63 v5) 63 (Value.bool true)) 64 v6) 65 v7) 66 v8) 67 v8) 68 v8) 68 (Value.bool true)) 69 v9) 70 v10) 71 v11) 72 v11) h (contX pl3t prog J 136 n0 3 ct3t [1,1,1,1,1,1,0,1,0,0,1,0,0,0,1] (codeOf f3) [nx0] (RetQ prog [.tmp 8] n0 K))))
(Hold (W prog J 136 n0 3 (subC [1,1,1,1,1,1,0,1,0,0,1,0,0,0,1] (codeOf f3)) (RG.p (RG.p (RG.p (RG.p (RG.p (RG.p (RG.p (RG.p (RG.p (RG.p (RG.p (RG.p (RG.p (RG.p (RG.p (RG.p (RG.p (RG.p (RG.p (RG.p (RG.p (RG.p (RG.p (RG.p f 50 (f.r 15)) 51 (f.r 12)) 52 v1) 53 v2) 56 (f.r 15)) 57 v3) 58 v3) 58 (Value.bool true)) 59 (f.r 0)) 60 v4) 61 v5) 62 v5) 63 v5) 63 (Value.bool true)) 64 v6) 65 v7) 66 v8) 67 v8) 68 v8) 68 (Value.bool false)) 69 undef) 70 undef) 71 undef) 72 (Value.bool false)) h (contX pl3t prog J 136 n0 3 ct3t [1,1,1,1,1,1,0,1,0,0,1,0,0,0,1] (codeOf f3) [nx0] (RetQ prog [.tmp 8] n0 K)))))
(Hold (W prog J 136 n0 3 (subC [1,1,1,1,1,1,0,1,0,0,1,0,0,0,1] (codeOf f3)) (RG.p (RG.p (RG.p (RG.p (RG.p (RG.p (RG.p (RG.p (RG.p (RG.p (RG.p (RG.p (RG.p (RG.p (RG.p (RG.p (RG.p (RG.p (RG.p (RG.p (RG.p (RG.p (RG.p (RG.p f 50 (f.r 15)) 51 (f.r 12)) 52 v1) 53 v2) 56 (f.r 15)) 57 v3) 58 v3) 58 (Value.bool true)) 59 (f.r 0)) 60 v4) 61 v5) 62 v5) 63 v5) 63 (Value.bool false)) 64 undef) 65 undef) 66 undef) 67 (Value.bool false)) 68 (Value.bool false)) 68 (Value.bool false)) 69 undef) 70 undef) 71 undef) 72 (Value.bool false)) h (contX pl3t prog J 136 n0 3 ct3t [1,1,1,1,1,1,0,1,0,0,1,0,0,0,1] (codeOf f3) [nx0] (RetQ prog [.tmp 8] n0 K)))))
(Hold (W prog J 136 n0 3 (subC [1,1,1,1,1,1,0,1,0,0,1,0,0,0,1] (codeOf f3)) (RG.p (RG.p (RG.p (RG.p (RG.p (RG.p (RG.p (RG.p (RG.p (RG.p (RG.p (RG.p (RG.p (RG.p (RG.p (RG.p (RG.p (RG.p (RG.p (RG.p (RG.p (RG.p (RG.p (RG.p f 50 (f.r 15)) 51 (f.r 12)) 52 v1) 53 v2) 56 (f.r 15)) 57 v3) 58 v3) 58 (Value.bool false)) 59 undef) 60 undef) 61 undef) 62 (Value.bool false)) 63 (Value.bool false)) 63 (Value.bool false)) 64 undef) 65 undef) 66 undef) 67 (Value.bool false)) 68 (Value.bool false)) 68 (Value.bool false)) 69 undef) 70 undef) 71 undef) 72 (Value.bool false)) h (contX pl3t prog J 136 n0 3 ct3t [1,1,1,1,1,1,0,1,0,0,1,0,0,0,1] (codeOf f3) [nx0] (RetQ prog [.tmp 8] n0 K)))))
(Good prog J 5 [] h fun v12 h13 =>
retL n0 K f.ds [v12] h13)) := sub_eq pok3t ct3t (by kernel_rfl)
theorem l3t_2 (hJ : Closed prog main J) {S : Type} (μ : S → Nat) (I : S → RG → List AObj → Prop) (hI : ∀ s f h,I s f h → heapOk h → n0 ≤ h.length → W prog J 136 n0 3 (subC [1,1,1,1,1,1,0,1,0,0] (codeOf f3)) f h (thenK (Nx n0 μ I s) (contX pl3t prog J 136 n0 3 ct3t [1,1,1,1,1,1,0,1,0] (codeOf f3) [] (RetQ prog [.tmp 8] n0 K))))
 {s : S} {f : RG} (hi : Gets n0 I s f h) : Sem J 136 n0 3 (subC [1,1,1,1,1,1,0,1,0] (codeOf f3)) f h (contX pl3t prog J 136 n0 3 ct3t [1,1,1,1,1,1,0,1,0] (codeOf f3) [] (RetQ prog [.tmp 8] n0 K)) :=
 loop_rule hJ mixed (b := subC [1,1,1,1,1,1,0,1,0,0] (codeOf f3)) (by kernel_rfl) μ I hI hi
theorem s3t_3 {f : RG} {nx0 : RG → List AObj → Prop} : W prog J 136 n0 3 (subC [1,1,1,1,1,1,0,1,0,0,1,0,0,0,1] (codeOf f3)) f h (contX pl3t prog J 136 n0 3 ct3t [1,1,1,1,1,1,0,1,0,0,1,0,0,0,1] (codeOf f3) [nx0] (RetQ prog [.tmp 8] n0 K)) =
(cnd (f.r 72)
(aBin prog .add 3 (f.r 15) (vint 1) fun v1 =>
nx0 (RG.p (RG.p (RG.p f 54 (f.r 15)) 55 v1) 15 v1) h)
((((0 * 6 : Nat) ≤ 16777216 ∧ (0 : Nat) ≤ 16777216 ∧ List.length [(vint 0),(vint 0),(vint 0),(vint 0),(vint 0),(vint 0)] = 6) ∧ aFill (zrep [(vint 0),(vint 0),(vint 0),(vint 0),(vint 0),(vint 0)] 0) [] fun c2 =>
aNewS 0 c2 h fun v3 h4 =>
aIdx 1 (f.r 12) (f.r 15) fun v5 =>
aLoad false 1 v5 h4 fun v6 =>
((List.length [(vint 0),(vint 0),(vint 0),(vint 0),(vint 0),(vint 0)] = 6 ∧ 0 < (6 : Nat) ∧ 0 < (48 : Nat) ∧ (48 : Nat) ≤ 1024) ∧ aApp 6 v3 v6 h4 fun v7 h8 =>
aIdx 3 (f.r 13) (f.r 15) fun v9 =>
aLoad true 3 v9 h8 fun v10 =>
aIdx 1 (f.r 14) (f.r 15) fun v11 =>
aLoad false 1 v11 h8 fun v12 =>
Good prog J 11 [v7,v10,v12] h8 fun v13 h14 =>
aExt v13 0 fun v15 =>
aExt v13 1 fun v16 =>
aIdx 1 (f.r 12) (f.r 15) fun v17 =>
aLoad false 1 v17 h14 fun v18 =>
aIdx 3 (f.r 13) (f.r 15) fun v19 =>
aLoad true 3 v19 h14 fun v20 =>
aIdx 1 (f.r 14) (f.r 15) fun v21 =>
aLoad false 1 v21 h14 fun v22 =>
Good prog J 12 [v18,v20,v22] h14 fun v23 h24 =>
aExt v23 0 fun v25 =>
aExt v23 1 fun v26 =>
aBin prog .neq 37 v16 v26 fun v27 =>
cnd v27
(Hold (W prog J 136 n0 3 (subC [1,1,1,1,1,1,0,1,0,0,1,0,0,1,1,1,1,0,1] (codeOf f3)) (RG.p (RG.p (RG.p (RG.p (RG.p (RG.p (RG.p (RG.p (RG.p (RG.p (RG.p (RG.p (RG.p (RG.p (RG.p (RG.p (RG.p (RG.p (RG.p (RG.p (RG.p (RG.p (RG.p (RG.p (RG.p (RG.p (RG.p (RG.p (RG.p (RG.p (RG.p (RG.p (RG.p (RG.p (RG.p (RG.p (RG.p (RG.p (RG.p (RG.p (RG.p (RG.p (RG.p (RG.p (RG.p (RG.p (RG.p (RG.p (RG.p (RG.p f 73 v3) 74 (f.r 12)) 75 (f.r 15)) 76 v5) 77 v6) 78 v7) 16 v7) 80 v7) 81 (f.r 13)) 82 (f.r 15)) 83 v9) 84 v10) 85 (f.r 14)) 86 (f.r 15)) 87 v11) 88 v12) 89 v13) 79 v13) 90 v15) 91 v16) 17 v15) 18 v16) 93 (f.r 12)) 94 (f.r 15)) 95 v17) 96 v18) 97 (f.r 13)) 98 (f.r 15)) 99 v19) 100 v20) 101 (f.r 14)) 102 (f.r 15)) 103 v21) 104 v22) 105 v23) 92 v23) 106 v25) 107 v26) 19 v25) 20 v26) 108 v16) 109 v26) 110 v27) 111 v27) 111 (Value.bool true)) 112 undef) 113 undef) 114 undef) 115 undef) 116 (Value.bool true)) h24 (contX pl3t prog J 136 n0 3 ct3t [1,1,1,1,1,1,0,1,0,0,1,0,0,1,1,1,1,0,1] (codeOf f3) [nx0] (RetQ prog [.tmp 8] n0 K))))
(Good prog J 13 [v15,v25] h24 fun v28 h29 =>
aUn .not v28 fun v30 =>
Hold (W prog J 136 n0 3 (subC [1,1,1,1,1,1,0,1,0,0,1,0,0,1,1,1,1,0,1] (codeOf f3)) (RG.p (RG.p (RG.p (RG.p (RG.p (RG.p (RG.p (RG.p (RG.p (RG.p (RG.p (RG.p (RG.p (RG.p (RG.p (RG.p (RG.p (RG.p (RG.p (RG.p (RG.p (RG.p (RG.p (RG.p (RG.p (RG.p (RG.p (RG.p (RG.p (RG.p (RG.p (RG.p (RG.p (RG.p (RG.p (RG.p (RG.p (RG.p (RG.p (RG.p (RG.p (RG.p (RG.p (RG.p (RG.p (RG.p (RG.p (RG.p (RG.p (RG.p f 73 v3) 74 (f.r 12)) 75 (f.r 15)) 76 v5) 77 v6) 78 v7) 16 v7) 80 v7) 81 (f.r 13)) 82 (f.r 15)) 83 v9) 84 v10) 85 (f.r 14)) 86 (f.r 15)) 87 v11) 88 v12) 89 v13) 79 v13) 90 v15) 91 v16) 17 v15) 18 v16) 93 (f.r 12)) 94 (f.r 15)) 95 v17) 96 v18) 97 (f.r 13)) 98 (f.r 15)) 99 v19) 100 v20) 101 (f.r 14)) 102 (f.r 15)) 103 v21) 104 v22) 105 v23) 92 v23) 106 v25) 107 v26) 19 v25) 20 v26) 108 v16) 109 v26) 110 v27) 111 v27) 111 (Value.bool false)) 112 v15) 113 v25) 114 v28) 115 v30) 116 v30) h29 (contX pl3t prog J 136 n0 3 ct3t [1,1,1,1,1,1,0,1,0,0,1,0,0,1,1,1,1,0,1] (codeOf f3) [nx0] (RetQ prog [.tmp 8] n0 K)))))))) := sub_eq pok3t ct3t (by kernel_rfl)
theorem s3t_4 {f : RG} {nx0 : RG → List AObj → Prop} : W prog J 136 n0 3 (subC [1,1,1,1,1,1,0,1,0,0,1,0,0,1,1,1,1,0,1] (codeOf f3)) f h (contX pl3t prog J 136 n0 3 ct3t [1,1,1,1,1,1,0,1,0,0,1,0,0,1,1,1,1,0,1] (codeOf f3) [nx0] (RetQ prog [.tmp 8] n0 K)) =
(cnd (f.r 116)
(retL n0 K f.ds [(Value.bool false)] h)
(Sem J 136 n0 3 (subC [1,1,1,1,1,1,0,1,0,0,1,0,0,1,1,1,1,1,1,0] (codeOf f3)) (RG.p f 21 (vint 0)) h (contX pl3t prog J 136 n0 3 ct3t [1,1,1,1,1,1,0,1,0,0,1,0,0,1,1,1,1,1,1,0] (codeOf f3) [nx0] (RetQ prog [.tmp 8] n0 K)))) := sub_eq pok3t ct3t (by kernel_rfl)
theorem s3t_5 {f : RG} {nx0 nx1 : RG → List AObj → Prop} : W prog J 136 n0 3 (subC [1,1,1,1,1,1,0,1,0,0,1,0,0,1,1,1,1,1,1,0,0] (codeOf f3)) f h (thenK nx1 (contX pl3t prog J 136 n0 3 ct3t [1,1,1,1,1,1,0,1,0,0,1,0,0,1,1,1,1,1,1,0] (codeOf f3) [nx0] (RetQ prog [.tmp 8] n0 K))) =
(aLenS (f.r 16) fun v1 =>
aBin prog .lss 3 (f.r 21) v1 fun v2 =>
cnd v2
(aIdx 6 (f.r 16) (f.r 21) fun v3 =>
aLoad true 6 v3 h fun v4 =>
aIdx 1 (f.r 12) (f.r 15) fun v5 =>
aLoad false 1 v5 h fun v6 =>
aIdx 6 v6 (f.r 21) fun v7 =>
aLoad true 6 v7 h fun v8 =>
aBin prog .neq 31 v4 v8 fun v9 =>
cnd v9
(retL n0 K f.ds [(Value.bool false)] h)
(aBin prog .add 3 (f.r 21) (vint 1) fun v10 =>
nx1 (RG.p (RG.p (RG.p (RG.p (RG.p (RG.p (RG.p (RG.p (RG.p (RG.p (RG.p (RG.p (RG.p (RG.p (RG.p (RG.p (RG.p (RG.p (RG.p f 117 (f.r 21)) 118 (f.r 16)) 119 v1) 120 v2) 123 (f.r 16)) 124 (f.r 21)) 125 v3) 126 v4) 127 (f.r 12)) 128 (f.r 15)) 129 v5) 130 v6) 131 (f.r 21)) 132 v7) 133 v8) 134 v9) 121 (f.r 21)) 122 v10) 21 v10) h))
(aBin prog .add 3 (f.r 15) (vint 1) fun v11 =>
nx0 (RG.p (RG.p (RG.p (RG.p (RG.p (RG.p (RG.p f 117 (f.r 21)) 118 (f.r 16)) 119 v1) 120 v2) 54 (f.r 15)) 55 v11) 15 v11) h)) := sub_eq pok3t ct3t (by kernel_rfl)
theorem l3t_5 (hJ : Closed prog main J) {nx0 : RG → List AObj → Prop} {S : Type} (μ : S → Nat) (I : S → RG → List AObj → Prop) (hI : ∀ s f h,I s f h → heapOk h → n0 ≤ h.length → W prog J 136 n0 3 (subC [1,1,1,1,1,1,0,1,0,0,1,0,0,1,1,1,1,1,1,0,0] (codeOf f3)) f h (thenK (Nx n0 μ I s) (contX pl3t prog J 136 n0 3 ct3t [1,1,1,1,1,1,0,1,0,0,1,0,0,1,1,1,1,1,1,0] (codeOf f3) [nx0] (RetQ prog [.tmp 8] n0 K))))
 {s : S} {f : RG} (hi : Gets n0 I s f h) : Sem J 136 n0 3 (subC [1,1,1,1,1,1,0,1,0,0,1,0,0,1,1,1,1,1,1,0] (codeOf f3)) f h (contX pl3t prog J 136 n0 3 ct3t [1,1,1,1,1,1,0,1,0,0,1,0,0,1,1,1,1,1,1,0] (codeOf f3) [nx0] (RetQ prog [.tmp 8] n0 K)) :=
 loop_rule hJ mixed (b := subC [1,1,1,1,1,1,0,1,0,0,1,0,0,1,1,1,1,1,1,0,0] (codeOf f3)) (by kernel_rfl) μ I hI hi
end
section
variable {main : Bool} {J : JT} {n0 : Nat} {h : List AObj} {K : Value → List AObj → Prop}
theorem at40 : prog.funcs[40]? = some f40 := by kernel_rfl
theorem body40 : f40.body = some (codeOf f40) := by kernel_rfl
def pl40 : Plans := [(10,true,.take 0 (.take 1 (.take 2 (.take 3 (.take 4 (.take 5 (.last 6 false (.take 7 (.take 8 (.take 9 (.take 10 (.take 11 (.fin)))))))))))))]
def ct40 : Cuts := .go
theorem pok40 : plansOk prog pl40 (codeOf f40) = true := by kernel_rfl
theorem e40 {a0 a1 a2 a3 : Value} : W prog J 52 h.length 40 (codeOf f40) (RG.mk (regs [a0,a1,a2,a3]) []) h (RetQ prog [.tmp 8] h.length K) =
(aBox a1 h fun v1 h2 =>
Sem J 52 h.length 40 (subC [1,0,1,0] (codeOf f40)) (RG.p (RG.p (RG.p (RG.mk (regs [a0,a1,a2,a3]) []) 5 v1) 8 (Value.bool false)) 9 (vint 0)) h2 (contX pl40 prog J 52 h.length 40 ct40 [1,0,1,0] (codeOf f40) [] (RetQ prog [.tmp 8] h.length K))) := top_eq pok40 ct40 (by kernel_rfl)
theorem g40 (hJ : Closed prog main J) {a0 a1 a2 a3 : Value} (hs : heapOk h → W prog J 52 h.length 40 (codeOf f40) (RG.mk (regs [a0,a1,a2,a3]) []) h (RetQ prog [.tmp 8] h.length K)) : Good prog J 40 [a0,a1,a2,a3] h K :=
 good_of_W hJ mixed at40 body40 (by kernel_rfl) (Nat.le_of_ble_eq_true rfl) hs
theorem s40_1 {f : RG} {nx0 : RG → List AObj → Prop} : W prog J 52 n0 40 (subC [1,0,1,0,0] (codeOf f40)) f h (thenK nx0 (contX pl40 prog J 52 n0 40 ct40 [1,0,1,0] (codeOf f40) [] (RetQ prog [.tmp 8] n0 K))) =
(aLenS (f.r 0) fun v1 =>
aBin prog .lss 3 (f.r 9) v1 fun v2 =>
cnd v2
(aOff (f.r 5) 0 fun v3 =>
aLoad false 1 v3 h fun v4 =>
((List.length [(vint 0)] = 1 ∧ (8 : Nat) ≤ 1024) ∧ aMkS [(vint 0)] v4 v4 h fun v5 h6 =>
Sem J 52 n0 40 (subC [1,0,1,0,0,1,0,0,1,0,1,0] (codeOf f40)) (RG.p (RG.p (RG.p (RG.p (RG.p (RG.p (RG.p (RG.p (RG.p f 14 (f.r 9)) 15 (f.r 0)) 16 v1) 17 v2) 20 v3) 21 v4) 22 v5) 10 v5) 11 (vint 0)) h6 (contX pl40 prog J 52 n0 40 ct40 [1,0,1,0,0,1,0,0,1,0,1,0] (codeOf f40) [nx0] (RetQ prog [.tmp 8] n0 K))))
(retL n0 K f.ds [(Value.bool true)] h)) := sub_eq pok40 ct40 (by kernel_rfl)
theorem l40_1 (hJ : Closed prog main J) {S : Type} (μ : S → Nat) (I : S → RG → List AObj → Prop) (hI : ∀ s f h,I s f h → heapOk h → n0 ≤ h.length → W prog J 52 n0 40 (subC [1,0,1,0,0] (codeOf f40)) f h (thenK (Nx n0 μ I s) (contX pl40 prog J 52 n0 40 ct40 [1,0,1,0] (codeOf f40) [] (RetQ prog [.tmp 8] n0 K))))
 {s : S} {f : RG} (hi : Gets n0 I s f h) : Sem J 52 n0 40 (subC [1,0,1,0] (codeOf f40)) f h (contX pl40 prog J 52 n0 40 ct40 [1,0,1,0] (codeOf f40) [] (RetQ prog [.tmp 8] n0 K)) :=
 loop_rule hJ mixed (b := subC [1,0,1,0,0] (codeOf f40)) (by kernel_rfl) μ I hI hi
theorem s40_2 {f : RG} {nx0 nx1 : RG → List AObj → Prop} : W prog J 52 n0 40 (subC [1,0,1,0,0,1,0,0,1,0,1,0,0] (codeOf f40)) f h (thenK nx1 (contX pl40 prog J 52 n0 40 ct40 [1,0,1,0,0,1,0,0,1,0,1,0] (codeOf f40) [nx0] (RetQ prog [.tmp 8] n0 K))) =
(aLenS (f.r 3) fun v1 =>
aBin prog .lss 3 (f.r 11) v1 fun v2 =>
cnd v2
(aIdx 1 (f.r 3) (f.r 11) fun v3 =>
aLoad false 1 v3 h fun v4 =>
aBin prog .eql 3 v4 (f.r 9) fun v5 =>
cnd v5
(aIdx 1 (f.r 10) (f.r 11) fun v6 =>
aStore 1 v6 (f.r 2) h fun h7 =>
aBin prog .add 3 (f.r 11) (vint 1) fun v8 =>
nx1 (RG.p (RG.p (RG.p (RG.p (RG.p (RG.p (RG.p (RG.p (RG.p (RG.p (RG.p (RG.p (RG.p (RG.p (RG.p (RG.p (RG.p f 23 (f.r 11)) 24 (f.r 3)) 25 v1) 26 v2) 29 (f.r 3)) 30 (f.r 11)) 31 v3) 32 v4) 33 (f.r 9)) 34 v5) 35 (f.r 10)) 36 (f.r 11)) 37 (f.r 2)) 38 v6) 27 (f.r 11)) 28 v8) 11 v8) h7)
(aBin prog .add 3 (f.r 11) (vint 1) fun v9 =>
nx1 (RG.p (RG.p (RG.p (RG.p (RG.p (RG.p (RG.p (RG.p (RG.p (RG.p (RG.p (RG.p (RG.p f 23 (f.r 11)) 24 (f.r 3)) 25 v1) 26 v2) 29 (f.r 3)) 30 (f.r 11)) 31 v3) 32 v4) 33 (f.r 9)) 34 v5) 27 (f.r 11)) 28 v9) 11 v9) h))
(aIdx 6 (f.r 0) (f.r 9) fun v10 =>
aLoad true 6 v10 h fun v11 =>
aLoad true 3 (f.r 5) h fun v12 =>
Good prog J 70 [v11,(f.r 10),v12] h fun v13 h14 =>
aExt v13 0 fun v15 =>
aExt v13 1 fun v16 =>
aBin prog .lss 3 v15 v16 fun v17 =>
cnd v17
(retL n0 K f.ds [(Value.bool false)] h14)
(aBin prog .add 3 (f.r 9) (vint 1) fun v18 =>
nx0 (RG.p (RG.p (RG.p (RG.p (RG.p (RG.p (RG.p (RG.p (RG.p (RG.p (RG.p (RG.p (RG.p (RG.p (RG.p (RG.p (RG.p (RG.p (RG.p (RG.p (RG.p (RG.p f 23 (f.r 11)) 24 (f.r 3)) 25 v1) 26 v2) 40 (f.r 0)) 41 (f.r 9)) 42 v10) 43 v11) 44 (f.r 10)) 45 v12) 46 v13) 39 v13) 47 v15) 48 v16) 12 v15) 13 v16) 49 v15) 50 v16) 51 v17) 18 (f.r 9)) 19 v18) 9 v18) h14))) := sub_eq pok40 ct40 (by kernel_rfl)
theorem l40_2 (hJ : Closed prog main J) {nx0 : RG → List AObj → Prop} {S : Type} (μ : S → Nat) (I : S → RG → List AObj → Prop) (hI : ∀ s f h,I s f h → heapOk h → n0 ≤ h.length → W prog J 52 n0 40 (subC [1,0,1,0,0,1,0,0,1,0,1,0,0] (codeOf f40)) f h (thenK (Nx n0 μ I s) (contX pl40 prog J 52 n0 40 ct40 [1,0,1,0,0,1,0,0,1,0,1,0] (codeOf f40) [nx0] (RetQ prog [.tmp 8] n0 K))))
 {s : S} {f : RG} (hi : Gets n0 I s f h) : Sem J 52 n0 40 (subC [1,0,1,0,0,1,0,0,1,0,1,0] (codeOf f40)) f h (contX pl40 prog J 52 n0 40 ct40 [1,0,1,0,0,1,0,0,1,0,1,0] (codeOf f40) [nx0] (RetQ prog [.tmp 8] n0 K)) :=
 loop_rule hJ mixed (b := subC [1,0,1,0,0,1,0,0,1,0,1,0,0] (codeOf f40)) (by kernel_rfl) μ I hI hi
theorem at12 : prog.funcs[12]? = some f12 := by kernel_rfl
theorem body12 : f12.body = some (codeOf f12) := by kernel_rfl
def pl12 : Plans := [(20,true,.take 0 (.take 1 (.take 2 (.take 3 (.take 4 (.take 5 (.take 6 (.last 7 false (.fin)))))))))]
def ct12 : Cuts := .go
theorem pok12 : plansOk prog pl12 (codeOf f12) = true := by kernel_rfl
theorem e12 {a0 a1 a2 : Value} : W prog J 64 h.length 12 (codeOf f12) (RG.mk (regs [a0,a1,a2]) []) h (RetQ prog [.tmp 6,.tmp 7] h.length K) =
(aBox a1 h fun v1 h2 =>
aLenS a0 fun v3 =>
aBin prog .eql 3 v3 (vint 0) fun v4 =>
cnd v4
(retL h.length K [] [(Value.slice none 0 0),(vint 7)] h2)
(aLenS a0 fun v5 =>
aBin prog .gtr 3 v5 (vint 3) fun v6 =>
cnd v6
(retL h.length K [] [(Value.slice none 0 0),(vint 6)] h2)
(Sem J 64 h.length 12 (subC [1,1,1,0,1,0] (codeOf f12)) (RG.p (RG.p (RG.p (RG.p (RG.p (RG.p (RG.p (RG.p (RG.p (RG.p (RG.mk (regs [a0,a1,a2]) []) 4 v1) 6 (Value.slice none 0 0)) 7 (vint 0)) 13 a0) 14 v3) 15 v4) 16 a0) 17 v5) 18 v6) 8 (vint 0)) h2 (contX pl12 prog J 64 h.length 12 ct12 [1,1,1,0,1,0] (codeOf f12) [] (RetQ prog [.tmp 6,.tmp 7] h.length K))))) := top_eq pok12 ct12 (by kernel_rfl)
theorem g12 (hJ : Closed prog main J) {a0 a1 a2 : Value} (hs : heapOk h → W prog J 64 h.length 12 (codeOf f12) (RG.mk (regs [a0,a1,a2]) []) h (RetQ prog [.tmp 6,.tmp 7] h.length K)) : Good prog J 12 [a0,a1,a2] h K :=
 good_of_W hJ mixed at12 body12 (by kernel_rfl) (Nat.le_of_ble_eq_true rfl) hs
theorem s12_1 {f : RG} {nx0 : RG → List AObj → Prop} : W prog J 64 n0 12 (subC [1,1,1,0,1,0,0] (codeOf f12)) f h (thenK nx0 (contX pl12 prog J 64 n0 12 ct12 [1,1,1,0,1,0] (codeOf f12) [] (RetQ prog [.tmp 6,.tmp 7] n0 K))) =
(aLenS (f.r 0) fun v1 =>
aBin prog .lss 3 (f.r 8) v1 fun v2 =>
cnd v2
(aIdx 6 (f.r 0) (f.r 8) fun v3 =>
aLoad true 6 v3 h fun v4 =>
Good prog J 36 [v4] h fun v5 h6 =>
aBin prog .neq 37 v5 (vint 0) fun v7 =>
cnd v7
(retL n0 K f.ds [(Value.slice none 0 0),v5] h6)
(aBin prog .add 3 (f.r 8) (vint 1) fun v8 =>
nx0 (RG.p (RG.p (RG.p (RG.p (RG.p (RG.p (RG.p (RG.p (RG.p (RG.p (RG.p (RG.p (RG.p (RG.p (RG.p f 19 (f.r 8)) 20 (f.r 0)) 21 v1) 22 v2) 25 (f.r 0)) 26 (f.r 8)) 27 v3) 28 v4) 29 v5) 9 v5) 30 v5) 31 v7) 23 (f.r 8)) 24 v8) 8 v8) h6))
(aLoad true 3 (f.r 4) h fun v9 =>
Good prog J 37 [v9] h fun v10 h11 =>
aBin prog .neq 37 v10 (vint 0) fun v12 =>
cnd v12
(retL n0 K f.ds [(Value.slice none 0 0),v10] h11)
(Good prog J 38 [(f.r 2),(vint 0),(vint 40)] h11 fun v13 h14 =>
aUn .not v13 fun v15 =>
cnd v15
(retL n0 K f.ds [(Value.slice none 0 0),(vint 1)] h14)
(aLenS (f.r 0) fun v16 =>
aOff (f.r 4) 0 fun v17 =>
aLoad false 1 v17 h14 fun v18 =>
Good prog J 39 [v16,v18] h14 fun v19 h20 =>
Sem J 64 n0 12 (subC [1,1,1,1,1,1,1,0,1,0] (codeOf f12)) (RG.p (RG.p (RG.p (RG.p (RG.p (RG.p (RG.p (RG.p (RG.p (RG.p (RG.p (RG.p (RG.p (RG.p (RG.p (RG.p (RG.p (RG.p (RG.p f 19 (f.r 8)) 20 (f.r 0)) 21 v1) 22 v2) 33 v9) 34 v10) 10 v10) 35 v10) 36 v12) 38 (f.r 2)) 39 v13) 40 v15) 41 (f.r 0)) 42 v16) 43 v17) 44 v18) 45 v19) 11 v19) 12 (vint 0)) h20 (contX pl12 prog J 64 n0 12 ct12 [1,1,1,1,1,1,1,0,1,0] (codeOf f12) [] (RetQ prog [.tmp 6,.tmp 7] n0 K)))))) := sub_eq pok12 ct12 (by kernel_rfl)
theorem l12_1 (hJ : Closed prog main J) {S : Type} (μ : S → Nat) (I : S → RG → List AObj → Prop) (hI : ∀ s f h,I s f h → heapOk h → n0 ≤ h.length → W prog J 64 n0 12 (subC [1,1,1,0,1,0,0] (codeOf f12)) f h (thenK (Nx n0 μ I s) (contX pl12 prog J 64 n0 12 ct12 [1,1,1,0,1,0] (codeOf f12) [] (RetQ prog [.tmp 6,.tmp 7] n0 K))))
 {s : S} {f : RG} (hi : Gets n0 I s f h) : Sem J 64 n0 12 (subC [1,1,1,0,1,0] (codeOf f12)) f h (contX pl12 prog J 64 n0 12 ct12 [1,1,1,0,1,0] (codeOf f12) [] (RetQ prog [.tmp 6,.tmp 7] n0 K)) :=
 loop_rule hJ mixed (b := subC [1,1,1,0,1,0,0] (codeOf f12)) (by kernel_rfl) μ I hI hi
theorem s12_2 {f : RG} {nx0 : RG → List AObj → Prop} : W prog J 64 n0 12 (subC [1,1,1,1,1,1,1,0,1,0,0] (codeOf f12)) f h (thenK nx0 (contX pl12 prog J 64 n0 12 ct12 [1,1,1,1,1,1,1,0,1,0] (codeOf f12) [] (RetQ prog [.tmp 6,.tmp 7] n0 K))) =
(aLenS (f.r 11) fun v1 =>
aBin prog .lss 3 (f.r 12) v1 fun v2 =>
cnd v2
(aLoad true 3 (f.r 4) h fun v3 =>
aIdx 1 (f.r 11) (f.r 12) fun v4 =>
aLoad false 1 v4 h fun v5 =>
Good prog J 40 [(f.r 0),v3,(f.r 2),v5] h fun v6 h7 =>
cnd v6
(aIdx 1 (f.r 11) (f.r 12) fun v8 =>
aLoad false 1 v8 h7 fun v9 =>
retL n0 K f.ds [v9,(vint 0)] h7)
(aBin prog .add 3 (f.r 12) (vint 1) fun v10 =>
nx0 (RG.p (RG.p (RG.p (RG.p (RG.p (RG.p (RG.p (RG.p (RG.p (RG.p (RG.p (RG.p (RG.p (RG.p (RG.p f 46 (f.r 12)) 47 (f.r 11)) 48 v1) 49 v2) 52 (f.r 0)) 53 v3) 54 (f.r 2)) 55 (f.r 11)) 56 (f.r 12)) 57 v4) 58 v5) 59 v6) 50 (f.r 12)) 51 v10) 12 v10) h7))
(retL n0 K f.ds [(Value.slice none 0 0),(vint 11)] h)) := sub_eq pok12 ct12 (by kernel_rfl)
theorem l12_2 (hJ : Closed prog main J) {S : Type} (μ : S → Nat) (I : S → RG → List AObj → Prop) (hI : ∀ s f h,I s f h → heapOk h → n0 ≤ h.length → W prog J 64 n0 12 (subC [1,1,1,1,1,1,1,0,1,0,0] (codeOf f12)) f h (thenK (Nx n0 μ I s) (contX pl12 prog J 64 n0 12 ct12 [1,1,1,1,1,1,1,0,1,0] (codeOf f12) [] (RetQ prog [.tmp 6,.tmp 7] n0 K))))
 {s : S} {f : RG} (hi : Gets n0 I s f h) : Sem J 64 n0 12 (subC [1,1,1,1,1,1,1,0,1,0] (codeOf f12)) f h (contX pl12 prog J 64 n0 12 ct12 [1,1,1,1,1,1,1,0,1,0] (codeOf f12) [] (RetQ prog [.tmp 6,.tmp 7] n0 K)) :=
 loop_rule hJ mixed (b := subC [1,1,1,1,1,1,1,0,1,0,0] (codeOf f12)) (by kernel_rfl) μ I hI hi
end
section
variable {main : Bool} {J : JT} {n0 : Nat} {h : List AObj} {K : Value → List AObj → Prop}
theorem at39 : prog.funcs[39]? = some f39 := by kernel_rfl
theorem body39 : f39.body = some (codeOf f39) := by kernel_rfl
def pl39 : Plans := []
def ct39 : Cuts := .go
theorem pok39 : plansOk prog pl39 (codeOf f39) = true := by kernel_rfl
theorem e39 {a0 a1 : Value} : W prog J 38 h.length 39 (codeOf f39) (RG.mk (regs [a0,a1]) []) h (RetQ prog [.tmp 4] h.length K) =
(aBin prog .eql 3 a1 (vint 0) fun v1 =>
cnd v1
((((1 * 1 : Nat) ≤ 16777216 ∧ (1 : Nat) ≤ 16777216 ∧ List.length [(Value.slice none 0 0)] = 1) ∧ aFill (zrep [(Value.slice none 0 0)] 1) [(0,1,(Value.slice none 0 0))] fun c2 =>
aNewS 1 c2 h fun v3 h4 =>
retL h.length K [] [v3] h4))
(aBin prog .sub 3 a1 (vint 1) fun v5 =>
Good prog J 39 [a0,v5] h fun v6 h7 =>
Sem J 38 h.length 39 (subC [1,1,1,1,0,1,0] (codeOf f39)) (RG.p (RG.p (RG.p (RG.p (RG.p (RG.p (RG.p (RG.p (RG.p (RG.p (RG.mk (regs [a0,a1]) []) 4 (Value.slice none 0 0)) 9 a1) 10 v1) 5 (Value.slice none 0 0)) 12 a0) 13 a1) 14 v5) 15 v6) 6 v6) 7 (vint 0)) h7 (contX pl39 prog J 38 h.length 39 ct39 [1,1,1,1,0,1,0] (codeOf f39) [] (RetQ prog [.tmp 4] h.length K)))) := top_eq pok39 ct39 (by kernel_rfl)
theorem g39 (hJ : Closed prog main J) {a0 a1 : Value} (hs : heapOk h → W prog J 38 h.length 39 (codeOf f39) (RG.mk (regs [a0,a1]) []) h (RetQ prog [.tmp 4] h.length K)) : Good prog J 39 [a0,a1] h K :=
 good_of_W hJ mixed at39 body39 (by kernel_rfl) (Nat.le_of_ble_eq_true rfl) hs
theorem s39_1 {f : RG} {nx0 : RG → List AObj → Prop} : W prog J 38 n0 39 (subC [1,1,1,1,0,1,0,0] (codeOf f39)) f h (thenK nx0 (contX pl39 prog J 38 n0 39 ct39 [1,1,1,1,0,1,0] (codeOf f39) [] (RetQ prog [.tmp 4] n0 K))) =
(aBin prog .lss 3 (f.r 7) (f.r 0) fun v1 =>
cnd v1
(Sem J 38 n0 39 (subC [1,1,1,1,0,1,0,0,1,0,0,1,0] (codeOf f39)) (RG.p (RG.p (RG.p (RG.p f 16 (f.r 7)) 17 (f.r 0)) 18 v1) 8 (vint 0)) h (contX pl39 prog J 38 n0 39 ct39 [1,1,1,1,0,1,0,0,1,0,0,1,0] (codeOf f39) [nx0] (RetQ prog [.tmp 4] n0 K)))
(retL n0 K f.ds [(f.r 5)] h)) := sub_eq pok39 ct39 (by kernel_rfl)
theorem l39_1 (hJ : Closed prog main J) {S : Type} (μ : S → Nat) (I : S → RG → List AObj → Prop) (hI : ∀ s f h,I s f h → heapOk h → n0 ≤ h.length → W prog J 38 n0 39 (subC [1,1,1,1,0,1,0,0] (codeOf f39)) f h (thenK (Nx n0 μ I s) (contX pl39 prog J 38 n0 39 ct39 [1,1,1,1,0,1,0] (codeOf f39) [] (RetQ prog [.tmp 4] n0 K))))
 {s : S} {f : RG} (hi : Gets n0 I s f h) : Sem J 38 n0 39 (subC [1,1,1,1,0,1,0] (codeOf f39)) f h (contX pl39 prog J 38 n0 39 ct39 [1,1,1,1,0,1,0] (codeOf f39) [] (RetQ prog [.tmp 4] n0 K)) :=
 loop_rule hJ mixed (b := subC [1,1,1,1,0,1,0,0] (codeOf f39)) (by kernel_rfl) μ I hI hi
theorem s39_2 {f : RG} {nx0 nx1 : RG → List AObj → Prop} : W prog J 38 n0 39 (subC [1,1,1,1,0,1,0,0,1,0,0,1,0,0] (codeOf f39)) f h (thenK nx1 (contX pl39 prog J 38 n0 39 ct39 [1,1,1,1,0,1,0,0,1,0,0,1,0] (codeOf f39) [nx0] (RetQ prog [.tmp 4] n0 K))) =
(aLenS (f.r 6) fun v1 =>
aBin prog .lss 3 (f.r 8) v1 fun v2 =>
cnd v2
((((1 * 1 : Nat) ≤ 16777216 ∧ (1 : Nat) ≤ 16777216 ∧ List.length [(vint 0)] = 1) ∧ aFill (zrep [(vint 0)] 1) [(0,1,(f.r 7))] fun c3 =>
aNewS 1 c3 h fun v4 h5 =>
aIdx 1 (f.r 6) (f.r 8) fun v6 =>
aLoad false 1 v6 h5 fun v7 =>
((List.length [(vint 0)] = 1 ∧ 0 < (1 : Nat) ∧ 0 < (8 : Nat) ∧ (8 : Nat) ≤ 1024) ∧ aApp 1 v4 v7 h5 fun v8 h9 =>
(((1 * 1 : Nat) ≤ 16777216 ∧ (1 : Nat) ≤ 16777216 ∧ List.length [(Value.slice none 0 0)] = 1) ∧ aFill (zrep [(Value.slice none 0 0)] 1) [(0,1,v8)] fun c10 =>
aNewS 1 c10 h9 fun v11 h12 =>
((List.length [(Value.slice none 0 0)] = 1 ∧ 0 < (1 : Nat) ∧ 0 < (24 : Nat) ∧ (24 : Nat) ≤ 1024) ∧ aApp 1 (f.r 5) v11 h12 fun v13 h14 =>
aBin prog .add 3 (f.r 8) (vint 1) fun v15 =>
nx1 (RG.p (RG.p (RG.p (RG.p (RG.p (RG.p (RG.p (RG.p (RG.p (RG.p (RG.p (RG.p (RG.p (RG.p (RG.p (RG.p (RG.p (RG.p f 21 (f.r 8)) 22 (f.r 6)) 23 v1) 24 v2) 27 (f.r 5)) 28 (f.r 7)) 29 v4) 30 (f.r 6)) 31 (f.r 8)) 32 v6) 33 v7) 34 v8) 35 v11) 36 v13) 5 v13) 25 (f.r 8)) 26 v15) 8 v15) h14)))))
(aBin prog .add 3 (f.r 7) (vint 1) fun v16 =>
nx0 (RG.p (RG.p (RG.p (RG.p (RG.p (RG.p (RG.p f 21 (f.r 8)) 22 (f.r 6)) 23 v1) 24 v2) 19 (f.r 7)) 20 v16) 7 v16) h)) := sub_eq pok39 ct39 (by kernel_rfl)
theorem l39_2 (hJ : Closed prog main J) {nx0 : RG → List AObj → Prop} {S : Type} (μ : S → Nat) (I : S → RG → List AObj → Prop) (hI : ∀ s f h,I s f h → heapOk h → n0 ≤ h.length → W prog J 38 n0 39 (subC [1,1,1,1,0,1,0,0,1,0,0,1,0,0] (codeOf f39)) f h (thenK (Nx n0 μ I s) (contX pl39 prog J 38 n0 39 ct39 [1,1,1,1,0,1,0,0,1,0,0,1,0] (codeOf f39) [nx0] (RetQ prog [.tmp 4] n0 K))))
 {s : S} {f : RG} (hi : Gets n0 I s f h) : Sem J 38 n0 39 (subC [1,1,1,1,0,1,0,0,1,0,0,1,0] (codeOf f39)) f h (contX pl39 prog J 38 n0 39 ct39 [1,1,1,1,0,1,0,0,1,0,0,1,0] (codeOf f39) [nx0] (RetQ prog [.tmp 4] n0 K)) :=
 loop_rule hJ mixed (b := subC [1,1,1,1,0,1,0,0,1,0,0,1,0,0] (codeOf f39)) (by kernel_rfl) μ I hI hi
def pl14 : Plans := []
def ct14 : Cuts := .go
theorem pok14 : plansOk prog pl14 (codeOf f14) = true := by kernel_rfl
theorem e14 {a0 a1 : Value} : W prog J 38 h.length 14 (codeOf f14) (RG.mk (regs [a0,a1]) []) h (RetQ prog [.tmp 4] h.length K) =
(aBin prog .eql 3 a1 (vint 0) fun v1 =>
cnd v1
((((1 * 1 : Nat) ≤ 16777216 ∧ (1 : Nat) ≤ 16777216 ∧ List.length [(Value.slice none 0 0)] = 1) ∧ aFill (zrep [(Value.slice none 0 0)] 1) [(0,1,(Value.slice none 0 0))] fun c2 =>
aNewS 1 c2 h fun v3 h4 =>
retL h.length K [] [v3] h4))
(aBin prog .sub 3 a1 (vint 1) fun v5 =>
Good prog J 14 [a0,v5] h fun v6 h7 =>
Sem J 38 h.length 14 (subC [1,1,1,1,0,1,0] (codeOf f14)) (RG.p (RG.p (RG.p (RG.p (RG.p (RG.p (RG.p (RG.p (RG.p (RG.p (RG.mk (regs [a0,a1]) []) 4 (Value.slice none 0 0)) 9 a1) 10 v1) 5 (Value.slice none 0 0)) 12 a0) 13 a1) 14 v5) 15 v6) 6 v6) 7 (vint 0)) h7 (contX pl14 prog J 38 h.length 14 ct14 [1,1,1,1,0,1,0] (codeOf f14) [] (RetQ prog [.tmp 4] h.length K)))) := top_eq pok14 ct14 (by kernel_rfl)
end
end Go.Proofs.Ytdbammacnfojdaa
namespace Go.Proofs.Ytdbammacnfojdaa
open Go.Conc Go.Proofs.Try
set_option maxRecDepth 100000
def OwnL (n : Nat) (H : List AObj) (v : Value) (ls : List (List Int)) (o : Option Nat) : Prop :=
 (∀ j,o = some j → n ≤ j) ∧ ∃ cs,OwnX H 1 cs ls.length v o ∧ ∀ (i : Nat) l,ls[i]? = some l → ∃ lv b,cs[i]? = some lv ∧ OwnX H 1 (l.map vint) l.length lv b ∧ ∀ j,b = some j → some j ≠ o ∧ n ≤ j
theorem OwnL.keep {n : Nat} {H H' : List AObj} {v : Value} {ls : List (List Int)} {o : Option Nat} (a : OwnL n H v ls o) (S : SameX [] H H') : OwnL n H' v ls o := by
 obtain ⟨h1,cs,O,he⟩ := a
 refine ⟨h1,cs,ownX_keep O S (by simp),fun i l hl => ?_⟩
 obtain ⟨lv,b,e1,e2,e3⟩ := he i l hl
 exact ⟨lv,b,e1,ownX_keep e2 S (by simp),e3⟩
def partG (hd : Nat → Int) (g : Nat → List (List Int)) (i k : Nat) : List (List Int) := ((List.range i).flatMap fun j => (g j).map (hd j :: ·)) ++ ((g i).take k).map (hd i :: ·)
section
variable {hd : Nat → Int} {g : Nat → List (List Int)} {i k : Nat}
theorem partG_zero : partG hd g i 0 = (List.range i).flatMap fun j => (g j).map (hd j :: ·) := by unfold partG; simp
theorem partG_all : partG hd g i (g i).length = partG hd g (i + 1) 0 := by
 rw [partG_zero]
 unfold partG
 rw [List.take_length,List.range_succ,List.flatMap_append]
 simp
theorem partG_succ {w : List Int} (hw : (g i)[k]? = some w) : partG hd g i (k + 1) = partG hd g i k ++ [hd i :: w] := by
 unfold partG
 rw [List.take_add_one,hw,List.map_append,List.append_assoc]
 rfl
theorem partG_le {B : Nat} (hB : ∀ j,(g j).length ≤ B) : (partG hd g i k).length ≤ (i + 1) * B := by
 have h : ∀ i,((List.range i).flatMap fun j => (g j).map (hd j :: ·)).length ≤ i * B := by
  intro i
  induction i with
  | zero => simp
  | succ i ih =>
   rw [List.range_succ,List.flatMap_append,List.length_append,Nat.succ_mul]
   have := hB i
   simp only [List.flatMap_cons,List.flatMap_nil,List.append_nil,List.length_map]
   omega
 have h1 := h i
 have h2 := hB i
 unfold partG
 rw [List.length_append,List.length_map,List.length_take,Nat.succ_mul]
 have := Nat.min_le_right k (g i).length
 omega
end
section
variable {h H : List AObj} {K : Value → List AObj → Prop} {KV : Value → Prop} {HL : List AObj → Prop} {n0 : Nat}
theorem fill_one {m : List Value} {o s : Nat} {v : Value} {l : List Value} {ps : List (Nat × Nat × Value)} {KL : List Value → Prop} (hv : v.cells.toList = l) (hs : l.length = s) (ho : l.all one = true) (hl : o + s ≤ m.length) (hk : aFill (wrAt m o l) ps KL) : aFill m ((o,s,v) :: ps) KL := by
 subst hv
 exact ⟨hs,ho,hl,hk⟩
theorem ownX_app {s len m : Nat} {cs e : List Value} {v y : Value} {o : Option Nat} (ho : OwnX H s cs len v o) (hs : 0 < s) (hl : len + m < 1000) (hm : 0 < m) (hy : Sli H y s m e)
  (hk : ∀ v' H' p,p = H.length → OwnX H' s (cs ++ e) (len + m) v' (some p) → SameX o.toList H H' → H'.length = p + 1 → K v' H') : aApp s v y H K := by
 have hr : room = 1073741824 := rfl
 have hel := sli_vlen hy
 have hek : kn e = true := by
  obtain ⟨_,_,_,⟨_,h⟩,_⟩ := hy
  exact h
 have new : ∀ H1 : List AObj,H1.length = H.length → SameX o.toList H H1 → cs.length = len * s → kn cs = true → K (.slice (some ⟨H.length,0,none⟩) (len + m) fz) (H1 ++ [.cells (cs ++ e) true s]) := by
  intro H1 hH1 S h1 h2
  refine hk _ _ H.length rfl ⟨?_,?_,.inr ⟨H.length,fz,s,rfl,rfl,by simp [← hH1],.inl ⟨rfl,rfl⟩⟩⟩ ?_ (by simp [hH1])
  ·rw [List.length_append,hel,h1,Nat.add_mul]
  ·unfold kn at *
   rw [List.all_append,h2,hek]
   rfl
  ·exact S.app
 obtain ⟨h1,h2,⟨rfl,rfl,rfl⟩ | ⟨i,c,sz,rfl,rfl,h5,h6⟩⟩ := ho
 ·have hcs : cs = [] := List.length_eq_zero_iff.1 (by omega)
  subst hcs
  refine app_nil hs hy (by omega) (fun e => absurd e (by omega)) fun _ => ?_
  have := new H rfl SameX.refl h1 h2
  simpa using this
 ·have hlt := (List.getElem?_eq_some_iff.1 h5).1
  have ht : cs.take (len * s) = cs := List.take_of_length_le (by omega)
  rcases h6 with ⟨rfl,rfl⟩ | rfl
  ·refine app_own (cs := cs) h5 (by omega) (by rw [ht]; exact h2) hs hy (by omega) ?_
   rw [ht]
   exact new _ (by simp) (SameX.refl.set (.inl (by simp))) h1 h2
  ·refine app_copy (cs := cs) h5 (by omega) (by rw [List.drop_zero,ht]; exact h2) (by omega) hs hy (by omega) ?_
   rw [List.drop_zero,ht]
   exact new H rfl SameX.refl h1 h2
theorem OwnL.get {n i : Nat} {v : Value} {ls : List (List Int)} {o : Option Nat} (a : OwnL n H v ls o) {l : List Int} (hl : ls[i]? = some l) {K2 : Value → Value → Prop} (hK : ∀ p lv b,OwnX H 1 (l.map vint) l.length lv b → (∀ j,b = some j → n ≤ j) → K2 p lv) : aIdx 1 v (vint (i : Nat)) fun p => aLoad false 1 p H (K2 p) := by
 obtain ⟨h1,cs,O,he⟩ := a
 obtain ⟨lv,b,e1,e2,e3⟩ := he i l hl
 have hi := (List.getElem?_eq_some_iff.1 hl).1
 exact idx_load (ownX_sli O) ⟨by omega,by omega⟩ (by rw [Int.toNat_natCast]; exact e1) fun p => hK p lv b e2 fun j hj => (e3 j hj).2
theorem app_zero {x y : Value} {p : Nat} (hp : H[p]? = some (.cells [x] true 0)) (hk : kn1 x = true) (hy : Sli H y 1 0 []) (hK : K (.slice (some ⟨p,0,none⟩) 1 1) H) : aApp 1 (.slice (some ⟨p,0,none⟩) 1 1) y H K := by
 have hfz : (1000 : Nat) < fz := by decide
 have hrm : (2000 : Nat) < room := by decide
 obtain ⟨yb,yc,rfl,hyk,hh⟩ := id hy
 refine ⟨by omega,src_sli hy (by omega) ?_⟩
 simp only [hp]
 refine ⟨⟨by simp,by simp [kn]; exact hk⟩,fun _ => ⟨fun _ => ⟨trivial,by simp,?_⟩,fun h => absurd h (by omega)⟩,fun h => absurd h (by omega)⟩
 have e : H.set p (.cells (wrAt [x] (0 + 1 * 1) []) true 0) = H := by
  apply List.ext_getElem?
  intro i
  rw [List.getElem?_set]
  split
  ·rename_i e
   subst e
   rw [if_pos (lt_of_get hp)]
   simpa [wrAt] using hp.symm
  ·rfl
 rw [e]
 exact hK
theorem app_cons {He : List AObj} {pe : Nat} {x : Int} {w : List Int} {lv : Value} (ce : He[pe]? = some (.cells [vint x] true 0)) (hw : Sli He lv 1 w.length (w.map vint)) (hwl : w.length < 900)
  (hK : ∀ H' wv b,SameX [pe] He H' → OwnX H' 1 ((x :: w).map vint) (x :: w).length wv (some b) → (b = pe ∨ He.length ≤ b) → K wv H') : aApp 1 (.slice (some ⟨pe,0,none⟩) 1 1) lv He K := by
 have Op := ownX_new (s := 1) (n := 1) (l := [vint x]) ce rfl rfl
 by_cases h0 : w.length = 0
 ·have : w = [] := List.length_eq_zero_iff.1 h0
  subst this
  exact app_zero ce rfl hw (hK He _ pe SameX.refl Op (.inl rfl))
 ·refine ownX_app Op (by omega) (by omega) (by omega) hw fun v8 H9 p9 e9 O9 S9 l9 => hK H9 v8 p9 S9 ?_ (.inr (by omega))
  have e1 : (x :: w).length = 1 + w.length := by simp; omega
  rw [e1]
  exact O9
theorem OwnL.more {lo : Nat} {H : List AObj} {ls : List (List Int)} {o : Option Nat} {v y wv : Value} {l : List Int} {bf : Nat} {K : Value → List AObj → Prop}
  (L : OwnL lo H v ls o) (hlo : lo ≤ H.length) (hpl : ls.length < 900) (Of : OwnX H 1 (l.map vint) l.length wv (some bf)) (hbf : lo ≤ bf) (hne : some bf ≠ o) (hyv : Sli H y 1 1 [wv])
  (hK : ∀ v' H' o',SameX o.toList H H' → OwnL lo H' v' (ls ++ [l]) (some o') → H.length ≤ o' → v' ≠ unk → K v' H') : aApp 1 v y H K := by
 obtain ⟨hl0,cs,Oc,he⟩ := L
 have bfl := ownX_lt Of bf rfl
 refine ownX_more Oc (by omega) (by omega) hyv fun v' Hh ph eh Oh Sh => ?_
 have hno : ∀ j,some j ≠ o → j ∉ o.toList := fun j hj hm => hj (by rw [Option.mem_toList.1 hm])
 refine hK v' Hh ph Sh ⟨fun j hj => by cases hj; omega,cs ++ [wv],by rw [List.length_append]; exact Oh,fun m l' hl => ?_⟩ (by omega) ?_
 ·have hcl : cs.length = ls.length := by have := Oc.1; omega
  rcases Nat.lt_or_ge m ls.length with hm | hm
  ·rw [List.getElem?_append_left hm] at hl
   obtain ⟨lv2,b2,e2,e3,e4⟩ := he m l' hl
   refine ⟨lv2,b2,by rw [List.getElem?_append_left (by omega)]; exact e2,ownX_keep e3 Sh fun j hj => hno j (e4 j hj).1,fun j hj => ⟨?_,(e4 j hj).2⟩⟩
   have := ownX_lt e3 j hj
   intro e
   injection e with e
   omega
  ·rw [List.getElem?_append_right hm] at hl
   have hm0 : m - ls.length = 0 := by
    have := (List.getElem?_eq_some_iff.1 hl).1
    simp at this
    omega
   rw [hm0] at hl
   have : l' = l := by simpa using hl.symm
   subst this
   refine ⟨wv,some bf,by rw [List.getElem?_append_right (by omega),hcl,hm0]; rfl,ownX_keep Of Sh fun j hj => ?_,fun j hj => ?_⟩
   ·cases hj
    exact hno _ hne
   ·cases hj
    refine ⟨fun e => ?_,hbf⟩
    injection e with e
    omega
 ·have := (ownX_val Oh).2.2
  intro e
  rw [e] at this
  cases this
theorem one_nil {lo : Nat} {p : Nat} (c : H[p]? = some (.cells [.slice none 0 0] true 0)) (hp : lo ≤ p) : OwnL lo H (.slice (some ⟨p,0,none⟩) 1 1) [[]] (some p) := by
 refine ⟨fun j hj => by cases hj; exact hp,_,ownX_new (s := 1) (n := 1) c rfl rfl,fun i l hl => ?_⟩
 cases i with
 | zero =>
  have : l = [] := by simpa using hl.symm
  subst this
  exact ⟨_,none,rfl,⟨rfl,rfl,.inl ⟨rfl,rfl,rfl⟩⟩,by simp⟩
 | succ i => simp at hl
theorem OwnL.nil {lo : Nat} : OwnL lo H (.slice none 0 0) [] none := ⟨by simp,[],⟨rfl,rfl,.inl ⟨rfl,rfl,rfl⟩⟩,by simp⟩
theorem OwnL.lo {n m : Nat} {v : Value} {ls : List (List Int)} {o : Option Nat} (a : OwnL n H v ls o) (h : m ≤ n) : OwnL m H v ls o := by
 obtain ⟨a1,cs,a2,a3⟩ := a
 exact ⟨fun j hj => by have := a1 j hj; omega,cs,a2,fun i l hl => by
  obtain ⟨lv,b,q1,q2,q3⟩ := a3 i l hl
  exact ⟨lv,b,q1,q2,fun j hj => ⟨(q3 j hj).1,by have := (q3 j hj).2; omega⟩⟩⟩
theorem OwnL.lt {n : Nat} {v : Value} {ls : List (List Int)} {o : Option Nat} (a : OwnL n H v ls o) : ∀ j,o = some j → n ≤ j ∧ j < H.length := fun j hj => ⟨a.1 j hj,ownX_lt a.2.choose_spec.1 j hj⟩
theorem OwnL.sli {n : Nat} {v : Value} {ls : List (List Int)} {o : Option Nat} (a : OwnL n H v ls o) : ∃ cs,Sli H v 1 ls.length cs := ⟨_,ownX_sli a.2.choose_spec.1⟩
theorem OwnL.nunk {n : Nat} {v : Value} {ls : List (List Int)} {o : Option Nat} (a : OwnL n H v ls o) : v ≠ unk := by
 have := (ownX_val a.2.choose_spec.1).2.2
 intro e
 rw [e] at this
 cases this
end
def wordsR (F : Nat) : Nat → List (List Int)
 | 0 => [[]]
 | n + 1 => (List.range F).flatMap fun (i : Nat) => (wordsR F n).map ((i : Int) :: ·)
theorem wordsR_len {F : Nat} : ∀ n,(wordsR F n).length = F ^ n
 | 0 => rfl
 | n + 1 => by
  have h : ∀ i,((List.range i).flatMap fun (i : Nat) => (wordsR F n).map ((i : Int) :: ·)).length = i * F ^ n := by
   intro i
   induction i with
   | zero => simp
   | succ i ih => rw [List.range_succ,List.flatMap_append,List.length_append,ih]; simp [wordsR_len n,Nat.add_mul]
  show ((List.range F).flatMap _).length = _
  rw [h,Nat.pow_succ,Nat.mul_comm]
theorem words_of {F : Nat} : ∀ {n : Nat} {w : List Int},w ∈ wordsR F n → w.length = n ∧ ∀ x ∈ w,0 ≤ x ∧ x < F
 | 0,w,h => by
  have : w = [] := by simpa [wordsR] using h
  subst this
  simp
 | n + 1,w,h => by
  unfold wordsR at h
  obtain ⟨i,hi,h⟩ := List.mem_flatMap.1 h
  obtain ⟨u,hu,rfl⟩ := List.mem_map.1 h
  have hi := List.mem_range.1 hi
  obtain ⟨a,b⟩ := words_of hu
  refine ⟨by simp [a],fun x hx => ?_⟩
  rcases List.mem_cons.1 hx with rfl | hx
  ·omega
  ·exact b x hx
section
variable {main : Bool} {J : JT}
theorem good39 (hJ : Closed prog main J) {F : Nat} (hF : 1 ≤ F ∧ F ≤ 3) : ∀ (n : Nat) {H : List AObj} {K : Value → List AObj → Prop},n ≤ 8 → F ^ n ≤ 243 →
  (∀ H' v o,SameX [] H H' → OwnL H.length H' v (wordsR F n) o → v ≠ unk → K v H') → Good prog J 39 [vint (F : Nat),vint (n : Nat)] H K
 | 0,H,K,_,_,hK => by
  refine g39 hJ fun ok => ?_
  rw [e39]
  refine eqlI (cndI (fun _ => ?_) fun hx => absurd rfl hx)
  refine ⟨by decide,fill_one (l := [.slice none 0 0]) rfl rfl rfl (by decide) (fillI (qNew fun H1 p1 e1 S1 c1 l1 => retL_same (by simp [unk]) ?_))⟩
  have L : OwnL H.length H1 (.slice (some ⟨p1,0,none⟩) 1 1) (wordsR F 0) (some p1) := one_nil (lo := H.length) (p := p1) c1 (by omega)
  exact hK H1 _ _ S1 L L.nunk
 | n + 1,H,K,hn,hb,hK => by
  refine g39 hJ fun ok => ?_
  rw [e39]
  refine eqlI (cndI (fun hx => absurd hx (by omega)) fun _ => subI (by omega) ?_)
  rw [show (((n + 1 : Nat) : Int) - 1) = ((n : Nat) : Int) by omega]
  have hbd : F ^ n ≤ 243 := Nat.le_trans (Nat.pow_le_pow_right hF.1 (by omega)) hb
  have hlen := wordsR_len (F := F) n
  refine good39 hJ hF n (by omega) hbd fun H1 av ao S1 A1 _ => ?_
  refine l39_1 hJ (fun i : Nat => F - i) (fun i Fr H' => ∃ v o,SameX [] H1 H' ∧ i ≤ F ∧ OwnL H1.length H' v (partG (fun j => (j : Int)) (fun _ => wordsR F n) i 0) o ∧ Fr.ds = [] ∧ Fr.r 0 = vint (F : Nat) ∧ Fr.r 5 = v ∧ Fr.r 6 = av ∧ Fr.r 7 = vint (i : Nat)) ?_ (s := 0)
   (.inl ⟨.slice none 0 0,none,SameX.refl,by omega,by rw [partG_zero]; exact OwnL.nil,rfl,rfl,rfl,rfl,rfl⟩)
  rintro i Fr Hc ⟨v,o,Sc,hi,Lc,ds,r0,r5,r6,r7⟩ okc hnc
  rw [s39_1,r0,r5,r7,ds]
  refine lssI (cndI (fun hlt => ?_) fun hge => ?_)
  rotate_left
  ·have : i = F := by omega
   subst this
   rw [partG_zero] at Lc
   exact retL_same (by simpa using Lc.nunk) (hK Hc v o (S1.trans Sc) (Lc.lo S1.1) Lc.nunk)
  have hiF : i < F := by omega
  refine l39_2 hJ (fun k : Nat => (wordsR F n).length - k) (fun k Fr H' => ∃ v o,SameX [] H1 H' ∧ k ≤ (wordsR F n).length ∧ OwnL H1.length H' v (partG (fun j => (j : Int)) (fun _ => wordsR F n) i k) o ∧ Fr.ds = [] ∧ Fr.r 0 = vint (F : Nat) ∧ Fr.r 5 = v ∧ Fr.r 6 = av ∧ Fr.r 7 = vint (i : Nat) ∧ Fr.r 8 = vint (k : Nat)) ?_ (s := 0)
   (.inl ⟨v,o,Sc,by omega,Lc,ds,r0,r5,r6,r7,rfl⟩)
  clear ds r0 r5 r6 r7 okc hnc
  rintro k Fr Hd ⟨v,o,Sd,hk,Ld,ds,r0,r5,r6,r7,r8⟩ okd hnd
  have Ad := A1.keep Sd
  obtain ⟨ac,sA⟩ := Ad.sli
  rw [s39_2,r5,r6,r7,r8]
  refine lenI sA (lssI (cndI (fun hlt3 => ?_) fun hge3 => ?_))
  rotate_left
  ·have hke : k = (wordsR F n).length := by omega
   subst hke
   refine addI (by omega) ⟨i + 1,by dsimp only; omega,.inl ⟨v,o,Sd,by omega,?_,ds,r0,r5,r6,?_⟩⟩
   ·have e := partG_all (hd := fun j => (j : Int)) (g := fun _ => wordsR F n) (i := i)
    rw [← e]
    exact Ld
   ·show vint _ = vint _
    congr 1
  have hkl : k < (wordsR F n).length := by omega
  obtain ⟨w,hw⟩ : ∃ w,(wordsR F n)[k]? = some w := ⟨_,List.getElem?_eq_getElem hkl⟩
  have hwl := (words_of (List.mem_of_getElem? hw)).1
  have hSd := Sd.1
  have hld := Ld.lt
  refine ⟨by decide,fill_one (l := [vint (i : Nat)]) rfl rfl rfl (by decide) (fillI (qNew fun He pe ee Se ce le => ?_))⟩
  have ce : He[pe]? = some (.cells [vint (i : Nat)] true 0) := ce
  refine (Ad.keep Se).get hw fun q wv bw Ow _ => ⟨by decide,app_cons ce (ownX_sli Ow) (by omega) fun Hf wv2 bf Sf Of hbf => ?_⟩
  have hSe := Se.1
  have Tf : SameX [] Hd Hf := Se.thru Sf (by simp; omega)
  have hbfl := ownX_lt Of bf rfl
  obtain ⟨w1,w2,w3⟩ := ownX_val Of
  refine ⟨by decide,fill_one (l := [wv2]) (by rw [w1]) rfl (by simp [w2]) (by decide) (fillI (qNew fun Hg pg eg Sg cg lg => ⟨by decide,?_⟩))⟩
  have cg : Hg[pg]? = some (.cells [wv2] true 0) := cg
  have Tg := Tf.trans Sg
  have hpl := partG_le (hd := fun j => (j : Int)) (g := fun _ => wordsR F n) (i := i) (k := k) (B := 243) (fun _ => by omega)
  refine ((Ld.keep Tg).more (by have := Tg.1; omega) (by omega) (ownX_keep Of Sg (by simp)) (by omega) (fun e => by have := hld bf e.symm; omega) (ownX_sli (ownX_new (s := 1) (n := 1) (l := [wv2]) cg rfl (by simp [kn]; exact w3))) fun v' Hh o' Sh Lh ho' _ => ?_)
  refine addI (by omega) ⟨k + 1,by dsimp only; omega,.inl ⟨v',some o',(Sd.trans Tg).thru Sh (fun y hy => .inr (hld y (Option.mem_toList.1 hy)).1),by omega,?_,ds,r0,rfl,r6,r7,by show vint _ = vint _; congr 1⟩⟩
  have e := partG_succ (hd := fun j => (j : Int)) (g := fun _ => wordsR F n) (i := i) (k := k) hw
  rw [e]
  exact Lh
end
end Go.Proofs.Ytdbammacnfojdaa
namespace Go.Proofs.Ytdbammacnfojdaa
open Go.Conc Go.Proofs.Try
set_option maxRecDepth 100000
set_option maxHeartbeats 4000000
set_option linter.unusedVariables false
section
variable {main : Bool} {J : JT} {n0 : Nat} {h : List AObj} {K : Value → List AObj → Prop}
theorem at38 : prog.funcs[38]? = some f38 := by kernel_rfl
theorem body38 : f38.body = some (codeOf f38) := by kernel_rfl
def pl38 : Plans := []
def ct38 : Cuts := .go
theorem pok38 : plansOk prog pl38 (codeOf f38) = true := by kernel_rfl
theorem e38 {a0 a1 a2 : Value} : W prog J 15 h.length 38 (codeOf f38) (RG.mk (regs [a0,a1,a2]) []) h (RetQ prog [.tmp 6] h.length K) =
(aBin prog .geq 3 a0 a1 fun v1 =>
cnd v1
(aBin prog .leq 3 a0 a2 fun v2 =>
retL h.length K [] [v2] h)
(retL h.length K [] [(Value.bool false)] h)) := top_eq pok38 ct38 (by kernel_rfl)
theorem g38 (hJ : Closed prog main J) {a0 a1 a2 : Value} (hs : heapOk h → W prog J 15 h.length 38 (codeOf f38) (RG.mk (regs [a0,a1,a2]) []) h (RetQ prog [.tmp 6] h.length K)) : Good prog J 38 [a0,a1,a2] h K :=
 good_of_W hJ mixed at38 body38 (by kernel_rfl) (Nat.le_of_ble_eq_true rfl) hs
theorem at36 : prog.funcs[36]? = some f36 := by kernel_rfl
theorem body36 : f36.body = some (codeOf f36) := by kernel_rfl
def pl36 : Plans := []
def ct36 : Cuts := .bin (.go) (.bin (.bin (.go) (.cut (.go))) (.go))
theorem pok36 : plansOk prog pl36 (codeOf f36) = true := by kernel_rfl
theorem e36 {a0 : Value} : W prog J 43 h.length 36 (codeOf f36) (RG.mk (regs [a0]) []) h (RetQ prog [.tmp 2] h.length K) =
(aBox a0 h fun v1 h2 =>
aOff v1 1 fun v3 =>
aLoad false 1 v3 h2 fun v4 =>
Good prog J 38 [v4,(vint 1),(vint 99)] h2 fun v5 h6 =>
aUn .not v5 fun v7 =>
cnd v7
(Hold (W prog J 43 h.length 36 (subC [1,0,1] (codeOf f36)) (RG.p (RG.p (RG.p (RG.p (RG.p (RG.p (RG.p (RG.p (RG.p (RG.p (RG.p (RG.p (RG.p (RG.p (RG.p (RG.p (RG.p (RG.p (RG.p (RG.p (RG.p (RG.p (RG.p (RG.p (RG.p (RG.p (RG.p (RG.p (RG.p (RG.p (RG.p (RG.p (RG.p (RG.p (RG.p (RG.p (RG.p (RG.p (RG.p (RG.p (RG.p (RG.p (RG.p (RG.p (RG.p (RG.p (RG.p (RG.mk (regs [a0]) []) 1 v1) 2 (vint 0)) 3 v3) 4 v4) 5 v5) 6 v7) 7 v7) 7 (Value.bool true)) 8 undef) 9 undef) 10 undef) 11 undef) 12 undef) 13 undef) 14 (Value.bool true)) 15 (Value.bool true)) 15 (Value.bool true)) 16 undef) 17 undef) 18 undef) 19 undef) 20 (Value.bool true)) 21 (Value.bool true)) 21 (Value.bool true)) 22 undef) 23 undef) 24 undef) 25 undef) 26 undef) 27 undef) 28 (Value.bool true)) 29 (Value.bool true)) 29 (Value.bool true)) 30 undef) 31 undef) 32 undef) 33 undef) 34 undef) 35 undef) 36 (Value.bool true)) 37 (Value.bool true)) 37 (Value.bool true)) 38 undef) 39 undef) 40 undef) 41 undef) 42 (Value.bool true)) h6 (contX pl36 prog J 43 h.length 36 ct36 [1,0,1] (codeOf f36) [] (RetQ prog [.tmp 2] h.length K))))
(aOff v1 0 fun v8 =>
aLoad false 1 v8 h6 fun v9 =>
aOff v1 1 fun v10 =>
aLoad false 1 v10 h6 fun v11 =>
Good prog J 38 [v9,(vint 0),v11] h6 fun v12 h13 =>
aUn .not v12 fun v14 =>
cnd v14
(Hold (W prog J 43 h.length 36 (subC [1,0,1] (codeOf f36)) (RG.p (RG.p (RG.p (RG.p (RG.p (RG.p (RG.p (RG.p (RG.p (RG.p (RG.p (RG.p (RG.p (RG.p (RG.p (RG.p (RG.p (RG.p (RG.p (RG.p (RG.p (RG.p (RG.p (RG.p (RG.p (RG.p (RG.p (RG.p (RG.p (RG.p (RG.p (RG.p (RG.p (RG.p (RG.p (RG.p (RG.p (RG.p (RG.p (RG.p (RG.p (RG.p (RG.p (RG.p (RG.p (RG.p (RG.p (RG.mk (regs [a0]) []) 1 v1) 2 (vint 0)) 3 v3) 4 v4) 5 v5) 6 v7) 7 v7) 7 (Value.bool false)) 8 v8) 9 v9) 10 v10) 11 v11) 12 v12) 13 v14) 14 v14) 15 v14) 15 (Value.bool true)) 16 undef) 17 undef) 18 undef) 19 undef) 20 (Value.bool true)) 21 (Value.bool true)) 21 (Value.bool true)) 22 undef) 23 undef) 24 undef) 25 undef) 26 undef) 27 undef) 28 (Value.bool true)) 29 (Value.bool true)) 29 (Value.bool true)) 30 undef) 31 undef) 32 undef) 33 undef) 34 undef) 35 undef) 36 (Value.bool true)) 37 (Value.bool true)) 37 (Value.bool true)) 38 undef) 39 undef) 40 undef) 41 undef) 42 (Value.bool true)) h13 (contX pl36 prog J 43 h.length 36 ct36 [1,0,1] (codeOf f36) [] (RetQ prog [.tmp 2] h.length K))))
(aOff v1 2 fun v15 =>
aLoad false 1 v15 h13 fun v16 =>
Good prog J 38 [v16,(vint 0),(vint 9)] h13 fun v17 h18 =>
aUn .not v17 fun v19 =>
cnd v19
(Hold (W prog J 43 h.length 36 (subC [1,0,1] (codeOf f36)) (RG.p (RG.p (RG.p (RG.p (RG.p (RG.p (RG.p (RG.p (RG.p (RG.p (RG.p (RG.p (RG.p (RG.p (RG.p (RG.p (RG.p (RG.p (RG.p (RG.p (RG.p (RG.p (RG.p (RG.p (RG.p (RG.p (RG.p (RG.p (RG.p (RG.p (RG.p (RG.p (RG.p (RG.p (RG.p (RG.p (RG.p (RG.p (RG.p (RG.p (RG.p (RG.p (RG.p (RG.p (RG.p (RG.p (RG.p (RG.mk (regs [a0]) []) 1 v1) 2 (vint 0)) 3 v3) 4 v4) 5 v5) 6 v7) 7 v7) 7 (Value.bool false)) 8 v8) 9 v9) 10 v10) 11 v11) 12 v12) 13 v14) 14 v14) 15 v14) 15 (Value.bool false)) 16 v15) 17 v16) 18 v17) 19 v19) 20 v19) 21 v19) 21 (Value.bool true)) 22 undef) 23 undef) 24 undef) 25 undef) 26 undef) 27 undef) 28 (Value.bool true)) 29 (Value.bool true)) 29 (Value.bool true)) 30 undef) 31 undef) 32 undef) 33 undef) 34 undef) 35 undef) 36 (Value.bool true)) 37 (Value.bool true)) 37 (Value.bool true)) 38 undef) 39 undef) 40 undef) 41 undef) 42 (Value.bool true)) h18 (contX pl36 prog J 43 h.length 36 ct36 [1,0,1] (codeOf f36) [] (RetQ prog [.tmp 2] h.length K))))
(aOff v1 3 fun v20 =>
aLoad false 1 v20 h18 fun v21 =>
aOff v1 2 fun v22 =>
aLoad false 1 v22 h18 fun v23 =>
Good prog J 38 [v21,v23,(vint 9)] h18 fun v24 h25 =>
aUn .not v24 fun v26 =>
cnd v26
(Hold (W prog J 43 h.length 36 (subC [1,0,1] (codeOf f36)) (RG.p (RG.p (RG.p (RG.p (RG.p (RG.p (RG.p (RG.p (RG.p (RG.p (RG.p (RG.p (RG.p (RG.p (RG.p (RG.p (RG.p (RG.p (RG.p (RG.p (RG.p (RG.p (RG.p (RG.p (RG.p (RG.p (RG.p (RG.p (RG.p (RG.p (RG.p (RG.p (RG.p (RG.p (RG.p (RG.p (RG.p (RG.p (RG.p (RG.p (RG.p (RG.p (RG.p (RG.p (RG.p (RG.p (RG.p (RG.mk (regs [a0]) []) 1 v1) 2 (vint 0)) 3 v3) 4 v4) 5 v5) 6 v7) 7 v7) 7 (Value.bool false)) 8 v8) 9 v9) 10 v10) 11 v11) 12 v12) 13 v14) 14 v14) 15 v14) 15 (Value.bool false)) 16 v15) 17 v16) 18 v17) 19 v19) 20 v19) 21 v19) 21 (Value.bool false)) 22 v20) 23 v21) 24 v22) 25 v23) 26 v24) 27 v26) 28 v26) 29 v26) 29 (Value.bool true)) 30 undef) 31 undef) 32 undef) 33 undef) 34 undef) 35 undef) 36 (Value.bool true)) 37 (Value.bool true)) 37 (Value.bool true)) 38 undef) 39 undef) 40 undef) 41 undef) 42 (Value.bool true)) h25 (contX pl36 prog J 43 h.length 36 ct36 [1,0,1] (codeOf f36) [] (RetQ prog [.tmp 2] h.length K))))
(aOff v1 4 fun v27 =>
aLoad false 1 v27 h25 fun v28 =>
aOff v1 1 fun v29 =>
aLoad false 1 v29 h25 fun v30 =>
Good prog J 38 [v28,(vint 0),v30] h25 fun v31 h32 =>
aUn .not v31 fun v33 =>
cnd v33
(Hold (W prog J 43 h.length 36 (subC [1,0,1] (codeOf f36)) (RG.p (RG.p (RG.p (RG.p (RG.p (RG.p (RG.p (RG.p (RG.p (RG.p (RG.p (RG.p (RG.p (RG.p (RG.p (RG.p (RG.p (RG.p (RG.p (RG.p (RG.p (RG.p (RG.p (RG.p (RG.p (RG.p (RG.p (RG.p (RG.p (RG.p (RG.p (RG.p (RG.p (RG.p (RG.p (RG.p (RG.p (RG.p (RG.p (RG.p (RG.p (RG.p (RG.p (RG.p (RG.p (RG.p (RG.p (RG.mk (regs [a0]) []) 1 v1) 2 (vint 0)) 3 v3) 4 v4) 5 v5) 6 v7) 7 v7) 7 (Value.bool false)) 8 v8) 9 v9) 10 v10) 11 v11) 12 v12) 13 v14) 14 v14) 15 v14) 15 (Value.bool false)) 16 v15) 17 v16) 18 v17) 19 v19) 20 v19) 21 v19) 21 (Value.bool false)) 22 v20) 23 v21) 24 v22) 25 v23) 26 v24) 27 v26) 28 v26) 29 v26) 29 (Value.bool false)) 30 v27) 31 v28) 32 v29) 33 v30) 34 v31) 35 v33) 36 v33) 37 v33) 37 (Value.bool true)) 38 undef) 39 undef) 40 undef) 41 undef) 42 (Value.bool true)) h32 (contX pl36 prog J 43 h.length 36 ct36 [1,0,1] (codeOf f36) [] (RetQ prog [.tmp 2] h.length K))))
(aOff v1 5 fun v34 =>
aLoad false 1 v34 h32 fun v35 =>
Good prog J 38 [v35,(vint 0),(vint 5)] h32 fun v36 h37 =>
aUn .not v36 fun v38 =>
Hold (W prog J 43 h.length 36 (subC [1,0,1] (codeOf f36)) (RG.p (RG.p (RG.p (RG.p (RG.p (RG.p (RG.p (RG.p (RG.p (RG.p (RG.p (RG.p (RG.p (RG.p (RG.p (RG.p (RG.p (RG.p (RG.p (RG.p (RG.p (RG.p (RG.p (RG.p (RG.p (RG.p (RG.p (RG.p (RG.p (RG.p (RG.p (RG.p (RG.p (RG.p (RG.p (RG.p (RG.p (RG.p (RG.p (RG.p (RG.p (RG.p (RG.p (RG.p (RG.p (RG.p (RG.p (RG.mk (regs [a0]) []) 1 v1) 2 (vint 0)) 3 v3) 4 v4) 5 v5) 6 v7) 7 v7) 7 (Value.bool false)) 8 v8) 9 v9) 10 v10) 11 v11) 12 v12) 13 v14) 14 v14) 15 v14) 15 (Value.bool false)) 16 v15) 17 v16) 18 v17) 19 v19) 20 v19) 21 v19) 21 (Value.bool false)) 22 v20) 23 v21) 24 v22) 25 v23) 26 v24) 27 v26) 28 v26) 29 v26) 29 (Value.bool false)) 30 v27) 31 v28) 32 v29) 33 v30) 34 v31) 35 v33) 36 v33) 37 v33) 37 (Value.bool false)) 38 v34) 39 v35) 40 v36) 41 v38) 42 v38) h37 (contX pl36 prog J 43 h.length 36 ct36 [1,0,1] (codeOf f36) [] (RetQ prog [.tmp 2] h.length K))))))))) := top_eq pok36 ct36 (by kernel_rfl)
theorem g36 (hJ : Closed prog main J) {a0 : Value} (hs : heapOk h → W prog J 43 h.length 36 (codeOf f36) (RG.mk (regs [a0]) []) h (RetQ prog [.tmp 2] h.length K)) : Good prog J 36 [a0] h K :=
 good_of_W hJ mixed at36 body36 (by kernel_rfl) (Nat.le_of_ble_eq_true rfl) hs
theorem s36_1 {f : RG} : W prog J 43 n0 36 (subC [1,0,1] (codeOf f36)) f h (contX pl36 prog J 43 n0 36 ct36 [1,0,1] (codeOf f36) [] (RetQ prog [.tmp 2] n0 K)) =
(cnd (f.r 42)
(retL n0 K f.ds [(vint 1)] h)
(retL n0 K f.ds [(vint 0)] h)) := sub_eq pok36 ct36 (by kernel_rfl)
theorem at37 : prog.funcs[37]? = some f37 := by kernel_rfl
theorem body37 : f37.body = some (codeOf f37) := by kernel_rfl
def pl37 : Plans := []
def ct37 : Cuts := .bin (.go) (.bin (.bin (.go) (.cut (.go))) (.go))
theorem pok37 : plansOk prog pl37 (codeOf f37) = true := by kernel_rfl
theorem e37 {a0 : Value} : W prog J 23 h.length 37 (codeOf f37) (RG.mk (regs [a0]) []) h (RetQ prog [.tmp 2] h.length K) =
(aBox a0 h fun v1 h2 =>
aOff v1 0 fun v3 =>
aLoad false 1 v3 h2 fun v4 =>
Good prog J 38 [v4,(vint 1),(vint 8)] h2 fun v5 h6 =>
aUn .not v5 fun v7 =>
cnd v7
(Hold (W prog J 23 h.length 37 (subC [1,0,1] (codeOf f37)) (RG.p (RG.p (RG.p (RG.p (RG.p (RG.p (RG.p (RG.p (RG.p (RG.p (RG.p (RG.p (RG.p (RG.p (RG.p (RG.p (RG.p (RG.p (RG.p (RG.p (RG.p (RG.p (RG.p (RG.p (RG.mk (regs [a0]) []) 1 v1) 2 (vint 0)) 3 v3) 4 v4) 5 v5) 6 v7) 7 v7) 7 (Value.bool true)) 8 undef) 9 undef) 10 undef) 11 undef) 12 undef) 13 undef) 14 (Value.bool true)) 15 (Value.bool true)) 15 (Value.bool true)) 16 undef) 17 undef) 18 undef) 19 undef) 20 undef) 21 undef) 22 (Value.bool true)) h6 (contX pl37 prog J 23 h.length 37 ct37 [1,0,1] (codeOf f37) [] (RetQ prog [.tmp 2] h.length K))))
(aOff v1 1 fun v8 =>
aLoad false 1 v8 h6 fun v9 =>
aOff v1 0 fun v10 =>
aLoad false 1 v10 h6 fun v11 =>
Good prog J 38 [v9,(vint 1),v11] h6 fun v12 h13 =>
aUn .not v12 fun v14 =>
cnd v14
(Hold (W prog J 23 h.length 37 (subC [1,0,1] (codeOf f37)) (RG.p (RG.p (RG.p (RG.p (RG.p (RG.p (RG.p (RG.p (RG.p (RG.p (RG.p (RG.p (RG.p (RG.p (RG.p (RG.p (RG.p (RG.p (RG.p (RG.p (RG.p (RG.p (RG.p (RG.p (RG.mk (regs [a0]) []) 1 v1) 2 (vint 0)) 3 v3) 4 v4) 5 v5) 6 v7) 7 v7) 7 (Value.bool false)) 8 v8) 9 v9) 10 v10) 11 v11) 12 v12) 13 v14) 14 v14) 15 v14) 15 (Value.bool true)) 16 undef) 17 undef) 18 undef) 19 undef) 20 undef) 21 undef) 22 (Value.bool true)) h13 (contX pl37 prog J 23 h.length 37 ct37 [1,0,1] (codeOf f37) [] (RetQ prog [.tmp 2] h.length K))))
(aOff v1 2 fun v15 =>
aLoad false 1 v15 h13 fun v16 =>
aOff v1 0 fun v17 =>
aLoad false 1 v17 h13 fun v18 =>
Good prog J 38 [v16,(vint 1),v18] h13 fun v19 h20 =>
aUn .not v19 fun v21 =>
Hold (W prog J 23 h.length 37 (subC [1,0,1] (codeOf f37)) (RG.p (RG.p (RG.p (RG.p (RG.p (RG.p (RG.p (RG.p (RG.p (RG.p (RG.p (RG.p (RG.p (RG.p (RG.p (RG.p (RG.p (RG.p (RG.p (RG.p (RG.p (RG.p (RG.p (RG.p (RG.mk (regs [a0]) []) 1 v1) 2 (vint 0)) 3 v3) 4 v4) 5 v5) 6 v7) 7 v7) 7 (Value.bool false)) 8 v8) 9 v9) 10 v10) 11 v11) 12 v12) 13 v14) 14 v14) 15 v14) 15 (Value.bool false)) 16 v15) 17 v16) 18 v17) 19 v18) 20 v19) 21 v21) 22 v21) h20 (contX pl37 prog J 23 h.length 37 ct37 [1,0,1] (codeOf f37) [] (RetQ prog [.tmp 2] h.length K)))))) := top_eq pok37 ct37 (by kernel_rfl)
theorem g37 (hJ : Closed prog main J) {a0 : Value} (hs : heapOk h → W prog J 23 h.length 37 (codeOf f37) (RG.mk (regs [a0]) []) h (RetQ prog [.tmp 2] h.length K)) : Good prog J 37 [a0] h K :=
 good_of_W hJ mixed at37 body37 (by kernel_rfl) (Nat.le_of_ble_eq_true rfl) hs
theorem s37_1 {f : RG} : W prog J 23 n0 37 (subC [1,0,1] (codeOf f37)) f h (contX pl37 prog J 23 n0 37 ct37 [1,0,1] (codeOf f37) [] (RetQ prog [.tmp 2] n0 K)) =
(cnd (f.r 22)
(retL n0 K f.ds [(vint 1)] h)
(retL n0 K f.ds [(vint 0)] h)) := sub_eq pok37 ct37 (by kernel_rfl)
theorem at87 : prog.funcs[87]? = some f87 := by kernel_rfl
theorem body87 : f87.body = some (codeOf f87) := by kernel_rfl
def pl87 : Plans := []
def ct87 : Cuts := .bin (.go) (.bin (.go) (.bin (.go) (.bin (.bin (.go) (.cut (.go))) (.go))))
theorem pok87 : plansOk prog pl87 (codeOf f87) = true := by kernel_rfl
theorem e87 {a0 a1 a2 a3 : Value} : W prog J 58 h.length 87 (codeOf f87) (RG.mk (regs [a0,a1,a2,a3]) []) h (RetQ prog [.cell 8 152,.tmp 9,.tmp 10] h.length K) =
(aBox a0 h fun v1 h2 =>
aBox a1 h2 fun v3 h4 =>
aAlloc [(vint 0),(vint 0)] h4 fun v5 h6 =>
aOff v3 0 fun v7 =>
aLoad false 1 v7 h6 fun v8 =>
aBin prog .lss 3 v8 a2 fun v9 =>
aOff v3 0 fun v10 =>
aLoad false 1 v10 h6 fun v11 =>
aBin prog .sub 3 v11 a2 fun v12 =>
aMax (vint 0) [v12] fun v13 =>
aBin prog .gtr 3 a2 (vint 0) fun v14 =>
cnd v14
(aOff v1 4 fun v15 =>
aLoad false 1 v15 h6 fun v16 =>
aBin prog .lss 3 v13 v16 fun v17 =>
Hold (W prog J 58 h.length 87 (subC [1,1,1,0,1] (codeOf f87)) (RG.p (RG.p (RG.p (RG.p (RG.p (RG.p (RG.p (RG.p (RG.p (RG.p (RG.p (RG.p (RG.p (RG.p (RG.p (RG.p (RG.p (RG.p (RG.p (RG.p (RG.p (RG.p (RG.p (RG.p (RG.p (RG.mk (regs [a0,a1,a2,a3]) []) 4 v1) 5 v3) 8 v5) 9 (Value.bool false)) 10 (Value.bool false)) 14 v7) 15 v8) 16 a2) 17 v9) 11 v9) 18 v10) 19 v11) 20 a2) 21 v12) 22 v13) 12 v13) 23 a2) 24 v14) 25 v14) 25 (Value.bool true)) 26 v13) 27 v15) 28 v16) 29 v17) 30 v17) h6 (contX pl87 prog J 58 h.length 87 ct87 [1,1,1,0,1] (codeOf f87) [] (RetQ prog [.cell 8 152,.tmp 9,.tmp 10] h.length K))))
(Hold (W prog J 58 h.length 87 (subC [1,1,1,0,1] (codeOf f87)) (RG.p (RG.p (RG.p (RG.p (RG.p (RG.p (RG.p (RG.p (RG.p (RG.p (RG.p (RG.p (RG.p (RG.p (RG.p (RG.p (RG.p (RG.p (RG.p (RG.p (RG.p (RG.p (RG.p (RG.p (RG.p (RG.mk (regs [a0,a1,a2,a3]) []) 4 v1) 5 v3) 8 v5) 9 (Value.bool false)) 10 (Value.bool false)) 14 v7) 15 v8) 16 a2) 17 v9) 11 v9) 18 v10) 19 v11) 20 a2) 21 v12) 22 v13) 12 v13) 23 a2) 24 v14) 25 v14) 25 (Value.bool false)) 26 undef) 27 undef) 28 undef) 29 undef) 30 (Value.bool false)) h6 (contX pl87 prog J 58 h.length 87 ct87 [1,1,1,0,1] (codeOf f87) [] (RetQ prog [.cell 8 152,.tmp 9,.tmp 10] h.length K))))) := top_eq pok87 ct87 (by kernel_rfl)
theorem g87 (hJ : Closed prog main J) {a0 a1 a2 a3 : Value} (hs : heapOk h → W prog J 58 h.length 87 (codeOf f87) (RG.mk (regs [a0,a1,a2,a3]) []) h (RetQ prog [.cell 8 152,.tmp 9,.tmp 10] h.length K)) : Good prog J 87 [a0,a1,a2,a3] h K :=
 good_of_W hJ mixed at87 body87 (by kernel_rfl) (Nat.le_of_ble_eq_true rfl) hs
theorem s87_1 {f : RG} : W prog J 58 n0 87 (subC [1,1,1,0,1] (codeOf f87)) f h (contX pl87 prog J 58 n0 87 ct87 [1,1,1,0,1] (codeOf f87) [] (RetQ prog [.cell 8 152,.tmp 9,.tmp 10] n0 K)) =
(cnd (f.r 30)
(aOff (f.r 4) 5 fun v1 =>
aLoad false 1 v1 h fun v2 =>
aFill [(vint 0),(vint 0)] [(0,1,(f.r 12)),(1,1,v2)] fun c3 =>
aStore 2 (f.r 8) (Value.agg ⟨c3⟩) h fun h4 =>
RetQ prog [.cell 8 152,.tmp 9,.tmp 10] n0 K .ret (RG.p (RG.p (RG.p (RG.p (RG.p (RG.p (RG.p f 31 (f.r 12)) 32 v1) 33 v2) 34 (Value.agg ⟨c3⟩)) 35 (f.r 11)) 9 (Value.bool true)) 10 (f.r 11)) h4)
(aOff (f.r 5) 1 fun v5 =>
aLoad false 1 v5 h fun v6 =>
aBin prog .gtr 3 v6 (vint 0) fun v7 =>
cnd v7
(aOff (f.r 5) 1 fun v8 =>
aLoad false 1 v8 h fun v9 =>
aBin prog .sub 3 v9 (vint 1) fun v10 =>
aFill [(vint 0),(vint 0)] [(0,1,(f.r 12)),(1,1,v10)] fun c11 =>
aStore 2 (f.r 8) (Value.agg ⟨c11⟩) h fun h12 =>
RetQ prog [.cell 8 152,.tmp 9,.tmp 10] n0 K .ret (RG.p (RG.p (RG.p (RG.p (RG.p (RG.p (RG.p (RG.p (RG.p (RG.p (RG.p f 36 v5) 37 v6) 38 v7) 39 (f.r 12)) 40 v8) 41 v9) 42 v10) 43 (Value.agg ⟨c11⟩)) 44 (f.r 11)) 9 (Value.bool false)) 10 (f.r 11)) h12)
(aOff (f.r 4) 2 fun v13 =>
aLoad false 1 v13 h fun v14 =>
cnd (f.r 3)
(aOff (f.r 4) 3 fun v15 =>
aLoad false 1 v15 h fun v16 =>
aOff (f.r 4) 1 fun v17 =>
aLoad false 1 v17 h fun v18 =>
aBin prog .add 3 (f.r 12) v16 fun v19 =>
aMin v18 [v19] fun v20 =>
aFill [(vint 0),(vint 0)] [(0,1,v20),(1,1,(vint 0))] fun c21 =>
aStore 2 (f.r 8) (Value.agg ⟨c21⟩) h fun h22 =>
RetQ prog [.cell 8 152,.tmp 9,.tmp 10] n0 K .ret (RG.p (RG.p (RG.p (RG.p (RG.p (RG.p (RG.p (RG.p (RG.p (RG.p (RG.p (RG.p (RG.p (RG.p (RG.p (RG.p (RG.p (RG.p (RG.p (RG.p f 36 v5) 37 v6) 38 v7) 45 v13) 46 v14) 13 v14) 47 (f.r 3)) 48 v15) 49 v16) 13 v16) 50 v17) 51 v18) 52 (f.r 12)) 53 v16) 54 v19) 55 v20) 56 (Value.agg ⟨c21⟩)) 57 (f.r 11)) 9 (Value.bool false)) 10 (f.r 11)) h22)
(aOff (f.r 4) 1 fun v23 =>
aLoad false 1 v23 h fun v24 =>
aBin prog .add 3 (f.r 12) v14 fun v25 =>
aMin v24 [v25] fun v26 =>
aFill [(vint 0),(vint 0)] [(0,1,v26),(1,1,(vint 0))] fun c27 =>
aStore 2 (f.r 8) (Value.agg ⟨c27⟩) h fun h28 =>
RetQ prog [.cell 8 152,.tmp 9,.tmp 10] n0 K .ret (RG.p (RG.p (RG.p (RG.p (RG.p (RG.p (RG.p (RG.p (RG.p (RG.p (RG.p (RG.p (RG.p (RG.p (RG.p (RG.p (RG.p f 36 v5) 37 v6) 38 v7) 45 v13) 46 v14) 13 v14) 47 (f.r 3)) 50 v23) 51 v24) 52 (f.r 12)) 53 v14) 54 v25) 55 v26) 56 (Value.agg ⟨c27⟩)) 57 (f.r 11)) 9 (Value.bool false)) 10 (f.r 11)) h28)))) := sub_eq pok87 ct87 (by kernel_rfl)
theorem at86 : prog.funcs[86]? = some f86 := by kernel_rfl
theorem body86 : f86.body = some (codeOf f86) := by kernel_rfl
def pl86 : Plans := [(7,true,.take 0 (.take 1 (.take 2 (.take 3 (.take 4 (.take 5 (.take 6 (.take 7 (.take 8 (.take 9 (.take 10 (.take 11 (.fin)))))))))))))]
def ct86 : Cuts := .bin (.go) (.bin (.go) (.bin (.go) (.bin (.bin (.go) (.un (.un (.bin (.go) (.bin (.un (.bin (.bin (.go) (.cut (.go))) (.cut (.bin (.go) (.cut (.go)))))) (.go)))))) (.go))))
theorem pok86 : plansOk prog pl86 (codeOf f86) = true := by kernel_rfl
theorem e86 {a0 a1 : Value} : W prog J 54 h.length 86 (codeOf f86) (RG.mk (regs [a0,a1]) []) h (RetQ prog [.tmp 4] h.length K) =
(aBox a0 h fun v1 h2 =>
aLenStr a1 fun v3 =>
aOff v1 0 fun v4 =>
aLoad false 1 v4 h2 fun v5 =>
aBin prog .neq 3 v3 v5 fun v6 =>
cnd v6
(retL h.length K [] [(Value.bool false)] h2)
(Sem J 54 h.length 86 (subC [1,1,1,0,1,0] (codeOf f86)) (RG.p (RG.p (RG.p (RG.p (RG.p (RG.p (RG.p (RG.p (RG.p (RG.mk (regs [a0,a1]) []) 2 v1) 4 (Value.bool false)) 7 a1) 8 v3) 9 v4) 10 v5) 11 v6) 5 (vint 0)) 6 (vint 0)) h2 (contX pl86 prog J 54 h.length 86 ct86 [1,1,1,0,1,0] (codeOf f86) [] (RetQ prog [.tmp 4] h.length K)))) := top_eq pok86 ct86 (by kernel_rfl)
theorem g86 (hJ : Closed prog main J) {a0 a1 : Value} (hs : heapOk h → W prog J 54 h.length 86 (codeOf f86) (RG.mk (regs [a0,a1]) []) h (RetQ prog [.tmp 4] h.length K)) : Good prog J 86 [a0,a1] h K :=
 good_of_W hJ mixed at86 body86 (by kernel_rfl) (Nat.le_of_ble_eq_true rfl) hs
theorem s86_1 {f : RG} {nx0 : RG → List AObj → Prop} : W prog J 54 n0 86 (subC [1,1,1,0,1,0,0] (codeOf f86)) f h (thenK nx0 (contX pl86 prog J 54 n0 86 ct86 [1,1,1,0,1,0] (codeOf f86) [] (RetQ prog [.tmp 4] n0 K))) =
(aLenStr (f.r 1) fun v1 =>
aBin prog .lss 3 (f.r 6) v1 fun v2 =>
cnd v2
(aBin prog .gtr 3 (f.r 6) (vint 0) fun v3 =>
cnd v3
(aIdxStr (f.r 1) (f.r 6) fun v4 =>
aBin prog .sub 3 (f.r 6) (vint 1) fun v5 =>
aIdxStr (f.r 1) v5 fun v6 =>
aBin prog .eql 5 v4 v6 fun v7 =>
Hold (W prog J 54 n0 86 (subC [1,1,1,0,1,0,0,1,0,0,0,1] (codeOf f86)) (RG.p (RG.p (RG.p (RG.p (RG.p (RG.p (RG.p (RG.p (RG.p (RG.p (RG.p (RG.p (RG.p (RG.p (RG.p (RG.p (RG.p f 12 (f.r 6)) 13 (f.r 1)) 14 v1) 15 v2) 18 (f.r 6)) 19 v3) 20 v3) 20 (Value.bool true)) 21 (f.r 1)) 22 (f.r 6)) 23 v4) 24 (f.r 1)) 25 (f.r 6)) 26 v5) 27 v6) 28 v7) 29 v7) h (contX pl86 prog J 54 n0 86 ct86 [1,1,1,0,1,0,0,1,0,0,0,1] (codeOf f86) [nx0] (RetQ prog [.tmp 4] n0 K))))
(Hold (W prog J 54 n0 86 (subC [1,1,1,0,1,0,0,1,0,0,0,1] (codeOf f86)) (RG.p (RG.p (RG.p (RG.p (RG.p (RG.p (RG.p (RG.p (RG.p (RG.p (RG.p (RG.p (RG.p (RG.p (RG.p (RG.p (RG.p f 12 (f.r 6)) 13 (f.r 1)) 14 v1) 15 v2) 18 (f.r 6)) 19 v3) 20 v3) 20 (Value.bool false)) 21 undef) 22 undef) 23 undef) 24 undef) 25 undef) 26 undef) 27 undef) 28 undef) 29 (Value.bool false)) h (contX pl86 prog J 54 n0 86 ct86 [1,1,1,0,1,0,0,1,0,0,0,1] (codeOf f86) [nx0] (RetQ prog [.tmp 4] n0 K)))))
(retL n0 K f.ds [(Value.bool true)] h)) := sub_eq pok86 ct86 (by kernel_rfl)
theorem l86_1 (hJ : Closed prog main J) {S : Type} (μ : S → Nat) (I : S → RG → List AObj → Prop) (hI : ∀ s f h,I s f h → heapOk h → n0 ≤ h.length → W prog J 54 n0 86 (subC [1,1,1,0,1,0,0] (codeOf f86)) f h (thenK (Nx n0 μ I s) (contX pl86 prog J 54 n0 86 ct86 [1,1,1,0,1,0] (codeOf f86) [] (RetQ prog [.tmp 4] n0 K))))
 {s : S} {f : RG} (hi : Gets n0 I s f h) : Sem J 54 n0 86 (subC [1,1,1,0,1,0] (codeOf f86)) f h (contX pl86 prog J 54 n0 86 ct86 [1,1,1,0,1,0] (codeOf f86) [] (RetQ prog [.tmp 4] n0 K)) :=
 loop_rule hJ mixed (b := subC [1,1,1,0,1,0,0] (codeOf f86)) (by kernel_rfl) μ I hI hi
theorem s86_2 {f : RG} {nx0 : RG → List AObj → Prop} : W prog J 54 n0 86 (subC [1,1,1,0,1,0,0,1,0,0,0,1] (codeOf f86)) f h (contX pl86 prog J 54 n0 86 ct86 [1,1,1,0,1,0,0,1,0,0,0,1] (codeOf f86) [nx0] (RetQ prog [.tmp 4] n0 K)) =
(cnd (f.r 29)
(aBin prog .add 3 (f.r 5) (vint 1) fun v1 =>
Hold (W prog J 54 n0 86 (subC [1,1,1,0,1,0,0,1,0,0,1] (codeOf f86)) (RG.p (RG.p (RG.p f 30 (f.r 5)) 31 v1) 5 v1) h (contX pl86 prog J 54 n0 86 ct86 [1,1,1,0,1,0,0,1,0,0,1] (codeOf f86) [nx0] (RetQ prog [.tmp 4] n0 K))))
(Hold (W prog J 54 n0 86 (subC [1,1,1,0,1,0,0,1,0,0,1] (codeOf f86)) (RG.p f 5 (vint 1)) h (contX pl86 prog J 54 n0 86 ct86 [1,1,1,0,1,0,0,1,0,0,1] (codeOf f86) [nx0] (RetQ prog [.tmp 4] n0 K))))) := sub_eq pok86 ct86 (by kernel_rfl)
theorem s86_3 {f : RG} {nx0 : RG → List AObj → Prop} : W prog J 54 n0 86 (subC [1,1,1,0,1,0,0,1,0,0,1] (codeOf f86)) f h (contX pl86 prog J 54 n0 86 ct86 [1,1,1,0,1,0,0,1,0,0,1] (codeOf f86) [nx0] (RetQ prog [.tmp 4] n0 K)) =
(aIdxStr (f.r 1) (f.r 6) fun v1 =>
aBin prog .eql 5 v1 (Value.int .u8 100) fun v2 =>
cnd v2
(aOff (f.r 2) 1 fun v3 =>
aLoad false 1 v3 h fun v4 =>
aBin prog .gtr 3 (f.r 5) v4 fun v5 =>
cnd v5
(Hold (W prog J 54 n0 86 (subC [1,1,1,0,1,0,0,1,0,0,1,1] (codeOf f86)) (RG.p (RG.p (RG.p (RG.p (RG.p (RG.p (RG.p (RG.p (RG.p (RG.p (RG.p (RG.p (RG.p (RG.p (RG.p (RG.p (RG.p (RG.p (RG.p (RG.p (RG.p (RG.p (RG.p (RG.p f 32 (f.r 1)) 33 (f.r 6)) 34 v1) 35 v2) 36 v2) 36 (Value.bool true)) 37 (f.r 5)) 38 v3) 39 v4) 40 v5) 41 v5) 42 v5) 42 (Value.bool true)) 43 undef) 44 undef) 45 undef) 46 undef) 47 undef) 48 undef) 49 undef) 50 undef) 51 undef) 52 undef) 53 (Value.bool true)) h (contX pl86 prog J 54 n0 86 ct86 [1,1,1,0,1,0,0,1,0,0,1,1] (codeOf f86) [nx0] (RetQ prog [.tmp 4] n0 K))))
(aIdxStr (f.r 1) (f.r 6) fun v6 =>
aBin prog .eql 5 v6 (Value.int .u8 119) fun v7 =>
cnd v7
(aOff (f.r 2) 2 fun v8 =>
aLoad false 1 v8 h fun v9 =>
aBin prog .gtr 3 (f.r 5) v9 fun v10 =>
Hold (W prog J 54 n0 86 (subC [1,1,1,0,1,0,0,1,0,0,1,1] (codeOf f86)) (RG.p (RG.p (RG.p (RG.p (RG.p (RG.p (RG.p (RG.p (RG.p (RG.p (RG.p (RG.p (RG.p (RG.p (RG.p (RG.p (RG.p (RG.p (RG.p (RG.p (RG.p (RG.p (RG.p (RG.p (RG.p f 32 (f.r 1)) 33 (f.r 6)) 34 v1) 35 v2) 36 v2) 36 (Value.bool true)) 37 (f.r 5)) 38 v3) 39 v4) 40 v5) 41 v5) 42 v5) 42 (Value.bool false)) 43 (f.r 1)) 44 (f.r 6)) 45 v6) 46 v7) 47 v7) 47 (Value.bool true)) 48 (f.r 5)) 49 v8) 50 v9) 51 v10) 52 v10) 53 v10) h (contX pl86 prog J 54 n0 86 ct86 [1,1,1,0,1,0,0,1,0,0,1,1] (codeOf f86) [nx0] (RetQ prog [.tmp 4] n0 K))))
(Hold (W prog J 54 n0 86 (subC [1,1,1,0,1,0,0,1,0,0,1,1] (codeOf f86)) (RG.p (RG.p (RG.p (RG.p (RG.p (RG.p (RG.p (RG.p (RG.p (RG.p (RG.p (RG.p (RG.p (RG.p (RG.p (RG.p (RG.p (RG.p (RG.p (RG.p (RG.p (RG.p (RG.p (RG.p (RG.p f 32 (f.r 1)) 33 (f.r 6)) 34 v1) 35 v2) 36 v2) 36 (Value.bool true)) 37 (f.r 5)) 38 v3) 39 v4) 40 v5) 41 v5) 42 v5) 42 (Value.bool false)) 43 (f.r 1)) 44 (f.r 6)) 45 v6) 46 v7) 47 v7) 47 (Value.bool false)) 48 undef) 49 undef) 50 undef) 51 undef) 52 (Value.bool false)) 53 (Value.bool false)) h (contX pl86 prog J 54 n0 86 ct86 [1,1,1,0,1,0,0,1,0,0,1,1] (codeOf f86) [nx0] (RetQ prog [.tmp 4] n0 K))))))
(aIdxStr (f.r 1) (f.r 6) fun v11 =>
aBin prog .eql 5 v11 (Value.int .u8 119) fun v12 =>
cnd v12
(aOff (f.r 2) 2 fun v13 =>
aLoad false 1 v13 h fun v14 =>
aBin prog .gtr 3 (f.r 5) v14 fun v15 =>
Hold (W prog J 54 n0 86 (subC [1,1,1,0,1,0,0,1,0,0,1,1] (codeOf f86)) (RG.p (RG.p (RG.p (RG.p (RG.p (RG.p (RG.p (RG.p (RG.p (RG.p (RG.p (RG.p (RG.p (RG.p (RG.p (RG.p (RG.p (RG.p (RG.p (RG.p (RG.p (RG.p (RG.p (RG.p (RG.p f 32 (f.r 1)) 33 (f.r 6)) 34 v1) 35 v2) 36 v2) 36 (Value.bool false)) 37 undef) 38 undef) 39 undef) 40 undef) 41 (Value.bool false)) 42 (Value.bool false)) 42 (Value.bool false)) 43 (f.r 1)) 44 (f.r 6)) 45 v11) 46 v12) 47 v12) 47 (Value.bool true)) 48 (f.r 5)) 49 v13) 50 v14) 51 v15) 52 v15) 53 v15) h (contX pl86 prog J 54 n0 86 ct86 [1,1,1,0,1,0,0,1,0,0,1,1] (codeOf f86) [nx0] (RetQ prog [.tmp 4] n0 K))))
(Hold (W prog J 54 n0 86 (subC [1,1,1,0,1,0,0,1,0,0,1,1] (codeOf f86)) (RG.p (RG.p (RG.p (RG.p (RG.p (RG.p (RG.p (RG.p (RG.p (RG.p (RG.p (RG.p (RG.p (RG.p (RG.p (RG.p (RG.p (RG.p (RG.p (RG.p (RG.p (RG.p (RG.p (RG.p (RG.p f 32 (f.r 1)) 33 (f.r 6)) 34 v1) 35 v2) 36 v2) 36 (Value.bool false)) 37 undef) 38 undef) 39 undef) 40 undef) 41 (Value.bool false)) 42 (Value.bool false)) 42 (Value.bool false)) 43 (f.r 1)) 44 (f.r 6)) 45 v11) 46 v12) 47 v12) 47 (Value.bool false)) 48 undef) 49 undef) 50 undef) 51 undef) 52 (Value.bool false)) 53 (Value.bool false)) h (contX pl86 prog J 54 n0 86 ct86 [1,1,1,0,1,0,0,1,0,0,1,1] (codeOf f86) [nx0] (RetQ prog [.tmp 4] n0 K)))))) := sub_eq pok86 ct86 (by kernel_rfl)
theorem s86_4 {f : RG} {nx0 : RG → List AObj → Prop} : W prog J 54 n0 86 (subC [1,1,1,0,1,0,0,1,0,0,1,1] (codeOf f86)) f h (contX pl86 prog J 54 n0 86 ct86 [1,1,1,0,1,0,0,1,0,0,1,1] (codeOf f86) [nx0] (RetQ prog [.tmp 4] n0 K)) =
(cnd (f.r 53)
(retL n0 K f.ds [(Value.bool false)] h)
(aBin prog .add 3 (f.r 6) (vint 1) fun v1 =>
nx0 (RG.p (RG.p (RG.p f 16 (f.r 6)) 17 v1) 6 v1) h)) := sub_eq pok86 ct86 (by kernel_rfl)
theorem at85 : prog.funcs[85]? = some f85 := by kernel_rfl
theorem body85 : f85.body = some (codeOf f85) := by kernel_rfl
def pl85 : Plans := []
def ct85 : Cuts := .go
theorem pok85 : plansOk prog pl85 (codeOf f85) = true := by kernel_rfl
theorem e85 {a0 : Value} : W prog J 42 h.length 85 (codeOf f85) (RG.mk (regs [a0]) []) h (RetQ prog [.tmp 2] h.length K) =
(aBin prog .eql 3 a0 (vint 0) fun v1 =>
cnd v1
((((1 * 1 : Nat) ≤ 16777216 ∧ (1 : Nat) ≤ 16777216 ∧ List.length [(Value.string { data := #[] })] = 1) ∧ aFill (zrep [(Value.string { data := #[] })] 1) [(0,1,(Value.string { data := #[] }))] fun c2 =>
aNewS 1 c2 h fun v3 h4 =>
retL h.length K [] [v3] h4))
(aBin prog .sub 3 a0 (vint 1) fun v5 =>
Good prog J 85 [v5] h fun v6 h7 =>
Sem J 42 h.length 85 (subC [1,1,1,1,0,1,0] (codeOf f85)) (RG.p (RG.p (RG.p (RG.p (RG.p (RG.p (RG.p (RG.p (RG.p (RG.mk (regs [a0]) []) 2 (Value.slice none 0 0)) 7 a0) 8 v1) 3 (Value.slice none 0 0)) 10 a0) 11 v5) 12 v6) 4 v6) 5 (vint 0)) h7 (contX pl85 prog J 42 h.length 85 ct85 [1,1,1,1,0,1,0] (codeOf f85) [] (RetQ prog [.tmp 2] h.length K)))) := top_eq pok85 ct85 (by kernel_rfl)
theorem g85 (hJ : Closed prog main J) {a0 : Value} (hs : heapOk h → W prog J 42 h.length 85 (codeOf f85) (RG.mk (regs [a0]) []) h (RetQ prog [.tmp 2] h.length K)) : Good prog J 85 [a0] h K :=
 good_of_W hJ mixed at85 body85 (by kernel_rfl) (Nat.le_of_ble_eq_true rfl) hs
theorem s85_1 {f : RG} {nx0 : RG → List AObj → Prop} : W prog J 42 n0 85 (subC [1,1,1,1,0,1,0,0] (codeOf f85)) f h (thenK nx0 (contX pl85 prog J 42 n0 85 ct85 [1,1,1,1,0,1,0] (codeOf f85) [] (RetQ prog [.tmp 2] n0 K))) =
(aLenS (f.r 4) fun v1 =>
aBin prog .lss 3 (f.r 5) v1 fun v2 =>
cnd v2
(aIdx 1 (f.r 4) (f.r 5) fun v3 =>
aLoad false 1 v3 h fun v4 =>
aBin prog .add 9 (Value.string { data := #[100] }) v4 fun v5 =>
(((1 * 1 : Nat) ≤ 16777216 ∧ (1 : Nat) ≤ 16777216 ∧ List.length [(Value.string { data := #[] })] = 1) ∧ aFill (zrep [(Value.string { data := #[] })] 1) [(0,1,v5)] fun c6 =>
aNewS 1 c6 h fun v7 h8 =>
((List.length [(Value.string { data := #[] })] = 1 ∧ 0 < (1 : Nat) ∧ 0 < (16 : Nat) ∧ (16 : Nat) ≤ 1024) ∧ aApp 1 (f.r 3) v7 h8 fun v9 h10 =>
aBin prog .add 3 (f.r 5) (vint 1) fun v11 =>
nx0 (RG.p (RG.p (RG.p (RG.p (RG.p (RG.p (RG.p (RG.p (RG.p (RG.p (RG.p (RG.p (RG.p (RG.p (RG.p (RG.p f 13 (f.r 5)) 14 (f.r 4)) 15 v1) 16 v2) 19 (f.r 3)) 20 (f.r 4)) 21 (f.r 5)) 22 v3) 23 v4) 24 v5) 25 v7) 26 v9) 3 v9) 17 (f.r 5)) 18 v11) 5 v11) h10)))
(Sem J 42 n0 85 (subC [1,1,1,1,1,0,1,0] (codeOf f85)) (RG.p (RG.p (RG.p (RG.p (RG.p f 13 (f.r 5)) 14 (f.r 4)) 15 v1) 16 v2) 6 (vint 0)) h (contX pl85 prog J 42 n0 85 ct85 [1,1,1,1,1,0,1,0] (codeOf f85) [] (RetQ prog [.tmp 2] n0 K)))) := sub_eq pok85 ct85 (by kernel_rfl)
theorem l85_1 (hJ : Closed prog main J) {S : Type} (μ : S → Nat) (I : S → RG → List AObj → Prop) (hI : ∀ s f h,I s f h → heapOk h → n0 ≤ h.length → W prog J 42 n0 85 (subC [1,1,1,1,0,1,0,0] (codeOf f85)) f h (thenK (Nx n0 μ I s) (contX pl85 prog J 42 n0 85 ct85 [1,1,1,1,0,1,0] (codeOf f85) [] (RetQ prog [.tmp 2] n0 K))))
 {s : S} {f : RG} (hi : Gets n0 I s f h) : Sem J 42 n0 85 (subC [1,1,1,1,0,1,0] (codeOf f85)) f h (contX pl85 prog J 42 n0 85 ct85 [1,1,1,1,0,1,0] (codeOf f85) [] (RetQ prog [.tmp 2] n0 K)) :=
 loop_rule hJ mixed (b := subC [1,1,1,1,0,1,0,0] (codeOf f85)) (by kernel_rfl) μ I hI hi
theorem s85_2 {f : RG} {nx0 : RG → List AObj → Prop} : W prog J 42 n0 85 (subC [1,1,1,1,1,0,1,0,0] (codeOf f85)) f h (thenK nx0 (contX pl85 prog J 42 n0 85 ct85 [1,1,1,1,1,0,1,0] (codeOf f85) [] (RetQ prog [.tmp 2] n0 K))) =
(aLenS (f.r 4) fun v1 =>
aBin prog .lss 3 (f.r 6) v1 fun v2 =>
cnd v2
(aIdx 1 (f.r 4) (f.r 6) fun v3 =>
aLoad false 1 v3 h fun v4 =>
aBin prog .add 9 (Value.string { data := #[119] }) v4 fun v5 =>
(((1 * 1 : Nat) ≤ 16777216 ∧ (1 : Nat) ≤ 16777216 ∧ List.length [(Value.string { data := #[] })] = 1) ∧ aFill (zrep [(Value.string { data := #[] })] 1) [(0,1,v5)] fun c6 =>
aNewS 1 c6 h fun v7 h8 =>
((List.length [(Value.string { data := #[] })] = 1 ∧ 0 < (1 : Nat) ∧ 0 < (16 : Nat) ∧ (16 : Nat) ≤ 1024) ∧ aApp 1 (f.r 3) v7 h8 fun v9 h10 =>
aBin prog .add 3 (f.r 6) (vint 1) fun v11 =>
nx0 (RG.p (RG.p (RG.p (RG.p (RG.p (RG.p (RG.p (RG.p (RG.p (RG.p (RG.p (RG.p (RG.p (RG.p (RG.p (RG.p f 27 (f.r 6)) 28 (f.r 4)) 29 v1) 30 v2) 33 (f.r 3)) 34 (f.r 4)) 35 (f.r 6)) 36 v3) 37 v4) 38 v5) 39 v7) 40 v9) 3 v9) 31 (f.r 6)) 32 v11) 6 v11) h10)))
(retL n0 K f.ds [(f.r 3)] h)) := sub_eq pok85 ct85 (by kernel_rfl)
theorem l85_2 (hJ : Closed prog main J) {S : Type} (μ : S → Nat) (I : S → RG → List AObj → Prop) (hI : ∀ s f h,I s f h → heapOk h → n0 ≤ h.length → W prog J 42 n0 85 (subC [1,1,1,1,1,0,1,0,0] (codeOf f85)) f h (thenK (Nx n0 μ I s) (contX pl85 prog J 42 n0 85 ct85 [1,1,1,1,1,0,1,0] (codeOf f85) [] (RetQ prog [.tmp 2] n0 K))))
 {s : S} {f : RG} (hi : Gets n0 I s f h) : Sem J 42 n0 85 (subC [1,1,1,1,1,0,1,0] (codeOf f85)) f h (contX pl85 prog J 42 n0 85 ct85 [1,1,1,1,1,0,1,0] (codeOf f85) [] (RetQ prog [.tmp 2] n0 K)) :=
 loop_rule hJ mixed (b := subC [1,1,1,1,1,0,1,0,0] (codeOf f85)) (by kernel_rfl) μ I hI hi
theorem at83 : prog.funcs[83]? = some f83 := by kernel_rfl
theorem body83 : f83.body = some (codeOf f83) := by kernel_rfl
def pl83 : Plans := [(6,true,.take 0 (.take 1 (.take 2 (.take 3 (.take 4 (.last 5 false (.fin)))))))]
def ct83 : Cuts := .go
theorem pok83 : plansOk prog pl83 (codeOf f83) = true := by kernel_rfl
theorem e83 {a0 : Value} : W prog J 29 h.length 83 (codeOf f83) (RG.mk (regs [a0]) []) h (RetQ prog [.tmp 2] h.length K) =
(aBox a0 h fun v1 h2 =>
aOff v1 0 fun v3 =>
aLoad false 1 v3 h2 fun v4 =>
Good prog J 85 [v4] h2 fun v5 h6 =>
Sem J 29 h.length 83 (subC [1,1,1,0,1,0] (codeOf f83)) (RG.p (RG.p (RG.p (RG.p (RG.p (RG.p (RG.p (RG.p (RG.mk (regs [a0]) []) 1 v1) 2 (Value.slice none 0 0)) 3 (Value.slice none 0 0)) 6 v3) 7 v4) 8 v5) 4 v5) 5 (vint 0)) h6 (contX pl83 prog J 29 h.length 83 ct83 [1,1,1,0,1,0] (codeOf f83) [] (RetQ prog [.tmp 2] h.length K))) := top_eq pok83 ct83 (by kernel_rfl)
theorem g83 (hJ : Closed prog main J) {a0 : Value} (hs : heapOk h → W prog J 29 h.length 83 (codeOf f83) (RG.mk (regs [a0]) []) h (RetQ prog [.tmp 2] h.length K)) : Good prog J 83 [a0] h K :=
 good_of_W hJ mixed at83 body83 (by kernel_rfl) (Nat.le_of_ble_eq_true rfl) hs
theorem s83_1 {f : RG} {nx0 : RG → List AObj → Prop} : W prog J 29 n0 83 (subC [1,1,1,0,1,0,0] (codeOf f83)) f h (thenK nx0 (contX pl83 prog J 29 n0 83 ct83 [1,1,1,0,1,0] (codeOf f83) [] (RetQ prog [.tmp 2] n0 K))) =
(aLenS (f.r 4) fun v1 =>
aBin prog .lss 3 (f.r 5) v1 fun v2 =>
cnd v2
(aLoad true 3 (f.r 1) h fun v3 =>
aIdx 1 (f.r 4) (f.r 5) fun v4 =>
aLoad false 1 v4 h fun v5 =>
Good prog J 86 [v3,v5] h fun v6 h7 =>
cnd v6
(aIdx 1 (f.r 4) (f.r 5) fun v8 =>
aLoad false 1 v8 h7 fun v9 =>
(((1 * 1 : Nat) ≤ 16777216 ∧ (1 : Nat) ≤ 16777216 ∧ List.length [(Value.string { data := #[] })] = 1) ∧ aFill (zrep [(Value.string { data := #[] })] 1) [(0,1,v9)] fun c10 =>
aNewS 1 c10 h7 fun v11 h12 =>
((List.length [(Value.string { data := #[] })] = 1 ∧ 0 < (1 : Nat) ∧ 0 < (16 : Nat) ∧ (16 : Nat) ≤ 1024) ∧ aApp 1 (f.r 3) v11 h12 fun v13 h14 =>
aBin prog .add 3 (f.r 5) (vint 1) fun v15 =>
nx0 (RG.p (RG.p (RG.p (RG.p (RG.p (RG.p (RG.p (RG.p (RG.p (RG.p (RG.p (RG.p (RG.p (RG.p (RG.p (RG.p (RG.p (RG.p (RG.p (RG.p (RG.p f 9 (f.r 5)) 10 (f.r 4)) 11 v1) 12 v2) 15 v3) 16 (f.r 4)) 17 (f.r 5)) 18 v4) 19 v5) 20 v6) 21 (f.r 3)) 22 (f.r 4)) 23 (f.r 5)) 24 v8) 25 v9) 26 v11) 27 v13) 3 v13) 13 (f.r 5)) 14 v15) 5 v15) h14)))
(aBin prog .add 3 (f.r 5) (vint 1) fun v16 =>
nx0 (RG.p (RG.p (RG.p (RG.p (RG.p (RG.p (RG.p (RG.p (RG.p (RG.p (RG.p (RG.p (RG.p f 9 (f.r 5)) 10 (f.r 4)) 11 v1) 12 v2) 15 v3) 16 (f.r 4)) 17 (f.r 5)) 18 v4) 19 v5) 20 v6) 13 (f.r 5)) 14 v16) 5 v16) h7))
(retL n0 K f.ds [(f.r 3)] h)) := sub_eq pok83 ct83 (by kernel_rfl)
theorem l83_1 (hJ : Closed prog main J) {S : Type} (μ : S → Nat) (I : S → RG → List AObj → Prop) (hI : ∀ s f h,I s f h → heapOk h → n0 ≤ h.length → W prog J 29 n0 83 (subC [1,1,1,0,1,0,0] (codeOf f83)) f h (thenK (Nx n0 μ I s) (contX pl83 prog J 29 n0 83 ct83 [1,1,1,0,1,0] (codeOf f83) [] (RetQ prog [.tmp 2] n0 K))))
 {s : S} {f : RG} (hi : Gets n0 I s f h) : Sem J 29 n0 83 (subC [1,1,1,0,1,0] (codeOf f83)) f h (contX pl83 prog J 29 n0 83 ct83 [1,1,1,0,1,0] (codeOf f83) [] (RetQ prog [.tmp 2] n0 K)) :=
 loop_rule hJ mixed (b := subC [1,1,1,0,1,0,0] (codeOf f83)) (by kernel_rfl) μ I hI hi
theorem at84 : prog.funcs[84]? = some f84 := by kernel_rfl
theorem body84 : f84.body = some (codeOf f84) := by kernel_rfl
def pl84 : Plans := [(6,false,.take 0 (.take 1 (.take 2 (.take 3 (.take 4 (.take 5 (.take 6 (.take 7 (.take 8 (.take 9 (.alt 10 false (.take 11 (.take 12 (.take 13 (.take 14 (.last 15 true (.last 16 false (.take 17 (.take 18 (.fin))))))))) (.last 15 true (.last 10 false (.take 11 (.take 12 (.take 13 (.take 14 (.last 16 false (.take 17 (.take 18 (.fin)))))))))))))))))))))]
def ct84 : Cuts := .bin (.go) (.bin (.go) (.bin (.go) (.bin (.bin (.go) (.un (.un (.bin (.go) (.bin (.un (.bin (.go) (.cut (.bin (.go) (.bin (.go) (.bin (.go) (.cut (.go)))))))) (.go)))))) (.go))))
theorem pok84 : plansOk prog pl84 (codeOf f84) = true := by kernel_rfl
theorem e84 {a0 a1 a2 : Value} : W prog J 60 h.length 84 (codeOf f84) (RG.mk (regs [a0,a1,a2]) []) h (RetQ prog [.tmp 6,.tmp 7,.tmp 8] h.length K) =
(aBox a0 h fun v1 h2 =>
aOff v1 0 fun v3 =>
aLoad false 1 v3 h2 fun v4 =>
aFill [(vint 0),(vint 0)] [(0,1,v4),(1,1,(vint 0))] fun c5 =>
aAlloc [(vint 0),(vint 0)] h2 fun v6 h7 =>
aStore 2 v6 (Value.agg ⟨c5⟩) h7 fun h8 =>
Sem J 60 h.length 84 (subC [1,1,1,0,1,0] (codeOf f84)) (RG.p (RG.p (RG.p (RG.p (RG.p (RG.p (RG.p (RG.p (RG.p (RG.p (RG.p (RG.p (RG.mk (regs [a0,a1,a2]) []) 3 v1) 6 (Value.slice none 0 0)) 7 (Value.slice none 0 0)) 8 (Value.slice none 0 0)) 9 (Value.slice none 0 0)) 10 (Value.slice none 0 0)) 11 (Value.slice none 0 0)) 17 v3) 18 v4) 19 (Value.agg ⟨c5⟩)) 12 v6) 13 (vint 0)) h8 (contX pl84 prog J 60 h.length 84 ct84 [1,1,1,0,1,0] (codeOf f84) [] (RetQ prog [.tmp 6,.tmp 7,.tmp 8] h.length K))) := top_eq pok84 ct84 (by kernel_rfl)
theorem g84 (hJ : Closed prog main J) {a0 a1 a2 : Value} (hs : heapOk h → W prog J 60 h.length 84 (codeOf f84) (RG.mk (regs [a0,a1,a2]) []) h (RetQ prog [.tmp 6,.tmp 7,.tmp 8] h.length K)) : Good prog J 84 [a0,a1,a2] h K :=
 good_of_W hJ mixed at84 body84 (by kernel_rfl) (Nat.le_of_ble_eq_true rfl) hs
theorem s84_1 {f : RG} {nx0 : RG → List AObj → Prop} : W prog J 60 n0 84 (subC [1,1,1,0,1,0,0] (codeOf f84)) f h (thenK nx0 (contX pl84 prog J 60 n0 84 ct84 [1,1,1,0,1,0] (codeOf f84) [] (RetQ prog [.tmp 6,.tmp 7,.tmp 8] n0 K))) =
(aLenStr (f.r 2) fun v1 =>
aBin prog .lss 3 (f.r 13) v1 fun v2 =>
cnd v2
((∃ B,aLoad true 6 (f.r 3) h fun v3 =>
RdOk (some B) (ptrBlk (f.r 3)) ∧ (aLoad true 2 (f.r 12) h fun v4 =>
RdOk (some B) (ptrBlk (f.r 12)) ∧ (aIdx 1 (f.r 1) (f.r 13) fun v5 =>
aLoad false 1 v5 h fun v6 =>
RdOk (some B) (ptrBlk v5) ∧ (aIdxStr (f.r 2) (f.r 13) fun v7 =>
aBin prog .eql 5 v7 (Value.int .u8 119) fun v8 =>
(Good prog J 87 [v3,v4,v6,v8] h fun v9 h10 =>
aExt v9 0 fun v11 =>
aExt v9 1 fun v12 =>
aExt v9 2 fun v13 =>
aAlloc [(vint 0),(vint 0)] h10 fun v14 h15 =>
SameB (some B) h h15 ∧ (aStore 2 v14 v11 h15 fun h16 =>
Hold (W prog J 60 n0 84 (subC [1,1,1,0,1,0,0,1,0,0,1] (codeOf f84)) (RG.p (RG.p (RG.p (RG.p (RG.p (RG.p (RG.p (RG.p (RG.p (RG.p (RG.p (RG.p (RG.p (RG.p (RG.p (RG.p (RG.p (RG.p (RG.p (RG.p (RG.p (RG.p f 20 (f.r 13)) 21 (f.r 2)) 22 v1) 23 v2) 27 v3) 28 v4) 29 (f.r 1)) 30 (f.r 13)) 31 v5) 32 v6) 33 (f.r 2)) 34 (f.r 13)) 35 v7) 36 v8) 37 v9) 26 v9) 38 v11) 39 v12) 40 v13) 14 v14) 15 v12) 16 v13) h16 (contX pl84 prog J 60 n0 84 ct84 [1,1,1,0,1,0,0,1,0,0,1] (codeOf f84) [nx0] (RetQ prog [.tmp 6,.tmp 7,.tmp 8] n0 K))))) ∧ (aAlloc [(vint 0),(vint 0)] h fun v17 h18 =>
SameB (some B) h h18 ∧ (Good prog J 87 [v3,v4,v6,v8] h18 fun v19 h20 =>
aExt v19 0 fun v21 =>
aExt v19 1 fun v22 =>
aExt v19 2 fun v23 =>
aStore 2 v17 v21 h20 fun h24 =>
Hold (W prog J 60 n0 84 (subC [1,1,1,0,1,0,0,1,0,0,1] (codeOf f84)) (RG.p (RG.p (RG.p (RG.p (RG.p (RG.p (RG.p (RG.p (RG.p (RG.p (RG.p (RG.p (RG.p (RG.p (RG.p (RG.p (RG.p (RG.p (RG.p (RG.p (RG.p (RG.p f 20 (f.r 13)) 21 (f.r 2)) 22 v1) 23 v2) 27 v3) 28 v4) 29 (f.r 1)) 30 (f.r 13)) 31 v5) 32 v6) 33 (f.r 2)) 34 (f.r 13)) 35 v7) 36 v8) 14 v17) 37 v19) 26 v19) 38 v21) 39 v22) 40 v23) 15 v22) 16 v23) h24 (contX pl84 prog J 60 n0 84 ct84 [1,1,1,0,1,0,0,1,0,0,1] (codeOf f84) [nx0] (RetQ prog [.tmp 6,.tmp 7,.tmp 8] n0 K))))))))))
(retL n0 K f.ds [(f.r 9),(f.r 10),(f.r 11)] h)) := sub_eq pok84 ct84 (by kernel_rfl)
theorem l84_1 (hJ : Closed prog main J) {S : Type} (μ : S → Nat) (I : S → RG → List AObj → Prop) (hI : ∀ s f h,I s f h → heapOk h → n0 ≤ h.length → W prog J 60 n0 84 (subC [1,1,1,0,1,0,0] (codeOf f84)) f h (thenK (Nx n0 μ I s) (contX pl84 prog J 60 n0 84 ct84 [1,1,1,0,1,0] (codeOf f84) [] (RetQ prog [.tmp 6,.tmp 7,.tmp 8] n0 K))))
 {s : S} {f : RG} (hi : Gets n0 I s f h) : Sem J 60 n0 84 (subC [1,1,1,0,1,0] (codeOf f84)) f h (contX pl84 prog J 60 n0 84 ct84 [1,1,1,0,1,0] (codeOf f84) [] (RetQ prog [.tmp 6,.tmp 7,.tmp 8] n0 K)) :=
 loop_rule hJ mixed (b := subC [1,1,1,0,1,0,0] (codeOf f84)) (by kernel_rfl) μ I hI hi
theorem s84_2 {f : RG} {nx0 : RG → List AObj → Prop} : W prog J 60 n0 84 (subC [1,1,1,0,1,0,0,1,0,0,1] (codeOf f84)) f h (contX pl84 prog J 60 n0 84 ct84 [1,1,1,0,1,0,0,1,0,0,1] (codeOf f84) [nx0] (RetQ prog [.tmp 6,.tmp 7,.tmp 8] n0 K)) =
(aLoad true 2 (f.r 14) h fun v1 =>
aStore 2 (f.r 12) v1 h fun h2 =>
aOff (f.r 12) 0 fun v3 =>
aLoad false 1 v3 h2 fun v4 =>
(((1 * 1 : Nat) ≤ 16777216 ∧ (1 : Nat) ≤ 16777216 ∧ List.length [(vint 0)] = 1) ∧ aFill (zrep [(vint 0)] 1) [(0,1,v4)] fun c5 =>
aNewS 1 c5 h2 fun v6 h7 =>
((List.length [(vint 0)] = 1 ∧ 0 < (1 : Nat) ∧ 0 < (8 : Nat) ∧ (8 : Nat) ≤ 1024) ∧ aApp 1 (f.r 9) v6 h7 fun v8 h9 =>
cnd (f.r 15)
((((1 * 1 : Nat) ≤ 16777216 ∧ (1 : Nat) ≤ 16777216 ∧ List.length [(vint 0)] = 1) ∧ aFill (zrep [(vint 0)] 1) [(0,1,(f.r 13))] fun c10 =>
aNewS 1 c10 h9 fun v11 h12 =>
((List.length [(vint 0)] = 1 ∧ 0 < (1 : Nat) ∧ 0 < (8 : Nat) ∧ (8 : Nat) ≤ 1024) ∧ aApp 1 (f.r 10) v11 h12 fun v13 h14 =>
Hold (W prog J 60 n0 84 (subC [1,1,1,0,1,0,0,1,0,0,1,1,1,1] (codeOf f84)) (RG.p (RG.p (RG.p (RG.p (RG.p (RG.p (RG.p (RG.p (RG.p (RG.p (RG.p (RG.p (RG.p f 41 v1) 42 (f.r 9)) 43 v3) 44 v4) 45 v6) 46 v8) 9 v8) 47 (f.r 15)) 48 (f.r 10)) 49 (f.r 13)) 50 v11) 51 v13) 10 v13) h14 (contX pl84 prog J 60 n0 84 ct84 [1,1,1,0,1,0,0,1,0,0,1,1,1,1] (codeOf f84) [nx0] (RetQ prog [.tmp 6,.tmp 7,.tmp 8] n0 K))))))
(Hold (W prog J 60 n0 84 (subC [1,1,1,0,1,0,0,1,0,0,1,1,1,1] (codeOf f84)) (RG.p (RG.p (RG.p (RG.p (RG.p (RG.p (RG.p (RG.p f 41 v1) 42 (f.r 9)) 43 v3) 44 v4) 45 v6) 46 v8) 9 v8) 47 (f.r 15)) h9 (contX pl84 prog J 60 n0 84 ct84 [1,1,1,0,1,0,0,1,0,0,1,1,1,1] (codeOf f84) [nx0] (RetQ prog [.tmp 6,.tmp 7,.tmp 8] n0 K))))))) := sub_eq pok84 ct84 (by kernel_rfl)
theorem s84_3 {f : RG} {nx0 : RG → List AObj → Prop} : W prog J 60 n0 84 (subC [1,1,1,0,1,0,0,1,0,0,1,1,1,1] (codeOf f84)) f h (contX pl84 prog J 60 n0 84 ct84 [1,1,1,0,1,0,0,1,0,0,1,1,1,1] (codeOf f84) [nx0] (RetQ prog [.tmp 6,.tmp 7,.tmp 8] n0 K)) =
(cnd (f.r 16)
((((1 * 1 : Nat) ≤ 16777216 ∧ (1 : Nat) ≤ 16777216 ∧ List.length [(vint 0)] = 1) ∧ aFill (zrep [(vint 0)] 1) [(0,1,(f.r 13))] fun c1 =>
aNewS 1 c1 h fun v2 h3 =>
((List.length [(vint 0)] = 1 ∧ 0 < (1 : Nat) ∧ 0 < (8 : Nat) ∧ (8 : Nat) ≤ 1024) ∧ aApp 1 (f.r 11) v2 h3 fun v4 h5 =>
aBin prog .add 3 (f.r 13) (vint 1) fun v6 =>
nx0 (RG.p (RG.p (RG.p (RG.p (RG.p (RG.p (RG.p (RG.p (RG.p f 52 (f.r 16)) 53 (f.r 11)) 54 (f.r 13)) 55 v2) 56 v4) 11 v4) 24 (f.r 13)) 25 v6) 13 v6) h5)))
(aBin prog .add 3 (f.r 13) (vint 1) fun v7 =>
nx0 (RG.p (RG.p (RG.p (RG.p f 52 (f.r 16)) 24 (f.r 13)) 25 v7) 13 v7) h)) := sub_eq pok84 ct84 (by kernel_rfl)
end
end Go.Proofs.Ytdbammacnfojdaa
namespace Go.Proofs.Ytdbammacnfojdaa
open Go.Conc Go.Proofs.Try
set_option maxRecDepth 100000
def strsB : Nat → List (List UInt8)
 | 0 => [[]]
 | n + 1 => (strsB n).map (100 :: ·) ++ (strsB n).map (119 :: ·)
def fallX (s : SkyR) : Spl → List UInt8 → Bool
 | _,[] => true
 | x,c :: u => nextOk s x c && fallX s (nextX x c) u
theorem growB_strs {s : SkyR} : ∀ {n : Nat} {w : List UInt8} {x : Spl},growB s n w x = ((strsB n).filter (fallX s x)).map (w ++ ·)
 | 0,w,x => by
  have e : List.filter (fallX s x) [[]] = [[]] := by
   rw [List.filter_cons,if_pos (show fallX s x [] = true by unfold fallX; rfl)]
   rfl
  show [w] = (List.filter (fallX s x) [[]]).map (w ++ ·)
  rw [e]
  simp
 | n + 1,w,x => by
  have part : ∀ c : UInt8,(if nextOk s x c = true then growB s n (w ++ [c]) (nextX x c) else []) = (((strsB n).map (c :: ·)).filter (fallX s x)).map (w ++ ·) := by
   intro c
   rw [List.filter_map]
   by_cases h : nextOk s x c = true
   ·rw [if_pos h,growB_strs]
    have : (fallX s x ∘ fun x => c :: x) = fallX s (nextX x c) := by
     funext u
     show (nextOk s x c && fallX s (nextX x c) u) = _
     rw [h,Bool.true_and]
    rw [this,List.map_map]
    congr 1
    funext u
    simp
   ·rw [if_neg h]
    have h' : nextOk s x c = false := by simpa using h
    have : (fallX s x ∘ fun x => c :: x) = fun _ => false := by
     funext u
     show (nextOk s x c && fallX s (nextX x c) u) = _
     rw [h',Bool.false_and]
    rw [this]
    simp
  unfold growB strsB
  rw [part,part,List.filter_append,List.map_append]
theorem rainsB_strs {s : SkyR} : rainsB s = (strsB s.days.toNat).filter (fallX s (0,0)) := by
 unfold rainsB
 rw [growB_strs]
 simp
theorem strsB_len : ∀ {n : Nat},∀ u ∈ strsB n,u.length = n ∧ ∀ c ∈ u,c = 100 ∨ c = 119
 | 0,u,hu => by
  rw [List.mem_singleton.1 hu]
  exact ⟨rfl,by simp⟩
 | n + 1,u,hu => by
  unfold strsB at hu
  rcases List.mem_append.1 hu with hu | hu <;> obtain ⟨v,hv,rfl⟩ := List.mem_map.1 hu <;> obtain ⟨h1,h2⟩ := strsB_len v hv
  ·exact ⟨by rw [List.length_cons,h1],fun c hc => by
   rcases List.mem_cons.1 hc with h | h
   ·exact .inl h
   ·exact h2 c h⟩
  ·exact ⟨by rw [List.length_cons,h1],fun c hc => by
   rcases List.mem_cons.1 hc with h | h
   ·exact .inr h
   ·exact h2 c h⟩
theorem strsB_few : ∀ {n : Nat},(strsB n).length = 2 ^ n
 | 0 => rfl
 | n + 1 => by
  unfold strsB
  rw [List.length_append,List.length_map,List.length_map,strsB_few,Nat.pow_succ]
  omega
def splN (w : List UInt8) : Nat → Spl
 | 0 => (0,0)
 | k + 1 => nextX (splN w k) (w.getD k 0)
theorem splN_row {w : List UInt8} : ∀ k,0 ≤ (splN w k).2 ∧ (splN w k).2 ≤ k
 | 0 => ⟨Int.le_refl _,Int.le_refl _⟩
 | k + 1 => by
  have := splN_row (w := w) k
  unfold splN nextX
  split
  ·exact ⟨by dsimp only; omega,by dsimp only; omega⟩
  ·exact ⟨by dsimp only; omega,by dsimp only; omega⟩
theorem splN_letter {w : List UInt8} {k : Nat} : (splN w (k + 1)).1 = w.getD k 0 := by
 unfold splN nextX
 split <;> rfl
theorem fallX_drop {s : SkyR} {w : List UInt8} : ∀ {n k : Nat},k + n = w.length → (fallX s (splN w k) (w.drop k) = true ↔ ∀ i,k ≤ i → i < w.length → nextOk s (splN w i) (w.getD i 0) = true)
 | 0,k,h => by
  rw [List.drop_of_length_le (by omega)]
  exact ⟨fun _ i h1 h2 => absurd h2 (by omega),fun _ => rfl⟩
 | n + 1,k,h => by
  have hk : k < w.length := by omega
  rw [List.drop_eq_getElem_cons hk]
  have hg : w[k] = w.getD k 0 := by
   rw [List.getD_eq_getElem?_getD,List.getElem?_eq_getElem hk]
   rfl
  rw [hg]
  show (nextOk s (splN w k) (w.getD k 0) && fallX s (nextX (splN w k) (w.getD k 0)) (w.drop (k + 1))) = true ↔ _
  have hs : nextX (splN w k) (w.getD k 0) = splN w (k + 1) := rfl
  rw [hs,Bool.and_eq_true,fallX_drop (n := n) (by omega)]
  constructor
  ·rintro ⟨h1,h2⟩ i hi1 hi2
   by_cases e : i = k
   ·rw [e]
    exact h1
   ·exact h2 i (by omega) hi2
  ·intro hh
   exact ⟨hh k (Nat.le_refl _) hk,fun i h1 h2 => hh i (by omega) h2⟩
theorem fallX_all {s : SkyR} {w : List UInt8} : fallX s (0,0) w = true ↔ ∀ i,i < w.length → nextOk s (splN w i) (w.getD i 0) = true := by
 have := fallX_drop (s := s) (w := w) (n := w.length) (k := 0) (by omega)
 rw [List.drop_zero] at this
 exact this.trans ⟨fun h i hi => h i (Nat.zero_le _) hi,fun h i _ hi => h i hi⟩
theorem fallX_no {s : SkyR} {w : List UInt8} {i : Nat} (hi : i < w.length) (h : nextOk s (splN w i) (w.getD i 0) = false) : fallX s (0,0) w = false := by
 cases e : fallX s (0,0) w with
 | false => rfl
 | true =>
  have := fallX_all.1 e i hi
  rw [h] at this
  cases this
theorem next_row {s : SkyR} (g : skyOk s) {w : List UInt8} {i : Nat} : nextOk s (splN w i) (w.getD i 0) = decide (¬ (splN w (i + 1)).2 > (if w.getD i 0 = 119 then s.flood else s.drought)) := by
 obtain ⟨g1,g2,g3⟩ := g
 have e : splN w (i + 1) = nextX (splN w i) (w.getD i 0) := rfl
 rw [e]
 unfold nextOk nextX
 by_cases h : (splN w i).1 ≠ w.getD i 0
 ·rw [if_pos h,if_pos h]
  refine (decide_eq_true ?_).symm
  dsimp only
  split <;> omega
 ·rw [if_neg h,if_neg h]
  refine decide_eq_decide.2 ?_
  dsimp only
  split <;> omega
section
variable {main : Bool} {J : JT} {h H : List AObj} {K : Value → List AObj → Prop} {KV : Value → Prop} {HL : List AObj → Prop} {n0 : Nat}
theorem good38 (hJ : Closed prog main J) {n lo hi : Int} (hK : K (.bool (decide (lo ≤ n ∧ n ≤ hi))) h) : Good prog J 38 [vint n,vint lo,vint hi] h K := by
 refine g38 hJ fun ok => ?_
 rw [e38]
 refine geqI (cndI (fun h1 => leqI (retL_same (by simp [unk]) ?_)) fun h1 => retL_same (by simp [unk]) ?_)
 ·simpa [pack,h1] using hK
 ·simpa [pack,h1] using hK
theorem good36 (hJ : Closed prog main J) {p : Pas} (hK : K (vint (pasE p)) h) : Good prog J 36 [.agg ⟨p.cells⟩] h K := by
 refine g36 hJ fun ok => ?_
 rw [e36]
 refine qBox (l := p.cells) rfl fun H1 p1 e1 S1 c1 l1 => ?_
 have fin : ∀ e : Int,pasE p = e → retL h.length K [] [vint e] H1 := fun e he => by
  subst he
  exact retX ok (Nat.le_refl _) S1 (by simp) (by simp [unk]) (by simp [pack,VOk]) hK
 have no : ∀ {q : Prop},(pasOk p → q) → ¬ q → retL h.length K [] [vint 1] H1 := fun a b => fin 1 (by unfold pasE; rw [if_neg fun x => b (a x)])
 refine offI (ldI (v := vint p.bears) c1 rfl rfl (good38 hJ (notI (cndN (fun h1 => hold.2 ?_) fun h1 => ?_))))
 ·rw [s36_1]
  exact cnd_true.2 (no (fun x => x.1) h1)
 refine offI (ldI (v := vint p.grass) c1 rfl rfl (offI (ldI (v := vint p.bears) c1 rfl rfl (good38 hJ (notI (cndN (fun h2 => hold.2 ?_) fun h2 => ?_))))))
 ·rw [s36_1]
  exact cnd_true.2 (no (fun x => x.2.1) h2)
 refine offI (ldI (v := vint p.dry) c1 rfl rfl (good38 hJ (notI (cndN (fun h3 => hold.2 ?_) fun h3 => ?_))))
 ·rw [s36_1]
  exact cnd_true.2 (no (fun x => x.2.2.1) h3)
 refine offI (ldI (v := vint p.wet) c1 rfl rfl (offI (ldI (v := vint p.dry) c1 rfl rfl (good38 hJ (notI (cndN (fun h4 => hold.2 ?_) fun h4 => ?_))))))
 ·rw [s36_1]
  exact cnd_true.2 (no (fun x => x.2.2.2.1) h4)
 refine offI (ldI (v := vint p.stubble) c1 rfl rfl (offI (ldI (v := vint p.bears) c1 rfl rfl (good38 hJ (notI (cndN (fun h5 => hold.2 ?_) fun h5 => ?_))))))
 ·rw [s36_1]
  exact cnd_true.2 (no (fun x => x.2.2.2.2.1) h5)
 refine offI (ldI (v := vint p.sleep) c1 rfl rfl (good38 hJ (notI (hold.2 ?_))))
 rw [s36_1]
 refine cndN (fun h6 => no (fun x => x.2.2.2.2.2) h6) fun h6 => fin 0 ?_
 unfold pasE
 rw [if_pos ⟨h1,h2,h3,h4,h5,h6⟩]
theorem good37 (hJ : Closed prog main J) {s : SkyR} (hK : K (vint (skyE s)) h) : Good prog J 37 [.agg ⟨s.cells⟩] h K := by
 refine g37 hJ fun ok => ?_
 rw [e37]
 refine qBox (l := s.cells) rfl fun H1 p1 e1 S1 c1 l1 => ?_
 have fin : ∀ e : Int,skyE s = e → retL h.length K [] [vint e] H1 := fun e he => by
  subst he
  exact retX ok (Nat.le_refl _) S1 (by simp) (by simp [unk]) (by simp [pack,VOk]) hK
 have no : ∀ {q : Prop},(skyOk s → q) → ¬ q → retL h.length K [] [vint 1] H1 := fun a b => fin 1 (by unfold skyE; rw [if_neg fun x => b (a x)])
 refine offI (ldI (v := vint s.days) c1 rfl rfl (good38 hJ (notI (cndN (fun h1 => hold.2 ?_) fun h1 => ?_))))
 ·rw [s37_1]
  exact cnd_true.2 (no (fun x => x.1) h1)
 refine offI (ldI (v := vint s.drought) c1 rfl rfl (offI (ldI (v := vint s.days) c1 rfl rfl (good38 hJ (notI (cndN (fun h2 => hold.2 ?_) fun h2 => ?_))))))
 ·rw [s37_1]
  exact cnd_true.2 (no (fun x => x.2.1) h2)
 refine offI (ldI (v := vint s.flood) c1 rfl rfl (offI (ldI (v := vint s.days) c1 rfl rfl (good38 hJ (notI (hold.2 ?_))))))
 rw [s37_1]
 refine cndN (fun h3 => no (fun x => x.2.2) h3) fun h3 => fin 0 ?_
 unfold skyE
 rw [if_pos ⟨h1,h2,h3⟩]
def stC (x : Std) : List Value := [vint x.1,vint x.2]
theorem good87 (hJ : Closed prog main J) {p : Pas} {x : Std} {n : Int} {w : Bool} (f : pasOk p) (o : StdOk p x) (hn : 0 ≤ n ∧ n ≤ 1000000)
  (hK : ∀ H',SameX [] H H' → K (.tuple ⟨[.agg ⟨stC (dayR p x n w)⟩,.bool (shortR p x n),.bool (hungR x n)]⟩) H') : Good prog J 87 [.agg ⟨p.cells⟩,.agg ⟨stC x⟩,vint n,.bool w] H K := by
 refine g87 hJ fun ok => ?_
 rw [e87]
 have og := o.g
 have oa := o.a
 have hb := leftR_bd o hn.1
 obtain ⟨f1,f2,f3,f4,f5,f6⟩ := f
 refine qBox (l := p.cells) rfl fun H1 p1 e1 S1 c1 l1 => qBox (l := stC x) rfl fun H2 p2 e2 S2 c2 l2 => qAl fun H3 p3 e3 S3 c3 l3 => ?_
 have c13 := S3.get (S2.get c1 (by simp)) (by simp)
 have c23 := S3.get c2 (by simp)
 have T3 := (S1.trans S2).trans S3
 refine offI (ldI (v := vint x.1) c23 rfl rfl (lssI (offI (ldI (v := vint x.1) c23 rfl rfl (subI (by omega) (maxI ?_))))))
 have el : max 0 (x.1 - n) = leftR x n := by unfold leftR; omega
 have eh : decide (x.1 < n) = hungR x n := by unfold hungR; exact decide_eq_decide.2 (by omega)
 rw [el,eh]
 have post : ∀ {F : RG},F.ds = [] → F.r 3 = .bool w → F.r 4 = ptr p1 0 → F.r 5 = ptr p2 0 → F.r 8 = ptr p3 0 → F.r 11 = .bool (hungR x n) → F.r 12 = vint (leftR x n) → F.r 30 = .bool (shortR p x n) →
   W prog J 58 H.length 87 (subC [1,1,1,0,1] (codeOf f87)) F H3 (contX pl87 prog J 58 H.length 87 ct87 [1,1,1,0,1] (codeOf f87) [] (RetQ prog [.cell 8 152,.tmp 9,.tmp 10] H.length K)) := by
  intro F ds r3 r4 r5 r8 r11 r12 r30
  rw [s87_1,r3,r4,r5,r8,r11,r12,r30]
  have fin : ∀ {y : Std} {H4 : List AObj} {F' : RG},dayR p x n w = y → SameX [p3] H3 H4 → H4[p3]? = some (.cells (stC y) true 0) → F'.ds = [] → F'.r 8 = ptr p3 0 → F'.r 9 = .bool (shortR p x n) → F'.r 10 = .bool (hungR x n) → RetQ prog [.cell 8 152,.tmp 9,.tmp 10] H.length K .ret F' H4 := fun hy S4 c4 q0 q8 q9 q10 => by
   subst hy
   refine retQs q0 (resW_cell (gg := true) (s := 2) (by kernel_rfl) ?_)
   rw [q8]
   refine load_part (c := stC (dayR p x n w)) c4 (by simp [stC]) rfl rfl (resW_tmp (by rw [q9]; simp [unk]) (resW_tmp (by rw [q10]; simp [unk]) (resW_nil ?_)))
   rw [q9,q10]
   exact hK _ (T3.thru S4 (by simp; omega))
  refine cndB (fun hs => ?_) fun hs => ?_
  ·refine offI (ldI (v := vint p.sleep) c13 rfl rfl (fillO (l := [vint (leftR x n)]) rfl rfl rfl (by decide) (fillO (l := [vint p.sleep]) rfl rfl rfl (by rw [wrAt_length]; decide) (fillI ?_))))
   refine qStA (c := stC (leftR x n,p.sleep)) c3 rfl rfl rfl fun H4 S4 c4 l4 => fin (y := (leftR x n,p.sleep)) ?_ S4 c4 ds r8 (by rw [hs]; rfl) rfl
   unfold dayR
   rw [if_pos hs]
  ·have hs' : ¬ shortR p x n = true := by rw [hs]; decide
   refine offI (ldI (v := vint x.2) c23 rfl rfl (gtrI (cndI (fun h0 => ?_) fun h0 => ?_)))
   ·refine offI (ldI (v := vint x.2) c23 rfl rfl (subI (by omega) (fillO (l := [vint (leftR x n)]) rfl rfl rfl (by decide) (fillO (l := [vint (x.2 - 1)]) rfl rfl rfl (by rw [wrAt_length]; decide) (fillI ?_)))))
    refine qStA (c := stC (leftR x n,x.2 - 1)) c3 rfl rfl rfl fun H4 S4 c4 l4 => fin (y := (leftR x n,x.2 - 1)) ?_ S4 c4 ds r8 (by rw [hs]; rfl) rfl
    unfold dayR
    rw [if_neg hs',if_pos h0]
   ·have hx2 : x.2 = 0 := by omega
    refine offI (ldI (v := vint p.dry) c13 rfl rfl (cndB (fun hw => ?_) fun hw => ?_))
    ·refine offI (ldI (v := vint p.wet) c13 rfl rfl (offI (ldI (v := vint p.bears) c13 rfl rfl (addI (by omega) (minI (fillO (l := [vint (min p.bears (leftR x n + p.wet))]) rfl rfl rfl (by decide) (fillO (l := [vint 0]) rfl rfl rfl (by rw [wrAt_length]; decide) (fillI ?_))))))))
     refine qStA (c := stC (min p.bears (leftR x n + p.wet),0)) c3 rfl rfl rfl fun H4 S4 c4 l4 => fin (y := (min p.bears (leftR x n + p.wet),0)) ?_ S4 c4 ds r8 (by rw [hs]; rfl) rfl
     unfold dayR
     rw [if_neg hs',if_neg h0,if_pos hw,hx2]
    ·refine offI (ldI (v := vint p.bears) c13 rfl rfl (addI (by omega) (minI (fillO (l := [vint (min p.bears (leftR x n + p.dry))]) rfl rfl rfl (by decide) (fillO (l := [vint 0]) rfl rfl rfl (by rw [wrAt_length]; decide) (fillI ?_))))))
     refine qStA (c := stC (min p.bears (leftR x n + p.dry),0)) c3 rfl rfl rfl fun H4 S4 c4 l4 => fin (y := (min p.bears (leftR x n + p.dry),0)) ?_ S4 c4 ds r8 (by rw [hs]; rfl) rfl
     unfold dayR
     rw [if_neg hs',if_neg h0,if_neg (by rw [hw]; decide),hx2]
 refine gtrI (cndI (fun h0 => ?_) fun h0 => hold.2 ?_)
 ·refine offI (ldI (v := vint p.stubble) c13 rfl rfl (lssI (hold.2 ?_)))
  refine post rfl rfl rfl rfl rfl rfl rfl ?_
  show Value.bool _ = Value.bool _
  unfold shortR
  rw [decide_eq_true h0]
  rfl
 ·refine post rfl rfl rfl rfl rfl rfl rfl ?_
  show Value.bool _ = Value.bool _
  unfold shortR
  rw [decide_eq_false h0]
  rfl
theorem good86 (hJ : Closed prog main J) {s : SkyR} {w : List UInt8} (g : skyOk s) (hl : (w.length : Int) = s.days) (hw : ∀ c ∈ w,c = 100 ∨ c = 119) (hK : ∀ H',SameX [] H H' → K (.bool (fallX s (0,0) w)) H') : Good prog J 86 [.agg ⟨s.cells⟩,strV w] H K := by
 refine g86 hJ fun ok => ?_
 rw [e86]
 obtain ⟨g1,g2,g3⟩ := id g
 refine qBox (l := s.cells) rfl fun H1 p1 e1 S1 c1 l1 => lenStrI (offI (ldI (v := vint s.days) c1 rfl rfl (neqI (cndI (fun hne => absurd hl hne) fun _ => ?_))))
 refine l86_1 hJ (fun i : Nat => w.length - i) (fun i F H' => SameX [] H1 H' ∧ i ≤ w.length ∧ (∀ j,j < i → nextOk s (splN w j) (w.getD j 0) = true) ∧ F.ds = [] ∧ F.r 1 = strV w ∧ F.r 2 = ptr p1 0 ∧ F.r 5 = vint (splN w i).2 ∧ F.r 6 = vint (i : Nat)) ?_ (s := 0)
  (.inl ⟨SameX.refl,by omega,fun j hj => absurd hj (Nat.not_lt_zero _),rfl,rfl,rfl,rfl,rfl⟩)
 rintro i F H' ⟨S,hi,hno,ds,r1,r2,r5,r6⟩ okc hnc
 rw [s86_1,r1,r6,ds]
 refine lenStrI (lssI (cndI (fun hlt => ?_) fun hge => ?_))
 rotate_left
 ·have : i = w.length := by omega
  subst this
  have := hK H' (S1.trans S)
  rw [fallX_all.2 hno] at this
  exact retL_same (by simp [unk]) this
 have hil : i < w.length := by omega
 have gi : w[i]? = some (w.getD i 0) := by rw [List.getD_eq_getElem?_getD,List.getElem?_eq_getElem hil]; rfl
 have hrow := splN_row (w := w) (i + 1)
 have hrow0 := splN_row (w := w) i
 have hlet := hw _ (List.mem_of_getElem? gi)
 have hnext := next_row g (w := w) (i := i)
 have cp := S.get c1 (by simp)
 -- behind the counting
 have post3 : ∀ {F' : RG},F'.ds = [] → F'.r 1 = strV w → F'.r 2 = ptr p1 0 → F'.r 5 = vint (splN w (i + 1)).2 → F'.r 6 = vint (i : Nat) →
   W prog J 54 H.length 86 (subC [1,1,1,0,1,0,0,1,0,0,1] (codeOf f86)) F' H' (contX pl86 prog J 54 H.length 86 ct86 [1,1,1,0,1,0,0,1,0,0,1] (codeOf f86) [Nx H.length (fun i : Nat => w.length - i) (fun i F H' => SameX [] H1 H' ∧ i ≤ w.length ∧ (∀ j,j < i → nextOk s (splN w j) (w.getD j 0) = true) ∧ F.ds = [] ∧ F.r 1 = strV w ∧ F.r 2 = ptr p1 0 ∧ F.r 5 = vint (splN w i).2 ∧ F.r 6 = vint (i : Nat)) i] (RetQ prog [.tmp 4] H.length K)) := by
  intro F' ds r1 r2 r5 r6
  rw [s86_3,r1,r2,r5,r6]
  have e100 : (Value.int .u8 100) = .int .u8 (100 : UInt8).toNat := rfl
  have bad : ∀ {F2 : RG},nextOk s (splN w i) (w.getD i 0) = false → F2.ds = [] → F2.r 53 = .bool true →
    W prog J 54 H.length 86 (subC [1,1,1,0,1,0,0,1,0,0,1,1] (codeOf f86)) F2 H' (contX pl86 prog J 54 H.length 86 ct86 [1,1,1,0,1,0,0,1,0,0,1,1] (codeOf f86) [Nx H.length (fun i : Nat => w.length - i) (fun i F H' => SameX [] H1 H' ∧ i ≤ w.length ∧ (∀ j,j < i → nextOk s (splN w j) (w.getD j 0) = true) ∧ F.ds = [] ∧ F.r 1 = strV w ∧ F.r 2 = ptr p1 0 ∧ F.r 5 = vint (splN w i).2 ∧ F.r 6 = vint (i : Nat)) i] (RetQ prog [.tmp 4] H.length K)) := by
   intro F2 hb d2 q53
   rw [s86_4,q53,d2]
   have := hK H' (S1.trans S)
   rw [fallX_no hil hb] at this
   exact cnd_true.2 (retL_same (by simp [unk]) this)
  have fine : ∀ {F2 : RG},nextOk s (splN w i) (w.getD i 0) = true → F2.ds = [] → F2.r 1 = strV w → F2.r 2 = ptr p1 0 → F2.r 5 = vint (splN w (i + 1)).2 → F2.r 6 = vint (i : Nat) → F2.r 53 = .bool false →
    W prog J 54 H.length 86 (subC [1,1,1,0,1,0,0,1,0,0,1,1] (codeOf f86)) F2 H' (contX pl86 prog J 54 H.length 86 ct86 [1,1,1,0,1,0,0,1,0,0,1,1] (codeOf f86) [Nx H.length (fun i : Nat => w.length - i) (fun i F H' => SameX [] H1 H' ∧ i ≤ w.length ∧ (∀ j,j < i → nextOk s (splN w j) (w.getD j 0) = true) ∧ F.ds = [] ∧ F.r 1 = strV w ∧ F.r 2 = ptr p1 0 ∧ F.r 5 = vint (splN w i).2 ∧ F.r 6 = vint (i : Nat)) i] (RetQ prog [.tmp 4] H.length K)) := by
   intro F2 hb d2 q1 q2 q5 q6 q53
   rw [s86_4,q53,q6]
   refine cnd_false.2 (addI (by omega) ⟨i + 1,by dsimp only; omega,.inl ⟨S,by omega,fun j hj => ?_,d2,q1,q2,q5,by show vint _ = vint _; congr 1⟩⟩)
   by_cases e : j = i
   ·rw [e]
    exact hb
   ·exact hno j (by omega)
  refine byteI gi ?_
  rw [e100]
  refine eqlU (cndI (fun hd => ?_) fun hd => ?_)
  ·have hno9 : ¬ w.getD i 0 = 119 := by rw [hd]; decide
   rw [if_neg hno9] at hnext
   refine offI (ldI (v := vint s.drought) cp rfl rfl (gtrI (cndI (fun hgt => hold.2 (bad ?_ ds rfl)) fun hle => byteI gi (eqlW ?_))))
   ·rw [hnext]
    exact decide_eq_false (not_not_intro hgt)
   ·have : wetB (w.getD i 0) = false := decide_eq_false hno9
    rw [this]
    refine cnd_false.2 (hold.2 (fine ?_ ds r1 r2 r5 r6 rfl))
    rw [hnext]
    exact decide_eq_true hle
  ·have h9 : w.getD i 0 = 119 := hlet.resolve_left hd
   rw [if_pos h9] at hnext
   refine byteI gi (eqlW ?_)
   have : wetB (w.getD i 0) = true := decide_eq_true h9
   rw [this]
   refine cnd_true.2 (offI (ldI (v := vint s.flood) cp rfl rfl (gtrI (hold.2 ?_))))
   by_cases hgt : (splN w (i + 1)).2 > s.flood
   ·rw [decide_eq_true hgt]
    refine bad ?_ ds rfl
    rw [hnext]
    exact decide_eq_false (not_not_intro hgt)
   ·rw [decide_eq_false hgt]
    refine fine ?_ ds r1 r2 r5 r6 rfl
    rw [hnext]
    exact decide_eq_true hgt
 have post2 : ∀ {F' : RG} {z : Bool},z = decide ((splN w i).1 = w.getD i 0 ∧ 0 < i) → F'.ds = [] → F'.r 1 = strV w → F'.r 2 = ptr p1 0 → F'.r 5 = vint (splN w i).2 → F'.r 6 = vint (i : Nat) → F'.r 29 = .bool z →
   W prog J 54 H.length 86 (subC [1,1,1,0,1,0,0,1,0,0,0,1] (codeOf f86)) F' H' (contX pl86 prog J 54 H.length 86 ct86 [1,1,1,0,1,0,0,1,0,0,0,1] (codeOf f86) [Nx H.length (fun i : Nat => w.length - i) (fun i F H' => SameX [] H1 H' ∧ i ≤ w.length ∧ (∀ j,j < i → nextOk s (splN w j) (w.getD j 0) = true) ∧ F.ds = [] ∧ F.r 1 = strV w ∧ F.r 2 = ptr p1 0 ∧ F.r 5 = vint (splN w i).2 ∧ F.r 6 = vint (i : Nat)) i] (RetQ prog [.tmp 4] H.length K)) := by
  intro F' z hz ds r1 r2 r5 r6 r29
  rw [s86_2,r29,r5]
  have e : splN w (i + 1) = nextX (splN w i) (w.getD i 0) := rfl
  cases z with
  | true =>
   have hc := of_decide_eq_true hz.symm
   refine cnd_true.2 (addI (by omega) (hold.2 (post3 ds r1 r2 ?_ r6)))
   rw [e]
   unfold nextX
   rw [if_neg (not_not_intro hc.1)]
   rfl
  | false =>
   have hc := of_decide_eq_false hz.symm
   refine cnd_false.2 (hold.2 (post3 ds r1 r2 ?_ r6))
   rw [e]
   unfold nextX
   by_cases hne : (splN w i).1 ≠ w.getD i 0
   ·rw [if_pos hne]
    rfl
   ·have hi0 : i = 0 := by
     rcases Nat.eq_zero_or_pos i with x | x
     ·exact x
     ·exact absurd ⟨Classical.not_not.1 hne,x⟩ hc
    have : (0 : UInt8) = w.getD i 0 := by
     have := Classical.not_not.1 hne
     rw [hi0] at this ⊢
     exact this
    rcases hlet with x | x <;> rw [x] at this <;> cases this
 refine gtrI (cndI (fun hpos => ?_) fun hz => hold.2 ?_)
 ·have hip : 0 < i := by omega
  obtain ⟨k,rfl⟩ : ∃ k,i = k + 1 := ⟨i - 1,by omega⟩
  have gk : w[k]? = some (w.getD k 0) := by rw [List.getD_eq_getElem?_getD,List.getElem?_eq_getElem (by omega)]; rfl
  refine byteI gi (subI (by omega) ?_)
  rw [show (((k + 1 : Nat) : Int) - 1) = ((k : Nat) : Int) by omega]
  refine byteI gk (eqlU (hold.2 (post2 ?_ ds r1 r2 r5 r6 rfl)))
  refine decide_eq_decide.2 ?_
  rw [splN_letter]
  exact ⟨fun e => ⟨e.symm,by omega⟩,fun e => e.1.symm⟩
 ·refine post2 (z := false) ?_ ds r1 r2 r5 r6 rfl
  exact (decide_eq_false fun e => hz (by omega)).symm
end
theorem words_mem {F : Nat} : ∀ {n : Nat} {w : List Int},w.length = n → (∀ x ∈ w,0 ≤ x ∧ x < F) → w ∈ wordsR F n
 | 0,w,h,_ => by
  rw [List.length_eq_zero_iff.1 h]
  simp [wordsR]
 | n + 1,[],h,_ => by cases h
 | n + 1,a :: w,h,hb => by
  unfold wordsR
  obtain ⟨h1,h2⟩ := hb a (by simp)
  refine List.mem_flatMap.2 ⟨a.toNat,List.mem_range.2 (by omega),List.mem_map.2 ⟨w,words_mem (by simpa using h) fun x hx => hb x (by simp [hx]),?_⟩⟩
  rw [Int.toNat_of_nonneg h1]
theorem find_same {α : Type} {p q : α → Bool} : ∀ {l : List α},(∀ x ∈ l,p x = q x) → l.find? p = l.find? q
 | [],_ => rfl
 | x :: l,h => by
  rw [List.find?_cons,List.find?_cons,h x (by simp),find_same fun y hy => h y (by simp [hy])]
def okP (p : Pas) : Std → List Int → List UInt8 → Bool
 | x,n :: hs,c :: u => !hungR x n && okP p (dayR p x n (wetB c)) hs u
 | _,_,_ => true
theorem okP_drop {p : Pas} {hs : List Int} {u : List UInt8} (hl : hs.length = u.length) : ∀ {n k : Nat},k + n = u.length → (okP p (stdR p hs u k) (hs.drop k) (u.drop k) = true ↔ ∀ i,k ≤ i → i < u.length → hungAt p hs u i = false)
 | 0,k,h => by
  rw [List.drop_of_length_le (by omega),List.drop_of_length_le (by omega)]
  exact ⟨fun _ i h1 h2 => absurd h2 (by omega),fun _ => rfl⟩
 | n + 1,k,h => by
  have hk : k < u.length := by omega
  have hk2 : k < hs.length := by omega
  rw [List.drop_eq_getElem_cons hk,List.drop_eq_getElem_cons hk2]
  have hg : u[k] = u.getD k 0 := by
   rw [List.getD_eq_getElem?_getD,List.getElem?_eq_getElem hk]
   rfl
  have hg2 : hs[k] = hs.getD k 0 := by
   rw [List.getD_eq_getElem?_getD,List.getElem?_eq_getElem hk2]
   rfl
  rw [hg,hg2]
  show (!hungAt p hs u k && okP p (stdR p hs u (k + 1)) (hs.drop (k + 1)) (u.drop (k + 1))) = true ↔ _
  rw [Bool.and_eq_true,okP_drop hl (n := n) (by omega)]
  constructor
  ·rintro ⟨h1,h2⟩ i hi1 hi2
   by_cases e : i = k
   ·rw [e]
    simpa using h1
   ·exact h2 i (by omega) hi2
  ·intro hh
   exact ⟨by rw [hh k (Nat.le_refl _) hk]; rfl,fun i h1 h2 => hh i (by omega) h2⟩
theorem okP_all {p : Pas} {hs : List Int} {u : List UInt8} (hl : hs.length = u.length) : okP p (p.grass,0) hs u = true ↔ starvR p hs u < 0 := by
 have := okP_drop (p := p) hl (n := u.length) (k := 0) (by omega)
 rw [List.drop_zero,List.drop_zero] at this
 refine this.trans ⟨fun h => ?_,fun h i _ hi => ?_⟩
 ·have : starvR p hs u = -1 := fstH_none fun i hi => h i (Nat.zero_le _) hi
  rw [this]
  decide
 ·cases e : hungAt p hs u i with
  | false => rfl
  | true => exact absurd h (starv_some hi e)
def ownW (w : List Int) (k : Nat) (heads : Int) : List Int := w.map fun a => if a = (k : Int) then heads else 0
def fedAll (ls : List Pas) (heads : Int) : Wd → List Int → List UInt8 → Bool
 | x,a :: w,c :: u => gzB ls a.toNat heads x (nextX x.sp c) && fedAll ls heads (gzW ls a.toNat heads x (nextX x.sp c)) w u
 | _,_,_ => true
theorem gzK_fed {ls : List Pas} {at_ : Nat} {heads : Int} {wet : Bool} {w : Wd} : ∀ n,n ≤ 3 → ((gzK ls at_ heads wet w n).2 = true ↔ ∀ k,k < n → hungR (w.st k) (nAt at_ heads k) = false)
 | 0,_ => ⟨fun _ k h => absurd h (Nat.not_lt_zero _),fun _ => rfl⟩
 | n + 1,h => by
  show ((gzK ls at_ heads wet w n).2 && !hungR ((gzK ls at_ heads wet w n).1.st n) (nAt at_ heads n)) = true ↔ _
  rw [gzK_rest n (by omega) n (Nat.le_refl _) (by omega),Bool.and_eq_true,gzK_fed n (by omega)]
  constructor
  ·rintro ⟨h1,h2⟩ k hk
   by_cases e : k = n
   ·rw [e]
    simpa using h2
   ·exact h1 k (by omega)
  ·intro hh
   exact ⟨fun k hk => hh k (by omega),by rw [hh n (by omega)]; rfl⟩
theorem gzK_st {ls : List Pas} {at_ : Nat} {heads : Int} {wet : Bool} {w : Wd} : ∀ n,n ≤ 3 → ∀ k,k < n → (gzK ls at_ heads wet w n).1.st k = dayR (ls.getD k pas0) (w.st k) (nAt at_ heads k) wet
 | 0,_,k,hk => absurd hk (Nat.not_lt_zero _)
 | n + 1,h,k,hk => by
  show ((gzK ls at_ heads wet w n).1.lay n _).st k = _
  rw [Wd.st_lay _ _ (by omega) (by omega)]
  by_cases e : k = n
  ·rw [if_pos e,e,gzK_rest n (by omega) n (Nat.le_refl _) (by omega)]
  ·rw [if_neg e]
   exact gzK_st n (by omega) k (by omega)
theorem nextX_c {x : Spl} {c : UInt8} : (nextX x c).1 = c := by
 unfold nextX
 split
 ·rfl
 ·rfl
theorem gzW_st {ls : List Pas} (h3 : ls.length ≤ 3) {at_ : Nat} {heads : Int} {w : Wd} {x : Spl} {k : Nat} (hk : k < ls.length) : (gzW ls at_ heads w x).st k = dayR (ls.getD k pas0) (w.st k) (nAt at_ heads k) (wetB x.1) := by
 have e : (gzW ls at_ heads w x).st k = (gzK ls at_ heads (wetB x.1) w ls.length).1.st k := by
  match k with
  | 0 => rfl
  | 1 => rfl
  | _ + 2 => rfl
 rw [e]
 exact gzK_st _ h3 k hk
theorem fedAll_iff {ls : List Pas} (h3 : ls.length ≤ 3) {heads : Int} : ∀ {w : List Int} {u : List UInt8} {x : Wd},w.length = u.length → (∀ a ∈ w,0 ≤ a) → (fedAll ls heads x w u = true ↔ ∀ k,k < ls.length → okP (ls.getD k pas0) (x.st k) (ownW w k heads) u = true)
 | [],_,x,_,_ => ⟨fun _ _ _ => rfl,fun _ => rfl⟩
 | _ :: _,[],x,h,_ => by cases h
 | a :: w,c :: u,x,h,ha => by
  have ha0 := ha a (by simp)
  have ih := fedAll_iff h3 (heads := heads) (w := w) (u := u) (x := gzW ls a.toNat heads x (nextX x.sp c)) (by simpa using h) fun b hb => ha b (by simp [hb])
  have hn : ∀ k : Nat,nAt a.toNat heads k = if a = (k : Int) then heads else 0 := fun k => by
   unfold nAt
   by_cases e : a = (k : Int)
   ·rw [if_pos e,if_pos (by omega)]
   ·rw [if_neg e,if_neg (by omega)]
  show (gzB ls a.toNat heads x (nextX x.sp c) && _) = true ↔ _
  rw [Bool.and_eq_true,ih]
  unfold gzB
  rw [gzK_fed _ h3]
  constructor
  ·rintro ⟨h1,h2⟩ k hk
   have b1 := h1 k hk
   have b2 := h2 k hk
   rw [gzW_st h3 hk,nextX_c,hn] at b2
   rw [hn] at b1
   show (!hungR (x.st k) (if a = (k : Int) then heads else 0) && okP _ _ (ownW w k heads) u) = true
   rw [b1,b2]
   rfl
  ·intro hh
   refine ⟨fun k hk => ?_,fun k hk => ?_⟩
   ·have := hh k hk
    have this : (!hungR (x.st k) (if a = (k : Int) then heads else 0) && okP _ _ (ownW w k heads) u) = true := this
    rw [Bool.and_eq_true] at this
    rw [hn]
    simpa using this.1
   ·have := hh k hk
    have this : (!hungR (x.st k) (if a = (k : Int) then heads else 0) && okP _ _ (ownW w k heads) u) = true := this
    rw [Bool.and_eq_true] at this
    rw [gzW_st h3 hk,nextX_c,hn]
    exact this.2
def okW (ls : List Pas) (s : SkyR) (heads : Int) : List Wd → List Int → Bool
 | _,[] => true
 | L,a :: w => dawnB ls s a.toNat heads L && okW ls s heads (dawnL ls s a.toNat heads L) w
theorem onward {s : SkyR} : ∀ (n : Nat) (x : Spl),∃ u ∈ strsB n,fallX s x u = true
 | 0,x => ⟨[],by simp [strsB],rfl⟩
 | n + 1,x => by
  by_cases e : x.1 = 100
  ·obtain ⟨u,h1,h2⟩ := onward (s := s) n (nextX x 119)
   refine ⟨119 :: u,by unfold strsB; exact List.mem_append.2 (.inr (List.mem_map.2 ⟨u,h1,rfl⟩)),?_⟩
   show (nextOk s x 119 && fallX s (nextX x 119) u) = true
   rw [h2,Bool.and_true]
   unfold nextOk
   rw [if_pos (by rw [e]; decide)]
  ·obtain ⟨u,h1,h2⟩ := onward (s := s) n (nextX x 100)
   refine ⟨100 :: u,by unfold strsB; exact List.mem_append.2 (.inl (List.mem_map.2 ⟨u,h1,rfl⟩)),?_⟩
   show (nextOk s x 100 && fallX s (nextX x 100) u) = true
   rw [h2,Bool.and_true]
   unfold nextOk
   rw [if_pos e]
theorem mem_afters {ls : List Pas} {s : SkyR} {at_ : Nat} {heads : Int} {x : Wd} {y : Wd × Bool} : y ∈ afters ls s at_ heads x ↔ ∃ c ∈ letters,nextOk s x.sp c = true ∧ y = (gzW ls at_ heads x (nextX x.sp c),gzB ls at_ heads x (nextX x.sp c)) := by
 unfold afters
 rw [List.mem_flatMap]
 constructor
 ·rintro ⟨c,hc,hy⟩
  split at hy
  ·rename_i h
   exact ⟨c,hc,h,List.mem_singleton.1 hy⟩
  ·cases hy
 ·rintro ⟨c,hc,h,rfl⟩
  exact ⟨c,hc,by rw [if_pos h]; simp⟩
theorem strs_cons {n : Nat} {c : UInt8} {u : List UInt8} (hc : c ∈ letters) (hu : u ∈ strsB n) : c :: u ∈ strsB (n + 1) := by
 unfold strsB
 simp only [letters,List.mem_cons,List.not_mem_nil,or_false] at hc
 rcases hc with rfl | rfl
 ·exact List.mem_append.2 (.inl (List.mem_map.2 ⟨u,hu,rfl⟩))
 ·exact List.mem_append.2 (.inr (List.mem_map.2 ⟨u,hu,rfl⟩))
theorem strs_uncons {n : Nat} {v : List UInt8} (hv : v ∈ strsB (n + 1)) : ∃ c ∈ letters,∃ u ∈ strsB n,v = c :: u := by
 unfold strsB at hv
 rcases List.mem_append.1 hv with hv | hv <;> obtain ⟨u,hu,rfl⟩ := List.mem_map.1 hv
 ·exact ⟨100,by decide,u,hu,rfl⟩
 ·exact ⟨119,by decide,u,hu,rfl⟩
theorem okW_iff {ls : List Pas} {s : SkyR} {heads : Int} : ∀ {w : List Int} {L : List Wd},okW ls s heads L w = true ↔ ∀ x ∈ L,∀ u ∈ strsB w.length,fallX s x.sp u = true → fedAll ls heads x w u = true
 | [],L => ⟨fun _ _ _ _ _ _ => by unfold fedAll; rfl,fun _ => rfl⟩
 | a :: w,L => by
  show (dawnB ls s a.toNat heads L && okW ls s heads (dawnL ls s a.toNat heads L) w) = true ↔ _
  rw [Bool.and_eq_true,okW_iff]
  unfold dawnB dawnL
  rw [List.all_eq_true]
  constructor
  ·rintro ⟨h1,h2⟩ x hx v hv hf
   obtain ⟨c,hc,u,hu,rfl⟩ := strs_uncons hv
   have hf : (nextOk s x.sp c && fallX s (nextX x.sp c) u) = true := hf
   rw [Bool.and_eq_true] at hf
   have hy := (mem_afters (ls := ls) (heads := heads) (at_ := a.toNat)).2 ⟨c,hc,hf.1,rfl⟩
   have b1 := List.all_eq_true.1 (h1 x hx) _ hy
   have b2 := h2 (gzW ls a.toNat heads x (nextX x.sp c)) (List.mem_flatMap.2 ⟨x,hx,List.mem_map.2 ⟨_,hy,rfl⟩⟩) u hu hf.2
   show (gzB ls a.toNat heads x (nextX x.sp c) && _) = true
   rw [b2,Bool.and_true]
   exact b1
  ·intro hh
   have both : ∀ x ∈ L,∀ c ∈ letters,nextOk s x.sp c = true → ∀ u ∈ strsB w.length,fallX s (nextX x.sp c) u = true → gzB ls a.toNat heads x (nextX x.sp c) = true ∧ fedAll ls heads (gzW ls a.toNat heads x (nextX x.sp c)) w u = true := fun x hx c hc hn u hu hf => by
    have := hh x hx (c :: u) (strs_cons hc hu) (show (nextOk s x.sp c && fallX s (nextX x.sp c) u) = true by rw [hn,hf]; rfl)
    have this : (gzB ls a.toNat heads x (nextX x.sp c) && fedAll ls heads (gzW ls a.toNat heads x (nextX x.sp c)) w u) = true := this
    rwa [Bool.and_eq_true] at this
   refine ⟨fun x hx => List.all_eq_true.2 fun y hy => ?_,fun y hy u hu hf => ?_⟩
   ·obtain ⟨c,hc,hn,rfl⟩ := mem_afters.1 hy
    obtain ⟨u,hu,hf⟩ := onward (s := s) w.length (nextX x.sp c)
    exact (both x hx c hc hn u hu hf).1
   ·obtain ⟨x,hx,hy⟩ := List.mem_flatMap.1 hy
    obtain ⟨z,hz,rfl⟩ := List.mem_map.1 hy
    obtain ⟨c,hc,hn,rfl⟩ := mem_afters.1 hz
    exact (both x hx c hc hn u hu hf).2
theorem part_find {ls : List Pas} {s : SkyR} {heads : Int} {L : List Wd} {W : List (List Int)} {a : Nat} : (if dawnB ls s a heads L = true then (match W.find? (okW ls s heads (dawnL ls s a heads L)) with | some r => some ((a : Int) :: r) | none => none) else none) = (W.map ((a : Int) :: ·)).find? (okW ls s heads L) := by
 rw [List.find?_map]
 have e : (okW ls s heads L ∘ fun w => (a : Int) :: w) = fun w => dawnB ls s a heads L && okW ls s heads (dawnL ls s a heads L) w := by
  funext w
  show (dawnB ls s ((a : Nat) : Int).toNat heads L && _) = _
  rw [Int.toNat_natCast]
 rw [e]
 by_cases h : dawnB ls s a heads L = true
 ·rw [if_pos h,h]
  simp only [Bool.true_and]
  cases W.find? (okW ls s heads (dawnL ls s a heads L)) <;> rfl
 ·rw [if_neg h]
  have h' : dawnB ls s a heads L = false := by simpa using h
  rw [h']
  have : W.find? (fun _ => false) = none := List.find?_eq_none.2 (by simp)
  simp only [Bool.false_and]
  rw [this]
  rfl
theorem turnA_find {ls : List Pas} {s : SkyR} {heads : Int} {L : List Wd} {rest : List Wd → Option (List Int)} {W : List (List Int)} (hr : ∀ M,rest M = W.find? (okW ls s heads M)) : ∀ k,k ≤ ls.length → turnA ls s heads L rest k = ((List.range' (ls.length - k) k).flatMap fun (i : Nat) => W.map ((i : Int) :: ·)).find? (okW ls s heads L)
 | 0,_ => rfl
 | k + 1,hk => by
  have e : ls.length - (k + 1) + 1 = ls.length - k := by omega
  rw [List.range'_succ,List.flatMap_cons,List.find?_append,← part_find,e,← turnA_find hr k (by omega)]
  simp only [turnA]
  rw [hr]
  split
  ·cases W.find? (okW ls s heads (dawnL ls s (ls.length - (k + 1)) heads L)) <;> rfl
  ·rfl
theorem restR_find {ls : List Pas} {s : SkyR} {heads : Int} : ∀ (d : Nat) (M : List Wd),restR ls s heads d M = (wordsR ls.length d).find? (okW ls s heads M)
 | 0,M => by
  show some [] = [[]].find? _
  rw [List.find?_cons,show okW ls s heads M [] = true from rfl]
 | d + 1,M => by
  show turnR ls s heads d M = _
  rw [turnR_is,turnA_find (restR_find d) _ (Nat.le_refl _),Nat.sub_self,← List.range_eq_range']
  rfl
theorem foundR_find {ls : List Pas} {s : SkyR} {heads : Int} {d a : Nat} : foundR ls s heads d a = ((wordsR ls.length d).map ((a : Int) :: ·)).find? (okW ls s heads [startW ls]) := by
 rw [← part_find]
 unfold foundR
 rw [restR_find]
 split
 ·cases (wordsR ls.length d).find? (okW ls s heads (dawnL ls s a heads [startW ls])) <;> rfl
 ·rfl
theorem startK_eq {ls : List Pas} (h3 : ls.length ≤ 3) : ∀ n,n ≤ ls.length → ∀ j,j < n → (startK ls n).st j = ((ls.getD j pas0).grass,0)
 | 0,_,j,hj => absurd hj (Nat.not_lt_zero _)
 | n + 1,h,j,hj => by
  rw [startK,Wd.st_lay _ _ (by omega) (by omega)]
  by_cases e : j = n
  ·rw [if_pos e,e]
  ·rw [if_neg e]
   exact startK_eq h3 n (by omega) j (by omega)
theorem ok_start {ls : List Pas} (h3 : ls.length ≤ 3) {s : SkyR} {heads : Int} {w : List Int} (hw : ∀ x ∈ w,0 ≤ x) : okW ls s heads [startW ls] w = true ↔ ∀ u ∈ strsB w.length,fallX s (0,0) u = true → ∀ k,k < ls.length → okP (ls.getD k pas0) ((ls.getD k pas0).grass,0) (ownW w k heads) u = true := by
 rw [okW_iff]
 have hsp : (startW ls).sp = (0,0) := startK_sp _
 constructor
 ·intro h u hu hf k hk
  have := (fedAll_iff h3 (strsB_len u hu).1.symm hw).1 (h (startW ls) (by simp) u hu (by rw [hsp]; exact hf)) k hk
  rwa [show (startW ls).st k = _ from startK_eq h3 _ (Nat.le_refl _) k hk] at this
 ·intro h x hx u hu hf
  rw [List.mem_singleton.1 hx] at hf ⊢
  rw [hsp] at hf
  refine (fedAll_iff h3 (strsB_len u hu).1.symm hw).2 fun k hk => ?_
  rw [show (startW ls).st k = _ from startK_eq h3 _ (Nat.le_refl _) k hk]
  exact h u hu hf k hk
def swp (a b x : Int) : Int := if x = a then b else if x = b then a else x
theorem swp_iff {a b x y : Int} : swp a b x = y ↔ x = swp a b y := by
 unfold swp
 constructor <;> intro h <;> (repeat' split at h) <;> (repeat' split) <;> omega
theorem found_swap {ls : List Pas} (h3 : ls.length ≤ 3) {s : SkyR} {heads : Int} {d a : Nat} (ha : a < ls.length) (hs : skipT ls a = true) (hf : foundR ls s heads d a ≠ none) : foundR ls s heads d (a - 1) ≠ none := by
 unfold skipT at hs
 rw [Bool.and_eq_true,decide_eq_true_eq,decide_eq_true_eq] at hs
 obtain ⟨h0,he⟩ := hs
 rw [foundR_find] at hf ⊢
 obtain ⟨v,hv⟩ := Option.ne_none_iff_exists'.1 hf
 have hm := List.mem_of_find?_eq_some hv
 have hok := List.find?_some hv
 obtain ⟨r,hr,rfl⟩ := List.mem_map.1 hm
 obtain ⟨r1,r2⟩ := words_of hr
 rw [Ne,List.find?_eq_none]
 intro hall
 have sb : ∀ x : Int,0 ≤ x ∧ x < ls.length → 0 ≤ swp a ((a - 1 : Nat) : Int) x ∧ swp a ((a - 1 : Nat) : Int) x < ls.length := fun x hx => by
  unfold swp
  repeat' split
  all_goals omega
 have hw0 : ∀ x ∈ (a : Int) :: r,0 ≤ x ∧ x < ls.length := fun x hx => by
  rcases List.mem_cons.1 hx with rfl | hx
  ·omega
  ·exact r2 x hx
 have hmem : (((a : Int) :: r).map (swp a ((a - 1 : Nat) : Int))) ∈ (wordsR ls.length d).map (((a - 1 : Nat) : Int) :: ·) := by
  refine List.mem_map.2 ⟨r.map (swp a ((a - 1 : Nat) : Int)),words_mem (by simpa using r1) fun x hx => ?_,?_⟩
  ·obtain ⟨y,hy,rfl⟩ := List.mem_map.1 hx
   exact sb y (r2 y hy)
  ·rw [List.map_cons]
   have : swp (a : Int) ((a - 1 : Nat) : Int) (a : Int) = ((a - 1 : Nat) : Int) := by simp [swp]
   rw [this]
 refine hall _ hmem ?_
 rw [ok_start h3 (fun x hx => (hw0 x hx).1)] at hok
 rw [ok_start h3 (fun x hx => by
  obtain ⟨y,hy,rfl⟩ := List.mem_map.1 hx
  exact (sb y (hw0 y hy)).1)]
 intro u hu hfu k hk
 rw [List.length_map] at hu
 have hk' : (0 : Int) ≤ swp a ((a - 1 : Nat) : Int) (k : Int) ∧ swp a ((a - 1 : Nat) : Int) (k : Int) < ls.length := sb k (by omega)
 have := hok u hu hfu (swp a ((a - 1 : Nat) : Int) (k : Int)).toNat (by omega)
 have hp : ls.getD (swp a ((a - 1 : Nat) : Int) (k : Int)).toNat pas0 = ls.getD k pas0 := by
  unfold swp
  split
  ·rename_i e
   have : k = a := by omega
   rw [Int.toNat_natCast,this,he]
  ·split
   ·rename_i e
    have : k = a - 1 := by omega
    rw [Int.toNat_natCast,this,he]
   ·rw [Int.toNat_natCast]
 rw [hp] at this
 have ho : ownW (((a : Int) :: r).map (swp a ((a - 1 : Nat) : Int))) k heads = ownW ((a : Int) :: r) (swp a ((a - 1 : Nat) : Int) (k : Int)).toNat heads := by
  unfold ownW
  rw [List.map_map]
  refine List.map_congr_left fun x _ => ?_
  show (if swp a ((a - 1 : Nat) : Int) x = (k : Int) then heads else 0) = if x = (((swp a ((a - 1 : Nat) : Int) (k : Int)).toNat : Nat) : Int) then heads else 0
  rw [Int.toNat_of_nonneg hk'.1]
  by_cases e : x = swp a ((a - 1 : Nat) : Int) (k : Int)
  ·rw [if_pos (swp_iff.2 e),if_pos e]
  ·rw [if_neg (fun h => e (swp_iff.1 h)),if_neg e]
 rw [ho]
 exact this
theorem some_first {α : Type} {f : Nat → Option α} {a : Nat} {x : α} (h : f a = some x) (h0 : ∀ b,b < a → f b = none) : ∀ {n : Nat},a < n → (List.range n).findSome? f = some x
 | 0,hn => absurd hn (Nat.not_lt_zero _)
 | n + 1,hn => by
  rw [List.range_succ,List.findSome?_append]
  by_cases e : a = n
  ·subst e
   have : (List.range a).findSome? f = none := by
    rw [List.findSome?_eq_none_iff]
    intro b hb
    exact h0 b (List.mem_range.1 hb)
   rw [this]
   simp [List.findSome?,h]
  ·rw [some_first h h0 (by omega : a < n)]
   rfl
def turnsB (ls : List Pas) (s : SkyR) (heads : Int) (w : List Int) : Bool := (List.range ls.length).all fun k => fedB (ls.getD k pas0) (ownW w k heads) s
theorem ok_turns {ls : List Pas} (h3 : ls.length ≤ 3) {s : SkyR} {heads : Int} {w : List Int} (hw : ∀ x ∈ w,0 ≤ x) (hl : w.length = s.days.toNat) : okW ls s heads [startW ls] w = turnsB ls s heads w := by
 rw [Bool.eq_iff_iff,ok_start h3 hw]
 unfold turnsB fedB
 rw [List.all_eq_true,rainsB_strs,← hl]
 have hlen : ∀ {k : Nat} {u : List UInt8},u ∈ strsB w.length → (ownW w k heads).length = u.length := fun hu => by
  rw [(strsB_len _ hu).1]
  simp [ownW]
 constructor
 ·intro h k hk
  rw [List.all_eq_true]
  intro u hu
  obtain ⟨h1,h2⟩ := List.mem_filter.1 hu
  rw [decide_eq_true_eq]
  exact (okP_all (hlen h1)).1 (h u h1 h2 k (List.mem_range.1 hk))
 ·intro h u hu hf k hk
  have := List.all_eq_true.1 (h k (List.mem_range.2 hk)) u (List.mem_filter.2 ⟨hu,hf⟩)
  rw [decide_eq_true_eq] at this
  exact (okP_all (hlen hu)).2 this
theorem turnT_find {ls : List Pas} (h3 : ls.length ≤ 3) {s : SkyR} {heads : Int} {d : Nat} (hd : s.days = (d : Int) + 1) : turnT ls s heads d = (wordsR ls.length (d + 1)).find? (turnsB ls s heads) := by
 have e1 : (wordsR ls.length (d + 1)).find? (turnsB ls s heads) = (wordsR ls.length (d + 1)).find? (okW ls s heads [startW ls]) := by
  refine find_same fun w hw => ?_
  obtain ⟨h1,h2⟩ := words_of hw
  exact (ok_turns h3 (fun x hx => (h2 x hx).1) (by omega)).symm
 have e2 : (wordsR ls.length (d + 1)).find? (okW ls s heads [startW ls]) = (List.range ls.length).findSome? (foundR ls s heads d) := by
  unfold wordsR
  rw [List.find?_flatMap]
  congr 1
  funext a
  exact foundR_find.symm
 rw [e1,e2]
 unfold turnT
 have hgot : ∀ a,gotR (hiredL ls ls.length) (foundR ls s heads d) a = none ∨ gotR (hiredL ls ls.length) (foundR ls s heads d) a = foundR ls s heads d a := fun a => by
  unfold gotR
  split
  ·exact .inr rfl
  ·exact .inl rfl
 by_cases hex : ∃ a,a < ls.length ∧ foundR ls s heads d a ≠ none
 ·-- the first that has found something
  have least : ∀ n,(∃ a,a < n ∧ a < ls.length ∧ foundR ls s heads d a ≠ none) → ∃ a,a < ls.length ∧ foundR ls s heads d a ≠ none ∧ ∀ b,b < a → foundR ls s heads d b = none := by
   intro n
   induction n with
   | zero => exact fun ⟨a,h,_⟩ => absurd h (Nat.not_lt_zero _)
   | succ n ih =>
    rintro ⟨a,h1,h2,h3⟩
    by_cases hb : ∃ b,b < n ∧ b < ls.length ∧ foundR ls s heads d b ≠ none
    ·exact ih hb
    ·refine ⟨a,h2,h3,fun b hb' => ?_⟩
     cases e : foundR ls s heads d b with
     | none => rfl
     | some l => exact absurd ⟨b,by omega,by omega,by rw [e]; simp⟩ hb
  obtain ⟨a0,h00,h01⟩ := hex
  obtain ⟨a,ha,hne,hmin⟩ := least (a0 + 1) ⟨a0,by omega,h00,h01⟩
  obtain ⟨l,hl⟩ := Option.ne_none_iff_exists'.1 hne
  have hsk : skipT ls a = false := by
   cases e : skipT ls a with
   | false => rfl
   | true =>
    have h0 : 0 < a := by
     unfold skipT at e
     rw [Bool.and_eq_true,decide_eq_true_eq] at e
     exact e.1
    exact absurd (hmin (a - 1) (by omega)) (found_swap h3 ha e hne)
  have hX : gotR (hiredL ls ls.length) (foundR ls s heads d) a = some l := by
   unfold gotR
   rw [if_pos ((hiredL_mem ha).2 hsk),hl]
  rw [some_first hl hmin ha,firstX_at (by omega) (fun b hb => ?_) hX]
  rcases hgot b with h | h
  ·exact h
  ·rw [h]
   exact hmin b hb
 ·have hno : ∀ a,a < ls.length → foundR ls s heads d a = none := fun a ha => by
   cases e : foundR ls s heads d a with
   | none => rfl
   | some l => exact absurd ⟨a,ha,by rw [e]; simp⟩ hex
  have : (List.range ls.length).findSome? (foundR ls s heads d) = none := by
   rw [List.findSome?_eq_none_iff]
   exact fun a ha => hno a (List.mem_range.1 ha)
  rw [this]
  refine firstX_none fun a _ => ?_
  unfold gotR
  split
  ·rename_i hm
   exact hno a (hiredL_lt hm)
  ·rfl
def turnE (ls : List Pas) (s : SkyR) (heads : Int) : Int := if cntE ls.length 1 3 ≠ 0 then cntE ls.length 1 3 else if (∀ p ∈ ls,pasOk p) ∧ skyOk s ∧ (0 ≤ heads ∧ heads ≤ 40) then 0 else 1
theorem turnE_ok {ls : List Pas} {s : SkyR} {heads : Int} (h : turnE ls s heads = 0) : LsOk ls ∧ skyOk s ∧ (0 ≤ heads ∧ heads ≤ 40) := by
 unfold turnE at h
 split at h
 ·rename_i hc
  exact absurd h hc
 ·rename_i hc
  have hc : cntE ls.length 1 3 = 0 := by simpa using hc
  split at h
  ·rename_i ho
   refine ⟨⟨?_,ho.1⟩,ho.2.1,ho.2.2⟩
   unfold cntE at hc
   split at hc
   ·cases hc
   ·split at hc
    ·cases hc
    ·constructor <;> omega
  ·cases h
theorem turnE_cnt {ls : List Pas} {s : SkyR} {heads : Int} (h : cntE ls.length 1 3 ≠ 0) : turnE ls s heads = cntE ls.length 1 3 := by
 unfold turnE
 rw [if_pos h]
theorem turnE_val {ls : List Pas} {s : SkyR} {heads : Int} (h : cntE ls.length 1 3 = 0) (hn : ¬ ((∀ p ∈ ls,pasOk p) ∧ skyOk s ∧ (0 ≤ heads ∧ heads ≤ 40))) : turnE ls s heads = 1 := by
 unfold turnE
 rw [if_neg (by simpa using h),if_neg hn]
theorem turnE_zero {ls : List Pas} {s : SkyR} {heads : Int} (h : cntE ls.length 1 3 = 0) (hn : (∀ p ∈ ls,pasOk p) ∧ skyOk s ∧ (0 ≤ heads ∧ heads ≤ 40)) : turnE ls s heads = 0 := by
 unfold turnE
 rw [if_neg (by simpa using h),if_pos hn]
section
variable {main : Bool} {J : JT} {h : List AObj} {K : Value → List AObj → Prop} {Sx : RG → List AObj → Prop}
theorem frontE11 (hJ : Closed prog main J) {ls : List Pas} {lv : Value} {s : SkyR} {heads : Int} (hlen : ls.length < 1000000) (hl : SliE h lv 6 Pas.cells ls)
  (hE : turnE ls s heads ≠ 0 → ∀ H',SameX [] h H' → K (.tuple ⟨[.slice none 0 0,vint (turnE ls s heads)]⟩) H')
  (hS : turnE ls s heads = 0 → ∀ F H,Sx F H) :
  W prog J 75 h.length 11 (trunc 6 (codeOf f11)) (RG.mk (regs [lv,.agg ⟨s.cells⟩,vint heads]) []) h (thenK Sx (RetQ prog [.tmp 6,.tmp 7] h.length K)) := by
 rw [e11]
 have kk := sliK hl
 refine qBox1 kk.1 kk.2.1 fun H1 pl e1 S1 c1 l1 => qBox (l := s.cells) rfl fun H2 ps e2 S2 c2 l2 => qBox1 rfl rfl fun H3 ph e3 S3 c3 l3 => ?_
 have c1' := S3.get (S2.get c1 (by simp)) (by simp)
 have c2' := S3.get c2 (by simp)
 have T := (S1.trans S2).trans S3
 refine ldI (v := lv) c1' rfl kk.2.2 ?_
 rw [sliE_len (T.sli hl (by simp))]
 refine good25 hJ (neqI (cndI (fun h1 => ?_) fun h1 => ldI (v := lv) c1' rfl kk.2.2 ?_))
 ·have e := turnE_cnt (s := s) (heads := heads) h1
  refine retL_same (by simp [unk]) ?_
  have := hE (by rw [e]; exact h1) H3 T
  rw [e] at this
  exact this
 have hc : cntE ls.length 1 3 = 0 := by simpa using h1
 rw [sliE_len (T.sli hl (by simp))]
 have bad : ¬ ((∀ p ∈ ls,pasOk p) ∧ skyOk s ∧ (0 ≤ heads ∧ heads ≤ 40)) → ∀ H',SameX [] h H' → K (.tuple ⟨[.slice none 0 0,vint 1]⟩) H' := fun hn H' S' => by
  have e := turnE_val hc hn
  have := hE (by rw [e]; decide) H' S'
  rw [e] at this
  exact this
 refine l11_1 hJ (fun k : Nat => ls.length - k) (fun k F H' => k ≤ ls.length ∧ SameX [] h H' ∧ H'[pl]? = some (.cells [lv] true 0) ∧ H'[ps]? = some (.cells s.cells true 0) ∧ H'[ph]? = some (.cells [vint heads] true 0) ∧ (∀ j,j < k → pasOk (ls.getD j pas0)) ∧ F.ds = [] ∧ F.r 3 = ptr pl 0 ∧ F.r 4 = ptr ps 0 ∧ F.r 5 = ptr ph 0 ∧ F.r 24 = lv ∧ F.r 25 = vint (ls.length : Nat) ∧ F.r 26 = vint (k : Nat)) ?_ (s := 0)
  (.inl ⟨by omega,T,c1',c2',c3,fun j hj => absurd hj (Nat.not_lt_zero _),rfl,rfl,rfl,rfl,rfl,rfl,rfl⟩)
 rintro k F H' ⟨hk,S,d1,d2,d3,hok,ds,r3,r4,r5,r24,r25,r26⟩ okc hnc
 rw [s11_1,r4,r5,r24,r25,r26,ds]
 refine lssI (cndI (fun hlt => ?_) fun hge => ?_)
 ·have hkl : k < ls.length := by omega
  have hl' := S.sli hl (by simp)
  obtain ⟨b,o,cs,wr,sz,hidx,hb,hos,htk,hkn⟩ := sliE_elem (s := 6) (fun _ => rfl) (by decide) hl' hkl
  have hg : ls[k] = ls.getD k pas0 := by
   rw [List.getD_eq_getElem?_getD,List.getElem?_eq_getElem hkl]
   rfl
  have hmem : ls.getD k pas0 ∈ ls := hg ▸ List.getElem_mem hkl
  rw [hg] at htk
  generalize hpk : ls.getD k pas0 = p at htk hmem
  have q1 := lt_of_get d1
  have q2 := lt_of_get d2
  have q3 := lt_of_get d3
  refine hidx _ (load_part (c := p.cells) hb hos htk rfl (qAl fun H4 p4 e4 S4 c4 l4 => qStA (c := p.cells) c4 rfl rfl rfl fun H5 S5 c5 l5 => load_part (c := p.cells) c5 (by simp [Pas.cells]) rfl rfl ?_))
  have T5 : SameX [] h H5 := (S.trans S4).thru S5 (by have := S.1; simp; omega)
  refine good26 hJ (neqI (cndI (fun h1 => ?_) fun h1 => ?_))
  ·have hnp : ¬ pasOk p := fun fp => h1 (by unfold pasE; rw [if_pos fp])
   have e : pasE p = 1 := by unfold pasE; rw [if_neg hnp]
   rw [e]
   exact retL_same (by simp [unk]) (bad (fun hh => hnp (hh.1 p hmem)) H5 T5)
  have fp : pasOk p := by
   by_cases hp : pasOk p
   ·exact hp
   ·exact absurd (by unfold pasE; rw [if_neg hp]; decide) h1
  refine addI (by omega) ⟨k + 1,by dsimp only; omega,.inl ⟨by omega,T5,S5.get (S4.get d1 (by simp)) (by simp; omega),S5.get (S4.get d2 (by simp)) (by simp; omega),S5.get (S4.get d3 (by simp)) (by simp; omega),fun j hj => ?_,ds,r3,r4,r5,r24,r25,by show vint _ = vint _; congr 1⟩⟩
  by_cases e : j = k
  ·rw [e,hpk]
   exact fp
  ·exact hok j (by omega)
 ·have hall : ∀ p ∈ ls,pasOk p := fun p hp => by
   obtain ⟨j,hj,rfl⟩ := List.getElem_of_mem hp
   have := hok j (by omega)
   rwa [List.getD_eq_getElem?_getD,List.getElem?_eq_getElem hj] at this
  refine load_part (c := s.cells) d2 (by simp [SkyR.cells]) rfl rfl ?_
  refine good27 hJ (neqI (cndI (fun h1 => ?_) fun h1 => ldI (v := vint heads) d3 rfl rfl (good28 hJ (notI (cndN (fun h2 => ?_) fun h2 => ?_)))))
  ·have hns : ¬ skyOk s := fun fs => h1 (by unfold skyE; rw [if_pos fs])
   have e : skyE s = 1 := by unfold skyE; rw [if_neg hns]
   rw [e]
   exact retL_same (by simp [unk]) (bad (fun hh => hns hh.2.1) H' S)
  ·exact retL_same (by simp [unk]) (bad (fun hh => h2 hh.2.2) H' S)
  ·have fs : skyOk s := by
    by_cases hp : skyOk s
    ·exact hp
    ·exact absurd (by unfold skyE; rw [if_neg hp]; decide) h1
   exact qAl fun H4 fI e4 S4 c4 l4 => hS (turnE_zero hc ⟨hall,fs,h2⟩) _ _
end
section
variable {W0 : World} {Post : Value → World → Prop} {h : List AObj} {K : Value → List AObj → Prop}
def KeepC (h H : List AObj) : Prop := h.length ≤ H.length ∧ ∀ (i : Nat) c wr sz,h[i]? = some (.cells c wr sz) → H[i]? = some (.cells c wr sz)
theorem KeepC.refl : KeepC h h := ⟨Nat.le_refl _,fun _ _ _ _ e => e⟩
theorem KeepC.trans {h1 h2 h3 : List AObj} (a : KeepC h1 h2) (b : KeepC h2 h3) : KeepC h1 h3 := ⟨Nat.le_trans a.1 b.1,fun i c wr sz e => b.2 i c wr sz (a.2 i c wr sz e)⟩
theorem keepC_same {h H : List AObj} (S : SameX [] h H) : KeepC h H := ⟨S.1,fun i c wr sz e => S.get e (by simp)⟩
theorem keepC_unch {h H : List AObj} (S : SameX [] (unch h) H) : KeepC h H := ⟨by have := S.1; rw [unch_len] at this; exact this,fun i c wr sz e => S.get (unchC e) (by simp)⟩
theorem KeepC.sli {h H : List AObj} (a : KeepC h H) {v : Value} {s n : Nat} {cs : List Value} (hs : Sli h v s n cs) : Sli H v s n cs := sli_frz hs fun i c wr sz hi => ⟨wr,a.2 i c wr sz hi⟩
def AnsA (h : List AObj) (K : Value → List AObj → Prop) (ls : List Pas) (s : SkyR) (heads : Int) : Prop :=
 (turnE ls s heads ≠ 0 → ∀ H',SameX [] h H' → K (.tuple ⟨[.slice none 0 0,vint (turnE ls s heads)]⟩) H') ∧
 (turnE ls s heads = 0 → AnsF (unch h) K ((wordsR ls.length s.days.toNat).find? (turnsB ls s heads)))
theorem goodA11 {ls : List Pas} {lv : Value} {s : SkyR} {heads : Int} (hlen : ls.length < 1000000) (hl : SliE h lv 6 Pas.cells ls) (hA : AnsA h K ls s heads) : Good prog (J2 prog W0 Post) 11 [lv,.agg ⟨s.cells⟩,vint heads] h K := by
 by_cases he : turnE ls s heads = 0
 ·obtain ⟨L,fs,hh⟩ := turnE_ok he
  have h8 := fs.1
  have hd : s.days = ((s.days.toNat - 1 : Nat) : Int) + 1 := by omega
  have hT := hA.2 he
  refine goodT11 L fs hh (s.days.toNat - 1) hd hl ?_
  rw [turnT_find L.few.2 hd]
  have : s.days.toNat - 1 + 1 = s.days.toNat := by omega
  rw [this]
  exact hT
 ·have hJ2 := J2.closed prog W0 Post
  refine good_of_sem hJ2 at11 body11 (by kernel_rfl) (Nat.le_of_ble_eq_true rfl) fun ok => ?_
  rw [show f11.ntmps = 75 from by kernel_rfl,show f11.results.toList = [.tmp 6,.tmp 7] from by kernel_rfl]
  refine trunc_sound hJ2 mixed 6 (codeOf f11) (by kernel_rfl) (frontE11 hJ2 hlen hl hA.1 fun h0 => absurd h0 he)
end
end Go.Proofs.Ytdbammacnfojdaa
namespace Go.Proofs.Ytdbammacnfojdaa
open Go.Conc Go.Proofs.Try
set_option maxRecDepth 100000
set_option maxHeartbeats 4000000
set_option linter.unusedVariables false
section
variable {main : Bool} {J : JT} {n0 : Nat} {h : List AObj} {K : Value → List AObj → Prop}
theorem at70 : prog.funcs[70]? = some f70 := by kernel_rfl
theorem body70 : f70.body = some (codeOf f70) := by kernel_rfl
def pl70 : Plans := [(6,true,.take 0 (.take 1 (.take 2 (.take 3 (.take 4 (.take 5 (.last 6 false (.take 7 (.take 8 (.take 9 (.take 10 (.take 11 (.take 12 (.take 13 (.fin)))))))))))))))]
def ct70 : Cuts := .go
theorem pok70 : plansOk prog pl70 (codeOf f70) = true := by kernel_rfl
theorem e70 {a0 a1 a2 : Value} : W prog J 41 h.length 70 (codeOf f70) (RG.mk (regs [a0,a1,a2]) []) h (RetQ prog [.tmp 6,.tmp 7] h.length K) =
(aBox a0 h fun v1 h2 =>
aBox a2 h2 fun v3 h4 =>
aLoad true 3 v3 h4 fun v5 =>
Good prog J 83 [v5] h4 fun v6 h7 =>
Sem J 41 h.length 70 (subC [1,1,1,0,1,0] (codeOf f70)) (RG.p (RG.p (RG.p (RG.p (RG.p (RG.p (RG.p (RG.p (RG.p (RG.mk (regs [a0,a1,a2]) []) 3 v1) 5 v3) 6 (vint 0)) 7 (vint 0)) 8 (vint 0)) 14 v5) 15 v6) 9 v6) 10 (vint 0)) h7 (contX pl70 prog J 41 h.length 70 ct70 [1,1,1,0,1,0] (codeOf f70) [] (RetQ prog [.tmp 6,.tmp 7] h.length K))) := top_eq pok70 ct70 (by kernel_rfl)
theorem g70 (hJ : Closed prog main J) {a0 a1 a2 : Value} (hs : heapOk h → W prog J 41 h.length 70 (codeOf f70) (RG.mk (regs [a0,a1,a2]) []) h (RetQ prog [.tmp 6,.tmp 7] h.length K)) : Good prog J 70 [a0,a1,a2] h K :=
 good_of_W hJ mixed at70 body70 (by kernel_rfl) (Nat.le_of_ble_eq_true rfl) hs
theorem s70_1 {f : RG} {nx0 : RG → List AObj → Prop} : W prog J 41 n0 70 (subC [1,1,1,0,1,0,0] (codeOf f70)) f h (thenK nx0 (contX pl70 prog J 41 n0 70 ct70 [1,1,1,0,1,0] (codeOf f70) [] (RetQ prog [.tmp 6,.tmp 7] n0 K))) =
(aLenS (f.r 9) fun v1 =>
aBin prog .lss 3 (f.r 10) v1 fun v2 =>
cnd v2
(aLoad true 6 (f.r 3) h fun v3 =>
aIdx 1 (f.r 9) (f.r 10) fun v4 =>
aLoad false 1 v4 h fun v5 =>
Good prog J 84 [v3,(f.r 1),v5] h fun v6 h7 =>
aExt v6 0 fun v8 =>
aExt v6 1 fun v9 =>
aExt v6 2 fun v10 =>
aLenS v10 fun v11 =>
aBin prog .eql 3 v11 (vint 0) fun v12 =>
cnd v12
(aBin prog .add 3 (f.r 8) (vint 1) fun v13 =>
aBin prog .add 3 (f.r 10) (vint 1) fun v14 =>
nx0 (RG.p (RG.p (RG.p (RG.p (RG.p (RG.p (RG.p (RG.p (RG.p (RG.p (RG.p (RG.p (RG.p (RG.p (RG.p (RG.p (RG.p (RG.p (RG.p (RG.p (RG.p (RG.p (RG.p (RG.p (RG.p (RG.p (RG.p f 16 (f.r 10)) 17 (f.r 9)) 18 v1) 19 v2) 23 v3) 24 (f.r 1)) 25 (f.r 9)) 26 (f.r 10)) 27 v4) 28 v5) 29 v6) 22 v6) 30 v8) 31 v9) 32 v10) 11 v8) 12 v9) 13 v10) 33 v10) 34 v11) 35 v12) 36 (f.r 8)) 37 v13) 8 v13) 20 (f.r 10)) 21 v14) 10 v14) h7)
(aBin prog .add 3 (f.r 10) (vint 1) fun v15 =>
nx0 (RG.p (RG.p (RG.p (RG.p (RG.p (RG.p (RG.p (RG.p (RG.p (RG.p (RG.p (RG.p (RG.p (RG.p (RG.p (RG.p (RG.p (RG.p (RG.p (RG.p (RG.p (RG.p (RG.p (RG.p f 16 (f.r 10)) 17 (f.r 9)) 18 v1) 19 v2) 23 v3) 24 (f.r 1)) 25 (f.r 9)) 26 (f.r 10)) 27 v4) 28 v5) 29 v6) 22 v6) 30 v8) 31 v9) 32 v10) 11 v8) 12 v9) 13 v10) 33 v10) 34 v11) 35 v12) 20 (f.r 10)) 21 v15) 10 v15) h7))
(aLenS (f.r 9) fun v16 =>
retL n0 K f.ds [(f.r 8),v16] h)) := sub_eq pok70 ct70 (by kernel_rfl)
theorem l70_1 (hJ : Closed prog main J) {S : Type} (μ : S → Nat) (I : S → RG → List AObj → Prop) (hI : ∀ s f h,I s f h → heapOk h → n0 ≤ h.length → W prog J 41 n0 70 (subC [1,1,1,0,1,0,0] (codeOf f70)) f h (thenK (Nx n0 μ I s) (contX pl70 prog J 41 n0 70 ct70 [1,1,1,0,1,0] (codeOf f70) [] (RetQ prog [.tmp 6,.tmp 7] n0 K))))
 {s : S} {f : RG} (hi : Gets n0 I s f h) : Sem J 41 n0 70 (subC [1,1,1,0,1,0] (codeOf f70)) f h (contX pl70 prog J 41 n0 70 ct70 [1,1,1,0,1,0] (codeOf f70) [] (RetQ prog [.tmp 6,.tmp 7] n0 K)) :=
 loop_rule hJ mixed (b := subC [1,1,1,0,1,0,0] (codeOf f70)) (by kernel_rfl) μ I hI hi
end
end Go.Proofs.Ytdbammacnfojdaa
namespace Go.Proofs.Ytdbammacnfojdaa
open Go.Conc Go.Proofs.Try
set_option maxRecDepth 100000
def strL (l : List (List UInt8)) : List Value := l.map strV
def endsR (p : Pas) (heads : List Int) (w : List UInt8) (k : Nat) : List Int := (List.range k).map fun i => (stdR p heads w (i + 1)).1
def daysR (q : Nat → Bool) (k : Nat) : List Int := ((List.range k).filter q).map Int.ofNat
theorem endsR_succ {p : Pas} {heads : List Int} {w : List UInt8} {k : Nat} : endsR p heads w (k + 1) = endsR p heads w k ++ [(stdR p heads w (k + 1)).1] := by simp [endsR,List.range_succ]
theorem daysR_succ {q : Nat → Bool} {k : Nat} : daysR q (k + 1) = daysR q k ++ (if q k = true then [(k : Int)] else []) := by
 unfold daysR
 rw [List.range_succ,List.filter_append,List.map_append]
 congr 1
 by_cases h : q k = true
 ·rw [if_pos h]
  simp [h]
 ·rw [if_neg h]
  simp [h]
theorem daysR_few {q : Nat → Bool} {k : Nat} : (daysR q k).length ≤ k := by
 unfold daysR
 rw [List.length_map]
 have := List.length_filter_le q (List.range k)
 rw [List.length_range] at this
 exact this
theorem daysR_none {q : Nat → Bool} {k : Nat} : (daysR q k).length = 0 ↔ fstH q k < 0 := by
 constructor
 ·intro h
  have : fstH q k = -1 := fstH_none fun i hi => by
   cases e : q i with
   | false => rfl
   | true =>
    have hm : (i : Int) ∈ daysR q k := List.mem_map.2 ⟨i,List.mem_filter.2 ⟨List.mem_range.2 hi,e⟩,rfl⟩
    rw [List.length_eq_zero_iff.1 h] at hm
    cases hm
  rw [this]
  decide
 ·intro h
  rw [List.length_eq_zero_iff]
  cases e : daysR q k with
  | nil => rfl
  | cons x l =>
   have hm : x ∈ daysR q k := by rw [e]; exact List.mem_cons_self
   unfold daysR at hm
   obtain ⟨i,hi,_⟩ := List.mem_map.1 hm
   obtain ⟨h1,h2⟩ := List.mem_filter.1 hi
   have := fstH_pos h2 (List.mem_range.1 h1)
   omega
section
variable {main : Bool} {J : JT} {h H : List AObj} {K : Value → List AObj → Prop} {KV : Value → Prop} {HL : List AObj → Prop} {n0 : Nat}
theorem strAdd {c : UInt8} {u : List UInt8} {t : TypeId} (hu : u.length ≤ 1000000) (hk : KV (strV (c :: u))) : aBin prog .add t (Value.string { data := #[c] }) (strV u) KV := by
 have hrm : (2000000 : Nat) < room := by decide
 show (ByteArray.mk #[c]).size + (ByteArray.mk ⟨u⟩).size ≤ room ∧ KV (.string (ByteArray.mk #[c] ++ ByteArray.mk ⟨u⟩))
 have e1 : (ByteArray.mk #[c]).size = 1 := rfl
 have e2 : (ByteArray.mk ⟨u⟩).size = u.length := rfl
 have e3 : ByteArray.mk #[c] ++ ByteArray.mk ⟨u⟩ = ByteArray.mk ⟨c :: u⟩ := by
  apply ByteArray.ext
  rw [ByteArray.data_append]
  apply Array.ext'
  rw [Array.toList_append]
  rfl
 rw [e1,e2,e3]
 exact ⟨by omega,hk⟩
theorem strGet {v : Value} {L : List (List UInt8)} {c : List Value} (hc : c = strL L) (hs : Sli H v 1 L.length c) {i : Nat} {u : List UInt8} (hu : L[i]? = some u) {K2 : Value → Value → Prop} (hK : ∀ p,K2 p (strV u)) : aIdx 1 v (vint (i : Nat)) fun p => aLoad false 1 p H (K2 p) := by
 subst hc
 have hi := (List.getElem?_eq_some_iff.1 hu).1
 exact idx_load hs ⟨by omega,by omega⟩ (by rw [Int.toNat_natCast]; unfold strL; rw [List.getElem?_map,hu]; rfl) hK
theorem strMore {v : Value} {L : List (List UInt8)} {o : Option Nat} {u : List UInt8} (O : OwnX H 1 (strL L) L.length v o) (hl : L.length < 90000)
  (hk : ∀ v' H' o',SameX o.toList H H' → OwnX H' 1 (strL (L ++ [u])) (L ++ [u]).length v' (some o') → H.length ≤ o' → K v' H') :
  (((1 * 1 : Nat) ≤ 16777216 ∧ (1 : Nat) ≤ 16777216 ∧ List.length [(Value.string { data := #[] })] = 1) ∧ aFill (zrep [(Value.string { data := #[] })] 1) [(0,1,strV u)] fun c6 => aNewS 1 c6 H fun v7 h8 =>
   ((List.length [(Value.string { data := #[] })] = 1 ∧ 0 < (1 : Nat) ∧ 0 < (16 : Nat) ∧ (16 : Nat) ≤ 1024) ∧ aApp 1 v v7 h8 K)) := by
 refine ⟨by decide,fillO (l := [strV u]) rfl rfl rfl (by decide) (fillI (qNew fun H1 p1 e1 S1 c1 l1 => ⟨by decide,?_⟩))⟩
 have c1 : H1[p1]? = some (.cells [strV u] true 0) := c1
 have h1 := S1.1
 refine ownX_more (ownX_keep O S1 (by simp)) (by omega) (by omega) (ownX_sli (ownX_new (s := 1) (n := 1) c1 rfl rfl)) fun v' H' p' e' O' S' => hk v' H' p' (S1.weak0.trans S') ?_ (by omega)
 unfold strL at O' ⊢
 rw [List.map_append,List.length_append]
 exact O'
theorem good85 (hJ : Closed prog main J) : ∀ (n : Nat) {H : List AObj} {K : Value → List AObj → Prop},n ≤ 8 → (∀ H' v o,SameX [] H H' → OwnX H' 1 (strL (strsB n)) (strsB n).length v (some o) → H.length ≤ o → K v H') → Good prog J 85 [vint (n : Nat)] H K
 | 0,H,K,_,hK => by
  refine g85 hJ fun ok => ?_
  rw [e85]
  refine eqlI (cndI (fun _ => ?_) fun hx => absurd rfl hx)
  refine ⟨by decide,fillO (l := [strV []]) rfl rfl rfl (by decide) (fillI (qNew fun H1 p1 e1 S1 c1 l1 => ?_))⟩
  have c1 : H1[p1]? = some (.cells [strV []] true 0) := c1
  have O := ownX_new (s := 1) (n := 1) c1 rfl rfl
  exact retL_same (by simp [unk]) (hK H1 _ p1 S1 O (by omega))
 | n + 1,H,K,hn,hK => by
  refine g85 hJ fun ok => ?_
  rw [e85]
  refine eqlI (cndI (fun hx => absurd hx (by omega)) fun _ => subI (by omega) ?_)
  rw [show (((n + 1 : Nat) : Int) - 1) = ((n : Nat) : Int) by omega]
  refine good85 hJ n (by omega) fun H1 av ao S1 A1 hao => ?_
  have hlen := strsB_few (n := n)
  have hpow : 2 ^ n ≤ 2 ^ 8 := Nat.pow_le_pow_right (by decide) (by omega)
  have hu : ∀ (i : Nat) (u : List UInt8),(strsB n)[i]? = some u → u.length ≤ 8 := fun i u hi => by
   have := (strsB_len u (List.mem_of_getElem? hi)).1
   omega
  let A := (strsB n).map (100 :: ·)
  refine l85_1 hJ (fun i : Nat => (strsB n).length - i) (fun i F H' => ∃ v o,SameX [] H1 H' ∧ i ≤ (strsB n).length ∧ OwnX H' 1 (strL (A.take i)) (A.take i).length v o ∧ (∀ j,o = some j → H1.length ≤ j) ∧ F.ds = [] ∧ F.r 3 = v ∧ F.r 4 = av ∧ F.r 5 = vint (i : Nat)) ?_ (s := 0)
   (.inl ⟨.slice none 0 0,none,SameX.refl,by omega,⟨rfl,rfl,.inl ⟨rfl,rfl,rfl⟩⟩,by simp,rfl,rfl,rfl,rfl⟩)
  rintro i F Hc ⟨v,o,Sc,hi,O,ho,ds,r3,r4,r5⟩ okc hnc
  have Ac := ownX_keep A1 Sc (by simp)
  rw [s85_1,r3,r4,r5]
  refine lenI (ownX_sli Ac) (lssI (cndI (fun hlt => ?_) fun hge => ?_))
  ·have hil : i < (strsB n).length := by omega
   have hui : (strsB n)[i]? = some (strsB n)[i] := List.getElem?_eq_getElem hil
   refine strGet rfl (ownX_sli Ac) hui fun p => strAdd (by have := hu i _ hui; omega) (strMore O (by simp [A]; omega) fun v' H5 o5 S5 O5 ho5 => addI (by omega) ⟨i + 1,by dsimp only; omega,.inl ⟨v',some o5,Sc.thru S5 fun y hy => .inr (ho y (by simpa using hy)),by omega,?_,fun j hj => by cases hj; have := Sc.1; omega,ds,rfl,r4,by show vint _ = vint _; congr 1⟩⟩)
   have e : A.take (i + 1) = A.take i ++ [100 :: (strsB n)[i]] := by
    rw [List.take_add_one]
    congr 1
    rw [List.getElem?_map,hui]
    rfl
   rw [e]
   exact O5
  have hie : i = (strsB n).length := by omega
  subst hie
  have eA : A.take (strsB n).length = A := List.take_of_length_le (by simp [A])
  rw [eA] at O
  let B := (strsB n).map (119 :: ·)
  refine l85_2 hJ (fun i : Nat => (strsB n).length - i) (fun i F H' => ∃ v o,SameX [] H1 H' ∧ i ≤ (strsB n).length ∧ OwnX H' 1 (strL (A ++ B.take i)) (A ++ B.take i).length v o ∧ (∀ j,o = some j → H1.length ≤ j) ∧ F.ds = [] ∧ F.r 3 = v ∧ F.r 4 = av ∧ F.r 6 = vint (i : Nat)) ?_ (s := 0)
   (.inl ⟨v,o,Sc,by omega,by simpa using O,ho,ds,r3,r4,rfl⟩)
  clear ds r3 r4 r5 okc hnc O ho Ac Sc
  rintro i F Hd ⟨v,o,Sc,hi,O,ho,ds,r3,r4,r6⟩ okc hnc
  have Ac := ownX_keep A1 Sc (by simp)
  rw [s85_2,r3,r4,r6,ds]
  refine lenI (ownX_sli Ac) (lssI (cndI (fun hlt => ?_) fun hge => ?_))
  ·have hil : i < (strsB n).length := by omega
   have hui : (strsB n)[i]? = some (strsB n)[i] := List.getElem?_eq_getElem hil
   refine strGet rfl (ownX_sli Ac) hui fun p => strAdd (by have := hu i _ hui; omega) (strMore O (by simp [A,B]; omega) fun v' H5 o5 S5 O5 ho5 => addI (by omega) ⟨i + 1,by dsimp only; omega,.inl ⟨v',some o5,Sc.thru S5 fun y hy => .inr (ho y (by simpa using hy)),by omega,?_,fun j hj => by cases hj; have := Sc.1; omega,ds,rfl,r4,by show vint _ = vint _; congr 1⟩⟩)
   have e : B.take (i + 1) = B.take i ++ [119 :: (strsB n)[i]] := by
    rw [List.take_add_one]
    congr 1
    rw [List.getElem?_map,hui]
    rfl
   rw [e,← List.append_assoc]
   exact O5
  ·have hie : i = (strsB n).length := by omega
   subst hie
   have eB : B.take (strsB n).length = B := List.take_of_length_le (by simp [B])
   rw [eB] at O
   have hAB : strsB (n + 1) = A ++ B := rfl
   rw [← hAB] at O
   have hS1 := S1.1
   have hne : ∃ j,o = some j := by
    obtain ⟨_,_,⟨h0,_,_⟩ | ⟨j,_,_,e,_⟩⟩ := id O
    ·rw [strsB_few] at h0
     have := Nat.pow_pos (n := n + 1) (show 0 < 2 by decide)
     omega
    ·exact ⟨j,e⟩
   obtain ⟨j,rfl⟩ := hne
   exact retL_same (by simpa using ownU O) (hK Hd v j (S1.trans Sc) O (by have := ho j rfl; omega))
theorem good83 (hJ : Closed prog main J) {s : SkyR} (g : skyOk s) (hK : ∀ H' v o,SameX [] H H' → OwnX H' 1 (strL (rainsB s)) (rainsB s).length v o → (∀ j,o = some j → H.length ≤ j) → K v H') : Good prog J 83 [.agg ⟨s.cells⟩] H K := by
 refine g83 hJ fun ok => ?_
 rw [e83]
 obtain ⟨g1,g2,g3⟩ := id g
 obtain ⟨n,hn⟩ := Int.eq_ofNat_of_zero_le (by omega : (0 : Int) ≤ s.days)
 have en : s.days.toNat = n := by omega
 refine qBox (l := s.cells) rfl fun H1 p1 e1 S1 c1 l1 => offI (ldI (v := vint s.days) c1 rfl rfl ?_)
 rw [hn]
 refine good85 hJ n (by omega) fun H2 av ao S2 A2 hao => ?_
 have hlen := strsB_few (n := n)
 have hpow : 2 ^ n ≤ 2 ^ 8 := Nat.pow_le_pow_right (by decide) (by omega)
 have T2 := S1.trans S2
 refine l83_1 hJ (fun i : Nat => (strsB n).length - i) (fun i F H' => ∃ v o,SameX [] H2 H' ∧ i ≤ (strsB n).length ∧ OwnX H' 1 (strL (((strsB n).take i).filter (fallX s (0,0)))) (((strsB n).take i).filter (fallX s (0,0))).length v o ∧ (∀ j,o = some j → H2.length ≤ j) ∧ F.ds = [] ∧ F.r 1 = ptr p1 0 ∧ F.r 3 = v ∧ F.r 4 = av ∧ F.r 5 = vint (i : Nat)) ?_ (s := 0)
  (.inl ⟨.slice none 0 0,none,SameX.refl,by omega,⟨rfl,rfl,.inl ⟨rfl,rfl,rfl⟩⟩,by simp,rfl,rfl,rfl,rfl,rfl⟩)
 rintro i F Hc ⟨v,o,Sc,hi,O,ho,ds,r1,r3,r4,r5⟩ okc hnc
 have Ac := ownX_keep A2 Sc (by simp)
 rw [s83_1,r1,r3,r4,r5,ds]
 have hsc := Sc.1
 refine lenI (ownX_sli Ac) (lssI (cndI (fun hlt => ?_) fun hge => ?_))
 ·have hil : i < (strsB n).length := by omega
  have hui : (strsB n)[i]? = some (strsB n)[i] := List.getElem?_eq_getElem hil
  have hw := strsB_len _ (List.getElem_mem hil)
  have et : (strsB n).take (i + 1) = (strsB n).take i ++ [(strsB n)[i]] := by
   rw [List.take_add_one,hui]
   rfl
  have hfl : (((strsB n).take i).filter (fallX s (0,0))).length ≤ i := by
   have := List.length_filter_le (fallX s (0,0)) ((strsB n).take i)
   rw [List.length_take] at this
   omega
  refine load_part (c := s.cells) ((S2.trans Sc).get c1 (by simp)) (by simp [SkyR.cells]) rfl rfl (strGet rfl (ownX_sli Ac) hui fun p => ?_)
  refine good86 hJ g (by rw [hw.1]; omega) hw.2 fun H3 S3 => cndB (fun hy => ?_) fun hno => ?_
  ·refine strGet rfl (ownX_sli (ownX_keep Ac S3 (by simp))) hui fun p2 => strMore (ownX_keep O S3 (by simp)) (by omega) fun v' H5 o5 S5 O5 ho5 => addI (by omega) ⟨i + 1,by dsimp only; omega,.inl ⟨v',some o5,(Sc.trans S3).thru S5 fun y hy => .inr (ho y (by simpa using hy)),by omega,?_,fun j hj => by cases hj; have := S3.1; omega,ds,r1,rfl,r4,by show vint _ = vint _; congr 1⟩⟩
   have e : ((strsB n).take (i + 1)).filter (fallX s (0,0)) = ((strsB n).take i).filter (fallX s (0,0)) ++ [(strsB n)[i]] := by
    rw [et,List.filter_append]
    simp [hy]
   rw [e]
   exact O5
  ·refine addI (by omega) ⟨i + 1,by dsimp only; omega,.inl ⟨v,o,Sc.trans S3,by omega,?_,ho,ds,r1,r3,r4,by show vint _ = vint _; congr 1⟩⟩
   have e : ((strsB n).take (i + 1)).filter (fallX s (0,0)) = ((strsB n).take i).filter (fallX s (0,0)) := by
    rw [et,List.filter_append]
    simp [hno]
   rw [e]
   exact ownX_keep O S3 (by simp)
 ·have hie : i = (strsB n).length := by omega
  subst hie
  rw [List.take_of_length_le (Nat.le_refl _)] at O
  have er : rainsB s = (strsB n).filter (fallX s (0,0)) := by rw [rainsB_strs,en]
  rw [← er] at O
  have hT2 := T2.1
  exact retL_same (by simpa using ownU O) (hK Hc v o (T2.trans Sc) O fun j hj => by have := ho j hj; omega)
end
section
variable {main : Bool} {J : JT} {h H Hb : List AObj} {K : Value → List AObj → Prop} {KV : Value → Prop} {HL : List AObj → Prop} {n0 : Nat}
def TillN (n : Nat) (H H' : List AObj) : Prop := H.length ≤ H'.length ∧ ∀ i,i < n → H'[i]? = H[i]?
theorem TillN.same {X : List Nat} (T : TillN Hb.length H h) (S : SameX X Hb H) : SameX X Hb h := ⟨Nat.le_trans S.1 T.1,fun i hi hx => by rw [T.2 i hi]; exact S.2 i hi hx⟩
theorem TillN.trans {n : Nat} {H1 H2 H3 : List AObj} (a : TillN n H1 H2) (b : TillN n H2 H3) : TillN n H1 H3 := ⟨Nat.le_trans a.1 b.1,fun i hi => (b.2 i hi).trans (a.2 i hi)⟩
theorem tillN_of {n : Nat} {X : List Nat} {H1 H2 : List AObj} (S : SameX X H1 H2) (hn : n ≤ H1.length) (hX : ∀ x ∈ X,n ≤ x) : TillN n H1 H2 := ⟨S.1,fun i hi => S.2 i (by omega) fun hx => by have := hX i hx; omega⟩
def Own3 (n : Nat) (H : List AObj) (a b c : List Int) (va vb vc : Value) : Prop :=
 ∃ oa ob oc,OwnX H 1 (a.map vint) a.length va oa ∧ OwnX H 1 (b.map vint) b.length vb ob ∧ OwnX H 1 (c.map vint) c.length vc oc ∧ (∀ j,oa = some j → n ≤ j ∧ ob ≠ some j ∧ oc ≠ some j) ∧ (∀ j,ob = some j → n ≤ j ∧ oc ≠ some j) ∧ (∀ j,oc = some j → n ≤ j)
theorem Own3.rot {n : Nat} {a b c : List Int} {va vb vc : Value} (O : Own3 n H a b c va vb vc) : Own3 n H b c a vb vc va := by
 obtain ⟨oa,ob,oc,A,B,C,h1,h2,h3⟩ := O
 exact ⟨ob,oc,oa,B,C,A,fun j hj => ⟨(h2 j hj).1,(h2 j hj).2,fun e => (h1 j e).2.1 hj⟩,fun j hj => ⟨h3 j hj,fun e => (h1 j e).2.2 hj⟩,fun j hj => (h1 j hj).1⟩
theorem Own3.keep {n : Nat} {a b c : List Int} {va vb vc : Value} {X : List Nat} {H' : List AObj} (O : Own3 n H a b c va vb vc) (S : SameX X H H') (hX : ∀ x ∈ X,x < n) : Own3 n H' a b c va vb vc := by
 obtain ⟨oa,ob,oc,A,B,C,h1,h2,h3⟩ := O
 refine ⟨oa,ob,oc,ownX_keep A S fun i hi hx => ?_,ownX_keep B S fun i hi hx => ?_,ownX_keep C S fun i hi hx => ?_,h1,h2,h3⟩
 ·have := h1 i hi; have := hX i hx; omega
 ·have := h2 i hi; have := hX i hx; omega
 ·have := h3 i hi; have := hX i hx; omega
theorem Own3.nil {n : Nat} : Own3 n H [] [] [] (.slice none 0 0) (.slice none 0 0) (.slice none 0 0) := ⟨none,none,none,⟨rfl,rfl,.inl ⟨rfl,rfl,rfl⟩⟩,⟨rfl,rfl,.inl ⟨rfl,rfl,rfl⟩⟩,⟨rfl,rfl,.inl ⟨rfl,rfl,rfl⟩⟩,by simp,by simp,by simp⟩
theorem Own3.add {n : Nat} {a b c : List Int} {va vb vc : Value} {x : Int} {K : Value → Value → List AObj → Prop} (O : Own3 n H a b c va vb vc) (hl : a.length < 90000) (hn : n ≤ H.length)
  (hK : ∀ y v' H',TillN n H H' → Own3 n H' (a ++ [x]) b c v' vb vc → K y v' H') :
  (((1 * 1 : Nat) ≤ 16777216 ∧ (1 : Nat) ≤ 16777216 ∧ List.length [(vint 0)] = 1) ∧ aFill (zrep [(vint 0)] 1) [(0,1,vint x)] fun c6 => aNewS 1 c6 H fun v7 h8 =>
   ((List.length [(vint 0)] = 1 ∧ 0 < (1 : Nat) ∧ 0 < (8 : Nat) ∧ (8 : Nat) ≤ 1024) ∧ aApp 1 va v7 h8 (K v7))) := by
 obtain ⟨oa,ob,oc,A,B,C,h1,h2,h3⟩ := O
 refine ⟨by decide,fillO (l := [vint x]) rfl rfl rfl (by decide) (fillI (qNew fun H1 p1 e1 S1 c1 l1 => ⟨by decide,?_⟩))⟩
 have c1 : H1[p1]? = some (.cells [vint x] true 0) := c1
 have hS := S1.1
 refine ownX_more (ownX_keep A S1 (by simp)) (by omega) (by omega) (ownX_sli (ownX_new (s := 1) (n := 1) c1 rfl rfl)) fun v' H' p' e' O' S' => ?_
 have hb1 := ownX_lt B
 have hc1 := ownX_lt C
 have na : ∀ z ∈ oa.toList,n ≤ z := fun z hz => (h1 z (Option.mem_toList.1 hz)).1
 refine hK _ v' H' ((tillN_of S1 hn (by simp)).trans (tillN_of S' (by omega) na)) ⟨some p',ob,oc,?_,ownX_keep (ownX_keep B S1 (by simp)) S' fun j hj hm => (h1 j (Option.mem_toList.1 hm)).2.1 hj,ownX_keep (ownX_keep C S1 (by simp)) S' fun j hj hm => (h1 j (Option.mem_toList.1 hm)).2.2 hj,fun j hj => ?_,h2,h3⟩
 ·rw [List.map_append,List.length_append]
  exact O'
 ·cases hj
  exact ⟨by omega,fun e => by have := hb1 _ e; omega,fun e => by have := hc1 _ e; omega⟩
set_option maxHeartbeats 800000 in
theorem good84 (hJ : Closed prog main J) {p : Pas} {heads : List Int} {w : List UInt8} {hv : Value} (f : pasOk p) (hh : headsOk heads) (sh : Sli H hv 1 heads.length (heads.map vint)) (hl : w.length ≤ heads.length) (hw : w.length ≤ 1000)
  (hK : ∀ H' ev bv nv,SameX [] H H' → Own3 H.length H' (endsR p heads w w.length) (daysR (shortAt p heads w) w.length) (daysR (hungAt p heads w) w.length) ev bv nv → K (.tuple ⟨[ev,bv,nv]⟩) H') : Good prog J 84 [.agg ⟨p.cells⟩,hv,strV w] H K := by
 refine g84 hJ fun ok => ?_
 rw [e84]
 refine qBox (l := p.cells) rfl fun H1 p3 e1 S1 c3 l1 => offI (ldI (v := vint p.grass) c3 rfl rfl ?_)
 refine fillO (l := [vint p.grass]) rfl rfl rfl (by decide) (fillO (l := [vint 0]) rfl rfl rfl (by rw [wrAt_length]; decide) (fillI ?_))
 refine qAl fun H2 px e2 S2 cx l2 => qStA (c := stC (p.grass,0)) cx rfl rfl rfl fun Hb Sb cx' lb => ?_
 have c3b : Hb[p3]? = some (.cells p.cells true 0) := Sb.get (S2.get c3 (by simp)) (by simp; omega)
 have Tb : SameX [] H Hb := (S1.trans S2).thru Sb (by simp; omega)
 have hlb : H.length ≤ Hb.length := Tb.1
 refine l84_1 hJ (fun k : Nat => w.length - k) (fun k F H' => ∃ ev bv nv,k ≤ w.length ∧ SameX [px] Hb H' ∧ H'[px]? = some (.cells (stC (stdR p heads w k)) true 0) ∧ Own3 Hb.length H' (endsR p heads w k) (daysR (shortAt p heads w) k) (daysR (hungAt p heads w) k) ev bv nv ∧ F.ds = [] ∧ F.r 1 = hv ∧ F.r 2 = strV w ∧ F.r 3 = ptr p3 0 ∧ F.r 9 = ev ∧ F.r 10 = bv ∧ F.r 11 = nv ∧ F.r 12 = ptr px 0 ∧ F.r 13 = vint (k : Nat)) ?_ (s := 0)
  (.inl ⟨_,_,_,by omega,SameX.refl,cx',Own3.nil,rfl,rfl,rfl,rfl,rfl,rfl,rfl,rfl,rfl⟩)
 rintro k F Hc ⟨ev,bv,nv,hk,S,cxc,O,ds,r1,r2,r3,r9,r10,r11,r12,r13⟩ okc hnc
 rw [s84_1,r1,r2,r3,r9,r10,r11,r12,r13,ds]
 have TH : SameX [] H Hc := Tb.thru S (by simp; omega)
 refine lenStrI (lssI (cndI (fun hlt => ?_) fun hge => ?_))
 rotate_left
 ·have hkw : k = w.length := by omega
  subst hkw
  obtain ⟨oa,ob,oc,A,B,C,h1,h2,h3⟩ := id O
  refine retL_same ?_ (hK Hc ev bv nv TH ?_)
  ·intro v hv
   simp only [List.mem_cons,List.not_mem_nil,or_false] at hv
   rcases hv with rfl | rfl | rfl
   ·exact ownU A
   ·exact ownU B
   ·exact ownU C
  ·exact ⟨oa,ob,oc,A,B,C,fun j hj => ⟨by have := (h1 j hj).1; omega,(h1 j hj).2⟩,fun j hj => ⟨by have := (h2 j hj).1; omega,(h2 j hj).2⟩,fun j hj => by have := h3 j hj; omega⟩
 have hkl : k < w.length := by omega
 have hb : w[k]? = some (w.getD k 0) := by rw [List.getD_eq_getElem?_getD,List.getElem?_eq_getElem hkl]; rfl
 have hx : heads[k]? = some (heads.getD k 0) := by rw [List.getD_eq_getElem?_getD,List.getElem?_eq_getElem (by omega)]; rfl
 have hbd := headsOk_getD hh k
 have so := stdR_ok (rain := w) f hh k
 have shc := TH.sli sh (by simp)
 obtain ⟨hb0,hbl,get⟩ := sliBlk shc (by omega)
 have c3c := S.get c3b (by simp; omega)
 have l3 := lt_of_get c3c
 have lx := lt_of_get cxc
 have hSc := S.1
 have lxb := lt_of_get cx'
 -- behind a day
 have post : ∀ {F' : RG} {H4 : List AObj} {pq : Nat},F'.ds = [] → F'.r 1 = hv → F'.r 2 = strV w → F'.r 3 = ptr p3 0 → F'.r 9 = ev → F'.r 10 = bv → F'.r 11 = nv → F'.r 12 = ptr px 0 → F'.r 13 = vint (k : Nat) → F'.r 14 = ptr pq 0 → F'.r 15 = .bool (shortAt p heads w k) → F'.r 16 = .bool (hungAt p heads w k) → SameX [] Hc H4 → H4[pq]? = some (.cells (stC (stdR p heads w (k + 1))) true 0) → Hc.length ≤ pq →
   W prog J 60 H.length 84 (subC [1,1,1,0,1,0,0,1,0,0,1] (codeOf f84)) F' H4 (contX pl84 prog J 60 H.length 84 ct84 [1,1,1,0,1,0,0,1,0,0,1] (codeOf f84) [Nx H.length (fun k : Nat => w.length - k) (fun k F H' => ∃ ev bv nv,k ≤ w.length ∧ SameX [px] Hb H' ∧ H'[px]? = some (.cells (stC (stdR p heads w k)) true 0) ∧ Own3 Hb.length H' (endsR p heads w k) (daysR (shortAt p heads w) k) (daysR (hungAt p heads w) k) ev bv nv ∧ F.ds = [] ∧ F.r 1 = hv ∧ F.r 2 = strV w ∧ F.r 3 = ptr p3 0 ∧ F.r 9 = ev ∧ F.r 10 = bv ∧ F.r 11 = nv ∧ F.r 12 = ptr px 0 ∧ F.r 13 = vint (k : Nat)) k] (RetQ prog [.tmp 6,.tmp 7,.tmp 8] H.length K)) := by
  intro F' H4 pq q0 q1 q2 q3 q9 q10 q11 q12 q13 q14 q15 q16 S4 cq hpq
  rw [s84_2,q9,q10,q12,q13,q14,q15]
  have cx4 := S4.get cxc (by simp)
  have h4 := S4.1
  refine load_part (c := stC (stdR p heads w (k + 1))) cq (by simp [stC]) rfl rfl (qStA (c := stC (stdR p heads w (k + 1))) cx4 rfl rfl rfl fun H5 S5 cx5 l5 => offI (ldI (v := vint (stdR p heads w (k + 1)).1) cx5 rfl rfl ?_))
  have O5 : Own3 Hb.length H5 (endsR p heads w k) (daysR (shortAt p heads w) k) (daysR (hungAt p heads w) k) ev bv nv := (O.keep S4 (by simp)).keep S5 (by simp; omega)
  have Q5 : SameX [px] Hb H5 := (S.trans S4.weak0).trans S5
  have d1 : (endsR p heads w k).length ≤ 1000 := by simp [endsR]; omega
  have d2 := daysR_few (q := shortAt p heads w) (k := k)
  have d3 := daysR_few (q := hungAt p heads w) (k := k)
  refine O5.add (by omega) (by have := Q5.1; omega) fun _ ev' H6 T6 O6 => ?_
  rw [← endsR_succ] at O6
  have Q6 : SameX [px] Hb H6 := T6.same Q5
  have cx6 : H6[px]? = some (.cells (stC (stdR p heads w (k + 1))) true 0) := by rw [T6.2 px lxb]; exact cx5
  -- behind the bites
  have post2 : ∀ {F2 : RG} {H7 : List AObj} {bv' : Value},F2.ds = [] → F2.r 1 = hv → F2.r 2 = strV w → F2.r 3 = ptr p3 0 → F2.r 9 = ev' → F2.r 10 = bv' → F2.r 11 = nv → F2.r 12 = ptr px 0 → F2.r 13 = vint (k : Nat) → F2.r 16 = .bool (hungAt p heads w k) → TillN Hb.length H6 H7 → Own3 Hb.length H7 (endsR p heads w (k + 1)) (daysR (shortAt p heads w) (k + 1)) (daysR (hungAt p heads w) k) ev' bv' nv →
    W prog J 60 H.length 84 (subC [1,1,1,0,1,0,0,1,0,0,1,1,1,1] (codeOf f84)) F2 H7 (contX pl84 prog J 60 H.length 84 ct84 [1,1,1,0,1,0,0,1,0,0,1,1,1,1] (codeOf f84) [Nx H.length (fun k : Nat => w.length - k) (fun k F H' => ∃ ev bv nv,k ≤ w.length ∧ SameX [px] Hb H' ∧ H'[px]? = some (.cells (stC (stdR p heads w k)) true 0) ∧ Own3 Hb.length H' (endsR p heads w k) (daysR (shortAt p heads w) k) (daysR (hungAt p heads w) k) ev bv nv ∧ F.ds = [] ∧ F.r 1 = hv ∧ F.r 2 = strV w ∧ F.r 3 = ptr p3 0 ∧ F.r 9 = ev ∧ F.r 10 = bv ∧ F.r 11 = nv ∧ F.r 12 = ptr px 0 ∧ F.r 13 = vint (k : Nat)) k] (RetQ prog [.tmp 6,.tmp 7,.tmp 8] H.length K)) := by
   intro F2 H7 bv' t0 t1 t2 t3 t9 t10 t11 t12 t13 t16 T7 O7
   rw [s84_3,t11,t13,t16]
   have Q7 := T7.same Q6
   have cx7 : H7[px]? = some (.cells (stC (stdR p heads w (k + 1))) true 0) := by rw [T7.2 px lxb]; exact cx6
   refine cndB (fun hy => ?_) fun hno => ?_
   ·refine O7.rot.rot.add (by omega) (by have := Q7.1; omega) fun _ nv' H8 T8 O8 => addI (by omega) ⟨k + 1,by dsimp only; omega,.inl ⟨ev',bv',nv',by omega,T8.same Q7,by rw [T8.2 px lxb]; exact cx7,?_,t0,t1,t2,t3,t9,t10,rfl,t12,by show vint _ = vint _; congr 1⟩⟩
    have := O8.rot
    rw [daysR_succ (q := hungAt p heads w),if_pos hy]
    exact this
   ·refine addI (by omega) ⟨k + 1,by dsimp only; omega,.inl ⟨ev',bv',nv,by omega,Q7,cx7,?_,t0,t1,t2,t3,t9,t10,t11,t12,by show vint _ = vint _; congr 1⟩⟩
    rw [daysR_succ (q := hungAt p heads w),if_neg (by rw [hno]; decide),List.append_nil]
    exact O7
  refine cndB (fun hy => ?_) fun hno => hold.2 ?_
  ·refine O6.rot.add (by omega) (by have := Q6.1; omega) fun _ bv' H7 T7 O7 => hold.2 (post2 q0 q1 q2 q3 rfl rfl q11 q12 q13 q16 T7 ?_)
   have := O7.rot.rot
   rw [daysR_succ (q := shortAt p heads w),if_pos hy]
   exact this
  ·refine post2 q0 q1 q2 q3 rfl q10 q11 q12 q13 q16 ⟨Nat.le_refl _,fun _ _ => rfl⟩ ?_
   rw [daysR_succ (q := shortAt p heads w),if_neg (by rw [hno]; decide),List.append_nil]
   exact O6
 have sb : ∀ {H'},SameX [] Hc H' → SameB (some [p3,px,hb0]) Hc H' := fun S' b hb' => S'.2 b (by simp at hb'; rcases hb' with rfl | rfl | rfl <;> omega) (by simp)
 refine ⟨[p3,px,hb0],load_part (c := p.cells) c3c (by simp [Pas.cells]) rfl rfl ⟨by simp [RdOk,ptrBlk],load_part (c := stC (stdR p heads w k)) cxc (by simp [stC]) rfl rfl ⟨by simp [RdOk,ptrBlk],get SameX.refl hx fun o => ⟨by simp [RdOk,ptrBlk],byteI hb (eqlW ⟨?_,?_⟩)⟩⟩⟩⟩
 ·refine good87 hJ f so ⟨hbd.1,by omega⟩ fun H3 S3 => ext30 (ext31 (ext32 (qAl fun H4 pq e4 S4 cq l4 => ⟨sb (S3.trans S4),?_⟩)))
  have h3 := S3.1
  refine qStA (c := stC (stdR p heads w (k + 1))) cq rfl rfl rfl fun H5 S5 cq5 l5 => hold.2 ?_
  exact post ds r1 r2 r3 r9 r10 r11 r12 r13 rfl rfl rfl ((S3.trans S4).thru S5 (by simp; omega)) cq5 (by omega)
 ·refine qAl fun H3 pq e3 S3 cq l3 => ⟨sb S3,?_⟩
  refine good87 hJ f so ⟨hbd.1,by omega⟩ fun H4 S4 => ext30 (ext31 (ext32 ?_))
  have h4 := S4.1
  refine qStA (c := stC (stdR p heads w (k + 1))) (S4.get cq (by simp)) rfl rfl rfl fun H5 S5 cq5 l5 => hold.2 ?_
  exact post ds r1 r2 r3 r9 r10 r11 r12 r13 rfl rfl rfl ((S3.trans S4).thru S5 (by simp; omega)) cq5 (by omega)
theorem good70 (hJ : Closed prog main J) {p : Pas} {heads : List Int} {s : SkyR} {hv : Value} (f : pasOk p) (g : skyOk s) (hh : headsOk heads) (sh : Sli H hv 1 heads.length (heads.map vint)) (hl : s.days ≤ heads.length)
  (hK : ∀ H',SameX [] H H' → K (.tuple ⟨[vint (((rainsB s).filter fun w => decide (starvR p heads w < 0)).length : Nat),vint ((rainsB s).length : Nat)]⟩) H') : Good prog J 70 [.agg ⟨p.cells⟩,hv,.agg ⟨s.cells⟩] H K := by
 refine g70 hJ fun ok => ?_
 rw [e70]
 obtain ⟨g1,g2,g3⟩ := id g
 refine qBox (l := p.cells) rfl fun H1 p3 e1 S1 c3 l1 => qBox (l := s.cells) rfl fun H2 p5 e2 S2 c5 l2 => load_part (c := s.cells) c5 (by simp [SkyR.cells]) rfl rfl ?_
 refine good83 hJ g fun H3 av ao S3 A3 hao => ?_
 have T3 := (S1.trans S2).trans S3
 have c33 := S3.get (S2.get c3 (by simp)) (by simp)
 have hfew := rainsB_few g
 refine l70_1 hJ (fun i : Nat => (rainsB s).length - i) (fun i F H' => SameX [] H3 H' ∧ i ≤ (rainsB s).length ∧ F.ds = [] ∧ F.r 1 = hv ∧ F.r 3 = ptr p3 0 ∧ F.r 8 = vint ((((rainsB s).take i).filter fun w => decide (starvR p heads w < 0)).length : Nat) ∧ F.r 9 = av ∧ F.r 10 = vint (i : Nat)) ?_ (s := 0)
  (.inl ⟨SameX.refl,by omega,rfl,rfl,rfl,rfl,rfl,rfl⟩)
 rintro i F Hc ⟨S,hi,ds,r1,r3,r8,r9,r10⟩ okc hnc
 have Ac := ownX_keep A3 S (by simp)
 rw [s70_1,r1,r3,r8,r9,r10,ds]
 refine lenI (ownX_sli Ac) (lssI (cndI (fun hlt => ?_) fun hge => ?_))
 rotate_left
 ·have hie : i = (rainsB s).length := by omega
  subst hie
  rw [List.take_of_length_le (Nat.le_refl _)]
  exact lenI (ownX_sli Ac) (retL_same (nu2 (by simp [unk]) (by simp [unk])) (hK Hc (T3.trans S)))
 have hil : i < (rainsB s).length := by omega
 have hui : (rainsB s)[i]? = some (rainsB s)[i] := List.getElem?_eq_getElem hil
 have hwl := rainsB_len (List.getElem_mem hil)
 have et : (rainsB s).take (i + 1) = (rainsB s).take i ++ [(rainsB s)[i]] := by
  rw [List.take_add_one,hui]
  rfl
 have hfl : (((rainsB s).take i).filter fun w => decide (starvR p heads w < 0)).length ≤ i := by
  have := List.length_filter_le (fun w => decide (starvR p heads w < 0)) ((rainsB s).take i)
  rw [List.length_take] at this
  omega
 refine load_part (c := p.cells) (S.get c33 (by simp)) (by simp [Pas.cells]) rfl rfl (strGet rfl (ownX_sli Ac) hui fun q => ?_)
 refine good84 hJ f hh ((T3.trans S).sli sh (by simp)) (by omega) (by omega) fun H4 ev bv nv S4 O4 => ext30 (ext31 (ext32 ?_))
 obtain ⟨_,_,oc,_,_,C,_,_,_⟩ := O4
 have hz := daysR_none (q := hungAt p heads (rainsB s)[i]) (k := (rainsB s)[i].length)
 refine lenI (ownX_sli C) (eqlI (cndI (fun h0 => ?_) fun h0 => ?_))
 ·refine addI (by omega) (addI (by omega) ⟨i + 1,by dsimp only; omega,.inl ⟨S.trans S4,by omega,ds,r1,r3,?_,r9,by show vint _ = vint _; congr 1⟩⟩)
  have hs : starvR p heads (rainsB s)[i] < 0 := hz.1 (by omega)
  show vint _ = vint _
  rw [et,List.filter_append,List.length_append]
  simp [hs]
 ·refine addI (by omega) ⟨i + 1,by dsimp only; omega,.inl ⟨S.trans S4,by omega,ds,r1,r3,?_,r9,by show vint _ = vint _; congr 1⟩⟩
  have hs : ¬ starvR p heads (rainsB s)[i] < 0 := fun e => h0 (by have := hz.2 e; omega)
  show F.r 8 = _
  rw [r8,et,List.filter_append,List.length_append]
  simp [hs]
end
def ownK (w : List Int) (i : Nat) (heads : Int) (k : Nat) : List Int := (List.range w.length).map fun j => if j < k ∧ w.getD j 0 = (i : Int) then heads else 0
theorem ownK_len {w : List Int} {i : Nat} {heads : Int} {k : Nat} : (ownK w i heads k).length = w.length := by simp [ownK]
theorem ownK_get {w : List Int} {i : Nat} {heads : Int} {k j : Nat} (h : j < w.length) : (ownK w i heads k)[j]? = some (if j < k ∧ w.getD j 0 = (i : Int) then heads else 0) := by
 unfold ownK
 rw [List.getElem?_map,List.getElem?_range h]
 rfl
theorem ownK_zero {w : List Int} {i : Nat} {heads : Int} : ownK w i heads 0 = List.replicate w.length 0 := by
 apply List.ext_getElem?
 intro j
 by_cases h : j < w.length
 ·rw [ownK_get h,if_neg (by omega),List.getElem?_replicate,if_pos h]
 ·rw [List.getElem?_eq_none (by rw [ownK_len]; omega),List.getElem?_eq_none (by simp; omega)]
theorem ownK_all {w : List Int} {i : Nat} {heads : Int} : ownK w i heads w.length = ownW w i heads := by
 apply List.ext_getElem?
 intro j
 unfold ownW
 by_cases h : j < w.length
 ·rw [ownK_get h,List.getElem?_map,List.getElem?_eq_getElem h,List.getD_eq_getElem?_getD,List.getElem?_eq_getElem h]
  simp [h]
 ·rw [List.getElem?_eq_none (by rw [ownK_len]; omega),List.getElem?_eq_none (by simp; omega)]
theorem ownK_yes {w : List Int} {i : Nat} {heads : Int} {k : Nat} (hk : k < w.length) (h : w.getD k 0 = (i : Int)) : (ownK w i heads k).set k heads = ownK w i heads (k + 1) := by
 apply List.ext_getElem?
 intro j
 rw [List.getElem?_set]
 by_cases e : k = j
 ·subst e
  rw [if_pos rfl,ownK_len,if_pos hk,ownK_get hk,if_pos ⟨by omega,h⟩]
 ·rw [if_neg e]
  by_cases hj : j < w.length
  ·rw [ownK_get hj,ownK_get hj]
   congr 1
   by_cases x : j < k ∧ w.getD j 0 = (i : Int)
   ·rw [if_pos x,if_pos ⟨by omega,x.2⟩]
   ·rw [if_neg x,if_neg (fun y => x ⟨by omega,y.2⟩)]
  ·rw [List.getElem?_eq_none (by rw [ownK_len]; omega),List.getElem?_eq_none (by rw [ownK_len]; omega)]
theorem ownK_no {w : List Int} {i : Nat} {heads : Int} {k : Nat} (hk : k < w.length) (h : w.getD k 0 ≠ (i : Int)) : ownK w i heads k = ownK w i heads (k + 1) := by
 apply List.ext_getElem?
 intro j
 by_cases hj : j < w.length
 ·rw [ownK_get hj,ownK_get hj]
  congr 1
  by_cases x : j < k ∧ w.getD j 0 = (i : Int)
  ·rw [if_pos x,if_pos ⟨by omega,x.2⟩]
  ·rw [if_neg x,if_neg (fun y => x ⟨?_,y.2⟩)]
   have : j ≠ k := fun e => h (e ▸ y.2)
   omega
 ·rw [List.getElem?_eq_none (by rw [ownK_len]; omega),List.getElem?_eq_none (by rw [ownK_len]; omega)]
theorem ownW_ok {w : List Int} {i : Nat} {heads : Int} (hh : 0 ≤ heads ∧ heads ≤ 40) : headsOk (ownW w i heads) := by
 intro n hn
 unfold ownW at hn
 obtain ⟨a,_,rfl⟩ := List.mem_map.1 hn
 split
 ·exact hh
 ·exact ⟨Int.le_refl _,by decide⟩
theorem ownW_len {w : List Int} {i : Nat} {heads : Int} : (ownW w i heads).length = w.length := by simp [ownW]
theorem zrep0 : ∀ k,zrep [vint 0] k = (List.replicate k (0 : Int)).map vint := by
 intro k
 induction k with
 | zero => rfl
 | succ k ih =>
  show [vint 0] ++ zrep [vint 0] k = _
  rw [ih,List.replicate_succ]
  rfl
theorem fed_cnt {p : Pas} {hs : List Int} {s : SkyR} : (((((rainsB s).filter fun w => decide (starvR p hs w < 0)).length : Nat) : Int) < ((rainsB s).length : Nat)) ↔ fedB p hs s = false := by
 have hle := List.length_filter_le (fun w => decide (starvR p hs w < 0)) (rainsB s)
 unfold fedB
 constructor
 ·intro h
  rw [List.all_eq_false]
  refine Classical.byContradiction fun hc => ?_
  have : ∀ w ∈ rainsB s,decide (starvR p hs w < 0) = true := fun w hw => by
   cases e : decide (starvR p hs w < 0) with
   | true => rfl
   | false => exact absurd ⟨w,hw,by rw [e]; simp⟩ hc
  have := List.length_filter_eq_length_iff.2 this
  omega
 ·intro h
  rw [List.all_eq_false] at h
  obtain ⟨w,hw,hn⟩ := h
  have : ((rainsB s).filter fun w => decide (starvR p hs w < 0)).length ≠ (rainsB s).length := fun e => hn (List.length_filter_eq_length_iff.1 e w hw)
  omega
section
variable {main : Bool} {J : JT} {H : List AObj} {K : Value → List AObj → Prop}
theorem good40 (hJ : Closed prog main J) {ls : List Pas} {lv wv : Value} {s : SkyR} {heads : Int} {w : List Int} (L : LsOk ls) (g : skyOk s) (hh : 0 ≤ heads ∧ heads ≤ 40) (hl : SliE H lv 6 Pas.cells ls) (hw : Sli H wv 1 w.length (w.map vint)) (hwl : (w.length : Int) = s.days)
  (hK : ∀ H',SameX [] H H' → K (.bool (turnsB ls s heads w)) H') : Good prog J 40 [lv,.agg ⟨s.cells⟩,vint heads,wv] H K := by
 refine g40 hJ fun ok => ?_
 rw [e40]
 have few := L.few
 have g8 := g.1
 have hrm : (2000 : Nat) < room := by decide
 refine qBox (l := s.cells) rfl fun H1 ps e1 S1 c1 l1 => ?_
 refine l40_1 hJ (fun k : Nat => ls.length - k) (fun k F H' => k ≤ ls.length ∧ SameX [] H H' ∧ H'[ps]? = some (.cells s.cells true 0) ∧ (∀ j,j < k → fedB (ls.getD j pas0) (ownW w j heads) s = true) ∧ F.ds = [] ∧ F.r 0 = lv ∧ F.r 2 = vint heads ∧ F.r 3 = wv ∧ F.r 5 = ptr ps 0 ∧ F.r 9 = vint (k : Nat)) ?_ (s := 0)
  (.inl ⟨by omega,S1,c1,fun j hj => absurd hj (Nat.not_lt_zero _),rfl,rfl,rfl,rfl,rfl,rfl⟩)
 rintro k F H' ⟨hk,S,d1,hok,ds,r0,r2,r3,r5,r9⟩ okc hnc
 rw [s40_1,r0,r5,r9,ds,sliE_len (S.sli hl (by simp))]
 refine lssI (cndI (fun hlt => ?_) fun hge => ?_)
 rotate_left
 ·have hke : k = ls.length := by omega
  subst hke
  refine retL_same (by simp [unk]) ?_
  have : turnsB ls s heads w = true := by
   unfold turnsB
   rw [List.all_eq_true]
   exact fun j hj => hok j (List.mem_range.1 hj)
  have h2 := hK H' S
  rw [this] at h2
  exact h2
 have hkl : k < ls.length := by omega
 refine offI (ldI (v := vint s.days) d1 rfl rfl ⟨⟨rfl,by decide⟩,?_⟩)
 refine ⟨by omega,Int.le_refl _,by omega,?_⟩
 have hdn : s.days.toNat = w.length := by omega
 rw [hdn]
 generalize hH2 : H' ++ [AObj.cells (zrep [vint 0] w.length) true 0] = H2
 have c2 : H2[H'.length]? = some (.cells ((ownK w k heads 0).map vint) true 0) := by
  rw [← hH2,zrep0,ownK_zero]
  simp
 have S2 : SameX [] H' H2 := by
  rw [← hH2]
  exact SameX.refl.app
 have lps := lt_of_get d1
 generalize hpl : H'.length = pl at c2
 refine l40_2 hJ (fun i : Nat => w.length - i) (fun i F H3 => i ≤ w.length ∧ SameX [] H' H3 ∧ H3[pl]? = some (.cells ((ownK w k heads i).map vint) true 0) ∧ F.ds = [] ∧ F.r 0 = lv ∧ F.r 2 = vint heads ∧ F.r 3 = wv ∧ F.r 5 = ptr ps 0 ∧ F.r 9 = vint (k : Nat) ∧ F.r 10 = .slice (some ⟨pl,0,none⟩) w.length w.length ∧ F.r 11 = vint (i : Nat)) ?_ (s := 0)
  (.inl ⟨by omega,S2,c2,ds,r0,r2,r3,r5,r9,rfl,rfl⟩)
 clear ds r0 r2 r3 r5 r9 okc hnc
 rintro i F H3 ⟨hi,S3,cl,ds,r0,r2,r3,r5,r9,r10,r11⟩ okc hnc
 have T3 := S.trans S3
 have hw3 := T3.sli hw (by simp)
 rw [s40_2,r0,r2,r3,r5,r9,r10,r11,ds]
 refine lenI hw3 (lssI (cndI (fun hlt2 => ?_) fun hge2 => ?_))
 ·have hiw : i < w.length := by omega
  have hwi : w[i]? = some w[i] := List.getElem?_eq_getElem hiw
  have hg : w.getD i 0 = w[i] := by
   rw [List.getD_eq_getElem?_getD,hwi]
   rfl
  refine sliN hw3 hwi fun p => eqlI (cndI (fun he => ?_) fun he => ?_)
  ·refine idxI ⟨by omega,by omega⟩ ?_
   have e1 : 0 + ((i : Nat) : Int).toNat * 1 = i := by omega
   rw [e1]
   refine qSt cl (by simp [ownK_len]; omega) rfl rfl fun H4 S4 c4 l4 => addI (by omega) ⟨i + 1,by dsimp only; omega,.inl ⟨by omega,S3.thru S4 (by simp; omega),?_,ds,r0,r2,r3,r5,r9,r10,by show vint _ = vint _; congr 1⟩⟩
   rw [c4,← List.map_set,ownK_yes hiw (by rw [hg]; exact he)]
  ·refine addI (by omega) ⟨i + 1,by dsimp only; omega,.inl ⟨by omega,S3,?_,ds,r0,r2,r3,r5,r9,r10,by show vint _ = vint _; congr 1⟩⟩
   rw [cl,ownK_no hiw (by rw [hg]; exact he)]
 ·have hie : i = w.length := by omega
  subst hie
  rw [ownK_all] at cl
  have hl3 := T3.sli hl (by simp)
  obtain ⟨b,o,cs,wr,sz,hidx,hb,hos,htk,hkn⟩ := sliE_elem (s := 6) (fun _ => rfl) (by decide) hl3 hkl
  have hgk : ls[k] = ls.getD k pas0 := by
   rw [List.getD_eq_getElem?_getD,List.getElem?_eq_getElem hkl]
   rfl
  rw [hgk] at htk
  have fp := L.get hkl
  refine hidx _ (load_part (c := (ls.getD k pas0).cells) hb hos htk rfl (load_part (c := s.cells) (S3.get d1 (by simp)) (by simp [SkyR.cells]) rfl rfl ?_))
  have hO : Sli H3 (.slice (some ⟨pl,0,none⟩) w.length w.length) 1 (ownW w k heads).length ((ownW w k heads).map vint) := by
   rw [ownW_len]
   exact ownX_sli (ownX_new (s := 1) (n := w.length) (l := (ownW w k heads).map vint) cl (by simp [ownW]) (knV _))
  refine good70 hJ fp g (ownW_ok hh) hO (by rw [ownW_len]; omega) fun H4 S4 => ext0 (ext1 (lssI ?_))
  refine cndI (fun hlt3 => ?_) fun hge3 => ?_
  ·have hf := fed_cnt.1 hlt3
   refine retL_same (by simp [unk]) ?_
   have : turnsB ls s heads w = false := by
    unfold turnsB
    rw [List.all_eq_false]
    exact ⟨k,List.mem_range.2 hkl,by rw [hf]; decide⟩
   have h2 := hK H4 (T3.trans S4)
   rw [this] at h2
   exact h2
  ·have hf : fedB (ls.getD k pas0) (ownW w k heads) s = true := by
    cases e : fedB (ls.getD k pas0) (ownW w k heads) s with
    | true => rfl
    | false => exact absurd (fed_cnt.2 e) hge3
   refine addI (by omega) ⟨k + 1,by dsimp only; omega,.inl ⟨by omega,T3.trans S4,S4.get (S3.get d1 (by simp)) (by simp),fun j hj => ?_,ds,r0,r2,r3,r5,by show vint _ = vint _; congr 1⟩⟩
   by_cases e : j = k
   ·rw [e]
    exact hf
   ·exact hok j (by omega)
def AnsR (H : List AObj) (K : Value → List AObj → Prop) (ls : List Pas) (s : SkyR) (heads : Int) : Prop :=
 (turnE ls s heads ≠ 0 → ∀ H',SameX [] H H' → K (.tuple ⟨[.slice none 0 0,vint (turnE ls s heads)]⟩) H') ∧
 (turnE ls s heads = 0 → AnsT H K ((wordsR ls.length s.days.toNat).find? (turnsB ls s heads)))
theorem find_at {α : Type} {p : α → Bool} {l : List α} {i : Nat} {x : α} (hx : l[i]? = some x) (hno : ∀ j y,j < i → l[j]? = some y → p y = false) (h : p x = true) : l.find? p = some x := by
 obtain ⟨hi,rfl⟩ := List.getElem?_eq_some_iff.1 hx
 rw [List.find?_eq_some_iff_getElem]
 exact ⟨h,i,hi,rfl,fun j hj => by rw [hno j _ hj (List.getElem?_eq_getElem (by omega))]; rfl⟩
theorem good12 (hJ : Closed prog main J) {ls : List Pas} {lv : Value} {s : SkyR} {heads : Int} (hlen : ls.length < 1000000) (hl : SliE H lv 6 Pas.cells ls) (hfew : turnE ls s heads = 0 → ls.length ^ s.days.toNat ≤ 243) (hA : AnsR H K ls s heads) : Good prog J 12 [lv,.agg ⟨s.cells⟩,vint heads] H K := by
 refine g12 hJ fun ok => ?_
 rw [e12]
 obtain ⟨hE,hT⟩ := hA
 refine qBox (l := s.cells) rfl fun H1 ps e1 S1 c1 l1 => ?_
 rw [sliE_len hl]
 refine eqlI (cndI (fun h0 => ?_) fun h0 => ?_)
 rotate_left
 rw [sliE_len hl]
 refine gtrI (cndI (fun h3 => ?_) fun h3 => ?_)
 rotate_left
 rotate_left
 ·have hc : cntE ls.length 1 3 = 7 := by
   unfold cntE
   rw [if_pos (by omega)]
  have e := turnE_cnt (s := s) (heads := heads) (ls := ls) (by rw [hc]; decide)
  rw [hc] at e
  refine retL_same (by simp [unk]) ?_
  have := hE (by rw [e]; decide) H1 S1
  rw [e] at this
  exact this
 ·have hc : cntE ls.length 1 3 = 6 := by
   unfold cntE
   rw [if_neg (by omega),if_pos (by omega)]
  have e := turnE_cnt (s := s) (heads := heads) (ls := ls) (by rw [hc]; decide)
  rw [hc] at e
  refine retL_same (by simp [unk]) ?_
  have := hE (by rw [e]; decide) H1 S1
  rw [e] at this
  exact this
 have hc : cntE ls.length 1 3 = 0 := by
  unfold cntE
  rw [if_neg (by omega),if_neg (by omega)]
 have bad : ¬ ((∀ p ∈ ls,pasOk p) ∧ skyOk s ∧ (0 ≤ heads ∧ heads ≤ 40)) → ∀ H',SameX [] H H' → K (.tuple ⟨[.slice none 0 0,vint 1]⟩) H' := fun hn H' S' => by
  have e := turnE_val hc hn
  have := hE (by rw [e]; decide) H' S'
  rw [e] at this
  exact this
 refine l12_1 hJ (fun k : Nat => ls.length - k) (fun k F H' => k ≤ ls.length ∧ SameX [] H H' ∧ H'[ps]? = some (.cells s.cells true 0) ∧ (∀ j,j < k → pasOk (ls.getD j pas0)) ∧ F.ds = [] ∧ F.r 0 = lv ∧ F.r 2 = vint heads ∧ F.r 4 = ptr ps 0 ∧ F.r 8 = vint (k : Nat)) ?_ (s := 0)
  (.inl ⟨by omega,S1,c1,fun j hj => absurd hj (Nat.not_lt_zero _),rfl,rfl,rfl,rfl,rfl⟩)
 rintro k F H' ⟨hk,S,d1,hok,ds,r0,r2,r4,r8⟩ okc hnc
 have hl' := S.sli hl (by simp)
 rw [s12_1,r0,r2,r4,r8,ds,sliE_len hl']
 refine lssI (cndI (fun hlt => ?_) fun hge => ?_)
 ·have hkl : k < ls.length := by omega
  obtain ⟨b,o,cs,wr,sz,hidx,hb,hos,htk,hkn⟩ := sliE_elem (s := 6) (fun _ => rfl) (by decide) hl' hkl
  have hg : ls[k] = ls.getD k pas0 := by
   rw [List.getD_eq_getElem?_getD,List.getElem?_eq_getElem hkl]
   rfl
  have hmem : ls.getD k pas0 ∈ ls := hg ▸ List.getElem_mem hkl
  rw [hg] at htk
  generalize hpk : ls.getD k pas0 = p at htk hmem
  refine hidx _ (load_part (c := p.cells) hb hos htk rfl (good36 hJ (neqI (cndI (fun h1 => ?_) fun h1 => ?_))))
  ·have hnp : ¬ pasOk p := fun fp => h1 (by unfold pasE; rw [if_pos fp])
   have e : pasE p = 1 := by unfold pasE; rw [if_neg hnp]
   rw [e]
   exact retL_same (by simp [unk]) (bad (fun hh => hnp (hh.1 p hmem)) H' S)
  have fp : pasOk p := by
   by_cases hp : pasOk p
   ·exact hp
   ·exact absurd (by unfold pasE; rw [if_neg hp]; decide) h1
  refine addI (by omega) ⟨k + 1,by dsimp only; omega,.inl ⟨by omega,S,d1,fun j hj => ?_,ds,r0,r2,r4,by show vint _ = vint _; congr 1⟩⟩
  by_cases e : j = k
  ·rw [e,hpk]
   exact fp
  ·exact hok j (by omega)
 have hall : ∀ p ∈ ls,pasOk p := fun p hp => by
  obtain ⟨j,hj,rfl⟩ := List.getElem_of_mem hp
  have := hok j (by omega)
  rwa [List.getD_eq_getElem?_getD,List.getElem?_eq_getElem hj] at this
 refine load_part (c := s.cells) d1 (by simp [SkyR.cells]) rfl rfl (good37 hJ (neqI (cndI (fun h1 => ?_) fun h1 => good38 hJ (notI (cndN (fun h2 => ?_) fun h2 => ?_)))))
 ·have hns : ¬ skyOk s := fun fs => h1 (by unfold skyE; rw [if_pos fs])
  have e : skyE s = 1 := by unfold skyE; rw [if_neg hns]
  rw [e]
  exact retL_same (by simp [unk]) (bad (fun hh => hns hh.2.1) H' S)
 ·exact retL_same (by simp [unk]) (bad (fun hh => h2 hh.2.2) H' S)
 have fs : skyOk s := by
  by_cases hp : skyOk s
  ·exact hp
  ·exact absurd (by unfold skyE; rw [if_neg hp]; decide) h1
 have h0E := turnE_zero hc ⟨hall,fs,h2⟩
 have hTT := hT h0E
 have L := (turnE_ok h0E).1
 have few := L.few
 have g8 := fs.1
 have hdn : s.days = ((s.days.toNat : Nat) : Int) := by omega
 rw [sliE_len hl']
 refine offI (ldI (v := vint s.days) d1 rfl rfl ?_)
 rw [hdn]
 refine good39 hJ (F := ls.length) few s.days.toNat (by omega) (hfew h0E) fun H2 av ao S2 A2 _ => ?_
 have hwlen := wordsR_len (F := ls.length) s.days.toNat
 have hf := hfew h0E
 generalize hW : wordsR ls.length s.days.toNat = Ws at A2 hTT hwlen
 refine l12_2 hJ (fun i : Nat => Ws.length - i) (fun i F H3 => i ≤ Ws.length ∧ SameX [] H2 H3 ∧ (∀ j u,j < i → Ws[j]? = some u → turnsB ls s heads u = false) ∧ F.ds = [] ∧ F.r 0 = lv ∧ F.r 2 = vint heads ∧ F.r 4 = ptr ps 0 ∧ F.r 11 = av ∧ F.r 12 = vint (i : Nat)) ?_ (s := 0)
  (.inl ⟨by omega,SameX.refl,fun j u hj => absurd hj (Nat.not_lt_zero _),ds,r0,r2,r4,rfl,rfl⟩)
 clear ds r0 r2 r4 r8 okc hnc
 rintro i F H3 ⟨hi,S3,hni,ds,r0,r2,r4,r11,r12⟩ okc hnc
 have A3 := A2.keep S3
 obtain ⟨lc,sL⟩ := A3.sli
 have T3 := (S.trans S2).trans S3
 rw [s12_2,r0,r2,r4,r11,r12,ds]
 refine lenI sL (lssI (cndI (fun hlt3 => ?_) fun hge3 => ?_))
 rotate_left
 ·have hno : Ws.find? (turnsB ls s heads) = none := by
   rw [List.find?_eq_none]
   intro u hu
   obtain ⟨j,hj⟩ := List.getElem?_of_mem hu
   have := hni j u (by have := (List.getElem?_eq_some_iff.1 hj).1; omega) hj
   rw [this]
   decide
  rw [hno] at hTT
  exact retL_same (by simp [unk]) (hTT H3 T3)
 have hil : i < Ws.length := by omega
 have hu : Ws[i]? = some Ws[i] := List.getElem?_eq_getElem hil
 generalize Ws[i] = u at hu
 have hul := (words_of (hW ▸ List.mem_of_getElem? hu)).1
 have cps := (S2.trans S3).get d1 (by simp)
 refine load_part (c := s.cells) cps (by simp [SkyR.cells]) rfl rfl (A3.get hu fun q lv2 bb Ob hb => ?_)
 refine good40 hJ L fs h2 (T3.sli hl (by simp)) (ownX_sli Ob) (by omega) fun H4 S4 => ?_
 by_cases ht : turnsB ls s heads u = true
 ·rw [ht]
  have hf := find_at hu hni ht
  rw [hf] at hTT
  refine cnd_true.2 ((A3.keep S4).get hu fun q lv3 bb' Ob' hb' => retL_same ?_ (hTT H4 lv3 (T3.trans S4) (ownX_sli Ob')))
  have := (ownX_val Ob').2.2
  have hne : lv3 ≠ unk := fun e => by
   rw [e] at this
   cases this
  intro v hv
  simp only [List.mem_cons,List.not_mem_nil,or_false] at hv
  rcases hv with rfl | rfl
  ·exact hne
  ·simp [vint,unk]
 ·have ht' : turnsB ls s heads u = false := by simpa using ht
  rw [ht']
  refine cnd_false.2 (addI (by omega) ⟨i + 1,by dsimp only; omega,.inl ⟨by omega,S3.trans S4,fun j u' hj hu' => ?_,ds,r0,r2,r4,r11,by show vint _ = vint _; congr 1⟩⟩)
  by_cases e : j = i
  ·subst e
   rw [hu] at hu'
   cases hu'
   exact ht'
  ·exact hni j u' (by omega) hu'
end
end Go.Proofs.Ytdbammacnfojdaa
namespace Go.Proofs.Ytdbammacnfojdaa
open Go.Conc Go.Proofs.Try
set_option maxRecDepth 100000
set_option maxHeartbeats 4000000
set_option linter.unusedVariables false
section
variable {main : Bool} {J : JT} {n0 : Nat} {h : List AObj} {K : Value → List AObj → Prop}
theorem at8 : prog.funcs[8]? = some f8 := by kernel_rfl
theorem body8 : f8.body = some (codeOf f8) := by kernel_rfl
def pl8 : Plans := [(2,false,.take 0 (.take 1 (.take 2 (.take 3 (.take 4 (.take 5 (.take 7 (.take 8 (.take 9 (.take 10 (.take 11 (.take 12 (.last 6 true (.last 13 true (.last 14 true (.last 15 true (.take 16 (.last 17 false (.fin))))))))))))))))))),
 (4,false,.take 0 (.take 1 (.take 2 (.take 3 (.take 4 (.take 6 (.take 7 (.take 8 (.last 5 true (.last 9 true (.last 10 true (.last 11 true (.take 12 (.last 13 false (.fin)))))))))))))))]
def ct8 : Cuts := .go
theorem pok8 : plansOk prog pl8 (codeOf f8) = true := by kernel_rfl
theorem e8 {a0 : Value} : W prog J 55 h.length 8 (codeOf f8) (RG.mk (regs [a0]) []) h (RetQ prog [.cell 2 31] h.length K) =
(aAlloc [(vint 0),(vint 0),(vint 0),(vint 0),(vint 0),(vint 0)] h fun v1 h2 =>
Good prog J 7 [a0,(vint 3),(vint 30)] h2 fun v3 h4 =>
(((3 * 1 : Nat) ≤ 16777216 ∧ (3 : Nat) ≤ 16777216 ∧ List.length [(vint 0)] = 1) ∧ aFill (zrep [(vint 0)] 3) [(0,1,(vint 1)),(1,1,(vint 1)),(2,1,(vint 2))] fun c5 =>
aNewS 3 c5 h4 fun v6 h7 =>
Good prog J 23 [a0,(vint 0),v6] h7 fun v8 h9 =>
Good prog J 10 [a0,(vint 5)] h9 fun v10 h11 =>
(((3 * 1 : Nat) ≤ 16777216 ∧ (3 : Nat) ≤ 16777216 ∧ List.length [(vint 0)] = 1) ∧ aFill (zrep [(vint 0)] 3) [(0,1,(vint 1)),(1,1,(vint 2)),(2,1,v10)] fun c12 =>
aNewS 3 c12 h11 fun v13 h14 =>
Good prog J 23 [a0,(vint 0),v13] h14 fun v15 h16 =>
aFill [(vint 0),(vint 0),(vint 0),(vint 0),(vint 0),(vint 0)] [(1,1,v3),(2,1,v8),(5,1,v15)] fun c17 =>
aAlloc [(vint 0),(vint 0),(vint 0),(vint 0),(vint 0),(vint 0)] h16 fun v18 h19 =>
aStore 6 v18 (Value.agg ⟨c17⟩) h19 fun h20 =>
(∃ B,aOff v18 1 fun v21 =>
aLoad false 1 v21 h20 fun v22 =>
RdOk (some B) (ptrBlk v21) ∧ (aOff v18 1 fun v23 =>
aLoad false 1 v23 h20 fun v24 =>
RdOk (some B) (ptrBlk v23) ∧ (aOff v18 1 fun v25 =>
aLoad false 1 v25 h20 fun v26 =>
RdOk (some B) (ptrBlk v25) ∧ (aBin prog .quo 3 v26 (vint 2) fun v27 =>
aOff v18 1 fun v28 =>
aLoad false 1 v28 h20 fun v29 =>
RdOk (some B) (ptrBlk v28) ∧ (Good prog J 10 [a0,v24] h20 fun v30 h31 =>
SameB (some B) h20 h31 ∧ (Good prog J 7 [a0,v27,v29] h31 fun v32 h33 =>
SameB (some B) h20 h33 ∧ ((((2 * 1 : Nat) ≤ 16777216 ∧ (2 : Nat) ≤ 16777216 ∧ List.length [(vint 0)] = 1) ∧ aFill (zrep [(vint 0)] 2) [(0,1,v30),(1,1,v32)] fun c34 =>
aNewS 2 c34 h33 fun v35 h36 =>
SameB (some B) h20 h36 ∧ (Good prog J 23 [a0,v22,v35] h36 fun v37 h38 =>
SameB (some B) h20 h38 ∧ (aOff v18 0 fun v39 =>
aStore 1 v39 v37 h38 fun h40 =>
aOff v18 2 fun v41 =>
aLoad false 1 v41 h40 fun v42 =>
aOff v18 2 fun v43 =>
aLoad false 1 v43 h40 fun v44 =>
aBin prog .add 3 v44 (vint 5) fun v45 =>
aMin (vint 9) [v45] fun v46 =>
Good prog J 7 [a0,v42,v46] h40 fun v47 h48 =>
aOff v18 3 fun v49 =>
aStore 1 v49 v47 h48 fun h50 =>
(∃ B,aOff v18 1 fun v51 =>
aLoad false 1 v51 h50 fun v52 =>
RdOk (some B) (ptrBlk v51) ∧ (aBin prog .quo 3 v52 (vint 2) fun v53 =>
aOff v18 1 fun v54 =>
aLoad false 1 v54 h50 fun v55 =>
RdOk (some B) (ptrBlk v54) ∧ (Good prog J 10 [a0,v53] h50 fun v56 h57 =>
SameB (some B) h50 h57 ∧ (Good prog J 10 [a0,v55] h57 fun v58 h59 =>
SameB (some B) h50 h59 ∧ ((((4 * 1 : Nat) ≤ 16777216 ∧ (4 : Nat) ≤ 16777216 ∧ List.length [(vint 0)] = 1) ∧ aFill (zrep [(vint 0)] 4) [(0,1,(vint 1)),(1,1,(vint 2)),(2,1,v56),(3,1,v58)] fun c60 =>
aNewS 4 c60 h59 fun v61 h62 =>
SameB (some B) h50 h62 ∧ (Good prog J 23 [a0,(vint 0),v61] h62 fun v63 h64 =>
SameB (some B) h50 h64 ∧ (aOff v18 4 fun v65 =>
aStore 1 v65 v63 h64 fun h66 =>
aLoad true 6 v18 h66 fun v67 =>
aStore 6 v1 v67 h66 fun h68 =>
RetQ prog [.cell 2 31] h.length K .ret (RG.p (RG.p (RG.p (RG.p (RG.p (RG.p (RG.p (RG.p (RG.p (RG.p (RG.p (RG.p (RG.p (RG.p (RG.p (RG.p (RG.p (RG.p (RG.p (RG.p (RG.p (RG.p (RG.p (RG.p (RG.p (RG.p (RG.p (RG.p (RG.p (RG.p (RG.p (RG.p (RG.p (RG.p (RG.p (RG.p (RG.p (RG.p (RG.p (RG.p (RG.p (RG.p (RG.p (RG.p (RG.p (RG.p (RG.p (RG.p (RG.p (RG.p (RG.p (RG.p (RG.p (RG.mk (regs [a0]) []) 2 v1) 4 a0) 5 v3) 6 a0) 7 v6) 8 v8) 9 a0) 10 a0) 11 v10) 12 v13) 13 v15) 14 (Value.agg ⟨c17⟩)) 3 v18) 15 a0) 16 v21) 17 v22) 18 a0) 19 v23) 20 v24) 22 a0) 23 v25) 24 v26) 25 v27) 26 v28) 27 v29) 21 v30) 28 v32) 29 v35) 30 v37) 31 v39) 32 a0) 33 v41) 34 v42) 35 v43) 36 v44) 37 v45) 38 v46) 39 v47) 40 v49) 41 a0) 42 a0) 43 v51) 44 v52) 45 v53) 47 a0) 48 v54) 49 v55) 46 v56) 50 v58) 51 v61) 52 v63) 53 v65) 54 v67) h68))))))))))))))))))))) := top_eq pok8 ct8 (by kernel_rfl)
theorem g8 (hJ : Closed prog main J) {a0 : Value} (hs : heapOk h → W prog J 55 h.length 8 (codeOf f8) (RG.mk (regs [a0]) []) h (RetQ prog [.cell 2 31] h.length K)) : Good prog J 8 [a0] h K :=
 good_of_W hJ mixed at8 body8 (by kernel_rfl) (Nat.le_of_ble_eq_true rfl) hs
theorem at9 : prog.funcs[9]? = some f9 := by kernel_rfl
theorem body9 : f9.body = some (codeOf f9) := by kernel_rfl
def pl9 : Plans := [(2,false,.take 0 (.take 1 (.take 2 (.take 4 (.take 5 (.take 6 (.last 3 true (.take 8 (.last 7 true (.last 9 false (.take 10 (.last 11 false (.fin)))))))))))))]
def ct9 : Cuts := .go
theorem pok9 : plansOk prog pl9 (codeOf f9) = true := by kernel_rfl
theorem e9 {a0 a1 : Value} : W prog J 21 h.length 9 (codeOf f9) (RG.mk (regs [a0,a1]) []) h (RetQ prog [.cell 4 24] h.length K) =
(aAlloc [(vint 0),(vint 0),(vint 0)] h fun v1 h2 =>
Good prog J 7 [a0,(vint 1),a1] h2 fun v3 h4 =>
aFill [(vint 0),(vint 0),(vint 0)] [(0,1,v3)] fun c5 =>
aAlloc [(vint 0),(vint 0),(vint 0)] h4 fun v6 h7 =>
aStore 3 v6 (Value.agg ⟨c5⟩) h7 fun h8 =>
(∃ B,aOff v6 0 fun v9 =>
aLoad false 1 v9 h8 fun v10 =>
RdOk (some B) (ptrBlk v9) ∧ (aOff v6 0 fun v11 =>
aLoad false 1 v11 h8 fun v12 =>
RdOk (some B) (ptrBlk v11) ∧ (Good prog J 7 [a0,(vint 1),v10] h8 fun v13 h14 =>
SameB (some B) h8 h14 ∧ (aOff v6 1 fun v15 =>
Good prog J 7 [a0,(vint 1),v12] h14 fun v16 h17 =>
SameB (some B) h8 h17 ∧ (aStore 1 v15 v13 h17 fun h18 =>
aOff v6 2 fun v19 =>
aStore 1 v19 v16 h18 fun h20 =>
aLoad true 3 v6 h20 fun v21 =>
aStore 3 v1 v21 h20 fun h22 =>
RetQ prog [.cell 4 24] h.length K .ret (RG.p (RG.p (RG.p (RG.p (RG.p (RG.p (RG.p (RG.p (RG.p (RG.p (RG.p (RG.p (RG.p (RG.p (RG.p (RG.p (RG.p (RG.mk (regs [a0,a1]) []) 4 v1) 6 a0) 7 a1) 8 v3) 9 (Value.agg ⟨c5⟩)) 5 v6) 10 a0) 11 v9) 12 v10) 14 a0) 15 v11) 16 v12) 13 v13) 18 v15) 17 v16) 19 v19) 20 v21) h22)))))) := top_eq pok9 ct9 (by kernel_rfl)
theorem g9 (hJ : Closed prog main J) {a0 a1 : Value} (hs : heapOk h → W prog J 21 h.length 9 (codeOf f9) (RG.mk (regs [a0,a1]) []) h (RetQ prog [.cell 4 24] h.length K)) : Good prog J 9 [a0,a1] h K :=
 good_of_W hJ mixed at9 body9 (by kernel_rfl) (Nat.le_of_ble_eq_true rfl) hs
end
end Go.Proofs.Ytdbammacnfojdaa
namespace Go.Proofs.Ytdbammacnfojdaa
open Go.Conc Go.Proofs.Try
set_option maxRecDepth 100000
section
variable {main : Bool} {J : JT} {h H : List AObj} {K : Value → List AObj → Prop} {KV : Value → Prop} {HL : List AObj → Prop} {n0 : Nat} {ns : List Int} {k : Nat}
theorem quoZ {t : TypeId} {a b : Int} (ha : 0 ≤ a ∧ a ≤ 1000000) (hb : 0 < b) (hk : KV (vint (a / b))) : aBin prog .quo t (vint a) (vint b) KV := by
 have h1 : Int.tdiv a b = a / b := Int.tdiv_eq_ediv_of_nonneg ha.1
 have h2 : 0 ≤ a / b := Int.ediv_nonneg ha.1 (by omega)
 have h3 : a / b ≤ a := Int.ediv_le_self _ ha.1
 simp only [aBin,aInt,true_and]
 rw [h1,wrap64 (by omega) (by omega)]
 exact ⟨by omega,hk⟩
theorem hxLt (a : HX h H ns k) : h.length < H.length := by
 obtain ⟨nv,k1,s,rest,rfl,_⟩ := a
 rw [hf_len]
 omega
theorem ofZ (hJ : Closed prog main J) (a : HX h H ns k) (hk : k < 1000000) {x : Int} {others : List Int} {p n c : Nat} (hp : H[p]? = some (.cells (others.map vint) true 0)) (hne : p ≠ h.length) (hn : others.length = n) (hl : n < 1000)
  (hK : ∀ y H',(y = x ∨ y ∈ others) → SameX [h.length] H H' → H'.length = H.length → HX h H' ns (k + 1) → K (vint y) H') : Good prog J 23 [ptr h.length 0,vint x,.slice (some ⟨p,0,none⟩) n c] H K := by
 subst hn
 obtain ⟨nv,k1,s,rest,rfl,b1,b2,b3⟩ := a
 refine good23 hJ (hf_hand b3.list b3.sane (by omega) b2.1 b2.2) (others := others) (fun h' hd => ?_) (by omega) fun y h1 hy hd => ?_
 ·obtain ⟨k',s',c1,c2,c3,rfl⟩ := hf_dealt hd
  have S := hf_same (h := h) (nv := nv) (k1 := k1) (k2 := k') (s1 := s) (s2 := s') (rest := rest) (g := [])
  rw [List.append_nil] at S
  exact sli_new (wr := true) (sz := 0) (S.get hp (by simpa using hne)) (by simp) (kn_ints _)
 ·obtain ⟨k',s',c1,c2,c3,rfl⟩ := hf_dealt hd
  have S := hf_same (h := h) (nv := nv) (k1 := k1) (k2 := k') (s1 := s) (s2 := s') (rest := rest) (g := [])
  rw [List.append_nil] at S
  exact hK y _ hy S (by simp [hf_len]) ⟨nv,k',s',rest,rfl,by omega,⟨c2,c3⟩,b3⟩
theorem good9 (hJ : Closed prog main J) (a : HX h H ns k) (hk : k < 400000) {D : Int} (hD : 1 ≤ D ∧ D ≤ 8)
  (hK : ∀ s H',skyOk s → s.days ≤ D → SameX [h.length] H H' → HX h H' ns (k + 3) → K (.agg ⟨s.cells⟩) H') : Good prog J 9 [ptr h.length 0,vint D] H K := by
 refine g9 hJ fun ok => ?_
 rw [e9]
 have hlt := hxLt a
 refine qAl fun H1 p1 e1 S1 c1 l1 => ?_
 have a1 := a.same S1 (by simp)
 refine amX hJ a1 (by omega) (by omega) (by omega) fun d H2 b1 b2 S2 l2 a2 => ?_
 refine fillO (l := [vint d]) rfl rfl rfl (Nat.le_of_ble_eq_true rfl) (fillI ?_)
 refine qAl fun H3 p3 e3 S3 c3 l3 => qStA (c := [vint d,vint 0,vint 0]) c3 rfl rfl rfl fun H4 S4 c4 l4 => ?_
 have a4 := (a2.same S3 (by simp)).same S4 (by simp; omega)
 have hp4 : p3 < H4.length := lt_of_get c4
 refine ⟨[p3],offI (ldI (v := vint d) c4 rfl rfl ⟨by simp [RdOk,ptrBlk],offI (ldI (v := vint d) c4 rfl rfl ⟨by simp [RdOk,ptrBlk],?_⟩)⟩)⟩
 refine amX hJ a4 (by omega) (by omega) (by omega) fun u H5 d1 d2 S5 l5 a5 => ⟨sbOne S5 hp4 (by simp; omega),offI ?_⟩
 refine amX hJ a5 (by omega) (by omega) (by omega) fun w H6 f1 f2 S6 l6 a6 => ⟨sbOne (S5.trans S6) hp4 (by simp; omega),?_⟩
 have T6 : SameX [h.length] H4 H6 := S5.trans S6
 refine qSt (T6.get c4 (by simp; omega)) (by simp) rfl rfl fun H7 S7 c7 l7 => offI (qSt c7 (by simp) rfl rfl fun H8 S8 c8 l8 => ?_)
 refine load_part (c := (⟨d,u,w⟩ : SkyR).cells) c8 (by simp) rfl rfl ?_
 have T4 : SameX [h.length] H H4 := (((S1.weak0).trans S2).trans S3.weak0).thru S4 (by simp; omega)
 have T8 : SameX [h.length] H H8 := ((T4.trans T6).thru S7 (by simp; omega)).thru S8 (by simp; omega)
 have c1' := S8.get (S7.get (T6.get (S4.get (S3.get (S2.get c1 (by simp; omega)) (by simp)) (by simp; omega)) (by simp; omega)) (by simp; omega)) (by simp; omega)
 refine qStA (c := (⟨d,u,w⟩ : SkyR).cells) c1' rfl rfl rfl fun H9 S9 c9 l9 => ?_
 refine retQs rfl (resW_cell (gg := true) (s := 3) (by kernel_rfl) (load_part (c := (⟨d,u,w⟩ : SkyR).cells) c9 (by simp [SkyR.cells]) rfl rfl (resW_nil ?_)))
 refine hK ⟨d,u,w⟩ H9 ⟨by show 1 ≤ d ∧ d ≤ 8; omega,by show 1 ≤ u ∧ u ≤ d; omega,by show 1 ≤ w ∧ w ≤ d; omega⟩ (by show d ≤ D; omega) (T8.thru S9 (by simp; omega)) (((a6.same S7 (by simp; omega)).same S8 (by simp; omega)).same S9 (by simp; omega))
set_option maxHeartbeats 800000 in
theorem good8 (hJ : Closed prog main J) (a : HX h H ns k) (hk : k < 400000)
  (hK : ∀ p H',pasOk p → 3 ≤ p.bears ∧ p.bears ≤ 30 → SameX [h.length] H H' → HX h H' ns (k + 12) → K (.agg ⟨p.cells⟩) H') : Good prog J 8 [ptr h.length 0] H K := by
 refine g8 hJ fun ok => ?_
 rw [e8]
 have hlt := hxLt a
 refine qAl fun H1 p1 e1 S1 c1 l1 => ?_
 have a1 := a.same S1 (by simp)
 refine amX hJ a1 (by omega) (by omega) (by omega) fun b H2 b1 b2 S2 l2 a2 => ?_
 refine ⟨by decide,fillO (l := [vint 1]) rfl rfl rfl (Nat.le_of_ble_eq_true rfl) (fillO (l := [vint 1]) rfl rfl rfl (Nat.le_of_ble_eq_true rfl) (fillO (l := [vint 2]) rfl rfl rfl (Nat.le_of_ble_eq_true rfl) (fillI (qNew fun H3 p3 e3 S3 c3 l3 => ?_))))⟩
 have c3 : H3[p3]? = some (.cells (([1,1,2] : List Int).map vint) true 0) := c3
 refine ofZ hJ (a2.same S3 (by simp)) (by omega) c3 (by omega) rfl (by simp) fun dr H4 m4 S4 l4 a4 => ?_
 refine upX hJ a4 (by omega) (by omega) fun u5 H5 d1 d2 S5 l5 a5 => ?_
 refine ⟨by decide,fillO (l := [vint 1]) rfl rfl rfl (Nat.le_of_ble_eq_true rfl) (fillO (l := [vint 2]) rfl rfl rfl (Nat.le_of_ble_eq_true rfl) (fillO (l := [vint u5]) rfl rfl rfl (Nat.le_of_ble_eq_true rfl) (fillI (qNew fun H6 p6 e6 S6 c6 l6 => ?_))))⟩
 have c6 : H6[p6]? = some (.cells (([1,2,u5] : List Int).map vint) true 0) := c6
 refine ofZ hJ (a5.same S6 (by simp)) (by omega) c6 (by omega) rfl (by simp) fun sl H7 m7 S7 l7 a7 => ?_
 refine fillO (l := [vint b]) rfl rfl rfl (Nat.le_of_ble_eq_true rfl) (fillO (l := [vint dr]) rfl rfl rfl (Nat.le_of_ble_eq_true rfl) (fillO (l := [vint sl]) rfl rfl rfl (Nat.le_of_ble_eq_true rfl) (fillI ?_)))
 refine qAl fun H8 p8 e8 S8 c8 l8 => qStA (c := [vint 0,vint b,vint dr,vint 0,vint 0,vint sl]) c8 rfl rfl rfl fun H9 S9 c9 l9 => ?_
 have a9 := (a7.same S8 (by simp)).same S9 (by simp; omega)
 have hp9 : p8 < H9.length := lt_of_get c9
 have hdr : 0 ≤ dr ∧ dr ≤ 2 := by
  rcases m4 with h | h
  ·omega
  ·simp only [List.mem_cons,List.not_mem_nil,or_false] at h
   omega
 have hsl : 0 ≤ sl ∧ sl ≤ 5 := by
  rcases m7 with h | h
  ·omega
  ·simp only [List.mem_cons,List.not_mem_nil,or_false] at h
   omega
 refine ⟨[p8],offI (ldI (v := vint b) c9 rfl rfl ⟨by simp [RdOk,ptrBlk],offI (ldI (v := vint b) c9 rfl rfl ⟨by simp [RdOk,ptrBlk],offI (ldI (v := vint b) c9 rfl rfl ⟨by simp [RdOk,ptrBlk],quoZ (by omega) (by decide) (offI (ldI (v := vint b) c9 rfl rfl ⟨by simp [RdOk,ptrBlk],?_⟩))⟩)⟩)⟩)⟩
 have T9 : ∀ {H'},SameX [h.length] H9 H' → SameB (some [p8]) H9 H' := fun S => sbOne S hp9 (by simp; omega)
 refine upX hJ a9 (by omega) (by omega) fun u10 H10 f1 f2 S10 l10 a10 => ⟨T9 S10,?_⟩
 refine amX hJ a10 (by omega) (by omega) (by omega) fun u11 H11 g1 g2 S11 l11 a11 => ⟨T9 (S10.trans S11),?_⟩
 have Q11 : SameX [h.length] H9 H11 := S10.trans S11
 refine ⟨by decide,fillO (l := [vint u10]) rfl rfl rfl (Nat.le_of_ble_eq_true rfl) (fillO (l := [vint u11]) rfl rfl rfl (Nat.le_of_ble_eq_true rfl) (fillI (qNew fun H12 p12 e12 S12 c12 l12 => ⟨T9 (Q11.trans S12.weak0),?_⟩)))⟩
 have c12 : H12[p12]? = some (.cells (([u10,u11] : List Int).map vint) true 0) := c12
 have hl11 := hxLt a11
 refine ofZ hJ (a11.same S12 (by simp)) (by omega) c12 (by omega) rfl (by simp) fun gr H13 m13 S13 l13 a13 => ?_
 have Q13 : SameX [h.length] H9 H13 := (Q11.trans S12.weak0).trans S13
 refine ⟨T9 Q13,offI ?_⟩
 have hgr : 0 ≤ gr ∧ gr ≤ b := by
  rcases m13 with h | h
  ·omega
  ·simp only [List.mem_cons,List.not_mem_nil,or_false] at h
   omega
 refine qSt (Q13.get c9 (by simp; omega)) (by simp) rfl rfl fun H14 S14 c14 l14 => ?_
 have c14 : H14[p8]? = some (.cells [vint gr,vint b,vint dr,vint 0,vint 0,vint sl] true 0) := c14
 have a14 := a13.same S14 (by simp; omega)
 refine offI (ldI (v := vint dr) c14 rfl rfl (offI (ldI (v := vint dr) c14 rfl rfl (addI (by omega) (minI ?_)))))
 refine amX hJ a14 (by omega) (by omega) (by omega) fun wt H15 h1 h2 S15 l15 a15 => offI ?_
 refine qSt (S15.get c14 (by simp; omega)) (by simp) rfl rfl fun H16 S16 c16 l16 => ?_
 have c16 : H16[p8]? = some (.cells [vint gr,vint b,vint dr,vint wt,vint 0,vint sl] true 0) := c16
 have a16 := a15.same S16 (by simp; omega)
 have hp16 : p8 < H16.length := lt_of_get c16
 have T16 : ∀ {H'},SameX [h.length] H16 H' → SameB (some [p8]) H16 H' := fun S => sbOne S hp16 (by simp; omega)
 refine ⟨[p8],offI (ldI (v := vint b) c16 rfl rfl ⟨by simp [RdOk,ptrBlk],quoZ (by omega) (by decide) (offI (ldI (v := vint b) c16 rfl rfl ⟨by simp [RdOk,ptrBlk],?_⟩))⟩)⟩
 refine upX hJ a16 (by omega) (by omega) fun u17 H17 q1 q2 S17 l17 a17 => ⟨T16 S17,?_⟩
 refine upX hJ a17 (by omega) (by omega) fun u18 H18 q3 q4 S18 l18 a18 => ⟨T16 (S17.trans S18),?_⟩
 have Q18 : SameX [h.length] H16 H18 := S17.trans S18
 refine ⟨by decide,fillO (l := [vint 1]) rfl rfl rfl (Nat.le_of_ble_eq_true rfl) (fillO (l := [vint 2]) rfl rfl rfl (Nat.le_of_ble_eq_true rfl) (fillO (l := [vint u17]) rfl rfl rfl (Nat.le_of_ble_eq_true rfl) (fillO (l := [vint u18]) rfl rfl rfl (Nat.le_of_ble_eq_true rfl) (fillI (qNew fun H19 p19 e19 S19 c19 l19 => ⟨T16 (Q18.trans S19.weak0),?_⟩)))))⟩
 have c19 : H19[p19]? = some (.cells (([1,2,u17,u18] : List Int).map vint) true 0) := c19
 have hl18 := hxLt a18
 refine ofZ hJ (a18.same S19 (by simp)) (by omega) c19 (by omega) rfl (by simp) fun st H20 m20 S20 l20 a20 => ?_
 have Q20 : SameX [h.length] H16 H20 := (Q18.trans S19.weak0).trans S20
 have hst : 0 ≤ st ∧ st ≤ b := by
  rcases m20 with h | h
  ·omega
  ·simp only [List.mem_cons,List.not_mem_nil,or_false] at h
   omega
 refine ⟨T16 Q20,offI (qSt (Q20.get c16 (by simp; omega)) (by simp) rfl rfl fun H21 S21 c21 l21 => ?_)⟩
 have c21 : H21[p8]? = some (.cells (⟨gr,b,dr,wt,st,sl⟩ : Pas).cells true 0) := c21
 refine load_part (c := (⟨gr,b,dr,wt,st,sl⟩ : Pas).cells) c21 (by simp [Pas.cells]) rfl rfl ?_
 have U7 : SameX [h.length] H H7 := ((((((S1.weak0).trans S2).trans S3.weak0).trans S4).trans S5).trans S6.weak0).trans S7
 have U9 : SameX [h.length] H H9 := (U7.trans S8.weak0).thru S9 (by have := U7.1; simp; omega)
 have U21 : SameX [h.length] H H21 := ((((U9.trans Q13).thru S14 (by have := U7.1; simp; omega)).trans S15).thru S16 (by have := U7.1; simp; omega)).trans Q20 |>.thru S21 (by have := U7.1; simp; omega)
 have V1 : SameX [h.length] H1 H7 := ((((S2.trans S3.weak0).trans S4).trans S5).trans S6.weak0).trans S7
 have hv1 := V1.1
 have V9 : SameX [h.length,p8] H1 H9 := ((V1.trans S8.weak0).weak (by simp)).trans (S9.weak (by simp))
 have V21 : SameX [h.length,p8] H1 H21 := (((((V9.trans (Q13.weak (by simp))).trans (S14.weak (by simp))).trans (S15.weak (by simp))).trans (S16.weak (by simp))).trans (Q20.weak (by simp))).trans (S21.weak (by simp))
 have c1' := V21.get c1 (by simp; omega)
 refine qStA (c := (⟨gr,b,dr,wt,st,sl⟩ : Pas).cells) c1' rfl rfl rfl fun H22 S22 c22 l22 => ?_
 refine retQs rfl (resW_cell (gg := true) (s := 6) (by kernel_rfl) (load_part (c := (⟨gr,b,dr,wt,st,sl⟩ : Pas).cells) c22 (by simp [Pas.cells]) rfl rfl (resW_nil ?_)))
 refine hK ⟨gr,b,dr,wt,st,sl⟩ H22 ⟨by show 1 ≤ b ∧ b ≤ 99; omega,hgr,by show 0 ≤ dr ∧ dr ≤ 9; omega,by show dr ≤ wt ∧ wt ≤ 9; omega,hst,hsl⟩ (by show 3 ≤ b ∧ b ≤ 30; omega) (U21.thru S22 (by simp; omega)) ?_
 have z21 := a20.same S21 (by simp; omega)
 have z22 := z21.same S22 (by simp; omega)
 exact z22.mono (by omega)
end
section
variable {h H H' : List AObj} {ns : List Int} {k : Nat}
theorem HX.unch (a : HX h H ns k) : HX (unch h) (unch H) ns k := by
 obtain ⟨nv,k',s,rest,rfl,h1,h2,h3⟩ := a
 exact ⟨nv,k',s,Go.Proofs.Ytdbammacnfojdaa.unch rest,by simp [HF,Go.Proofs.Ytdbammacnfojdaa.unch,unchO],h1,h2,⟨unch_sli h3.1,h3.2⟩⟩
end
theorem pow_bd {F n : Nat} (hF : 1 ≤ F ∧ F ≤ 3) (hn : n ≤ 4) : F ^ n ≤ 243 := by
 have h1 : F ^ n ≤ 3 ^ n := Nat.pow_le_pow_left hF.2 n
 have h2 : 3 ^ n ≤ 3 ^ 4 := Nat.pow_le_pow_right (by decide) hn
 have h3 : 3 ^ 4 = 81 := rfl
 omega
end Go.Proofs.Ytdbammacnfojdaa
