/- Parts of the proof, 6. No conditions. -/
import Derived.Test.YteoenhhmcpipoaaK2
import Derived.Test.YteoenhhmcpipoaaK3
import Derived.Test.YteoenhhmcpipoaaK5
namespace Go.Proofs.Yteoenhhmcpipoaa
open Go.Conc Go.Proofs.Try
set_option maxRecDepth 100000
set_option maxHeartbeats 4000000
set_option linter.unusedVariables false
section
variable {main : Bool} {J : JT} {n0 : Nat} {h : List AObj} {K : Value → List AObj → Prop}
theorem at3 : prog.funcs[3]? = some f3 := by kernel_rfl
theorem body3 : f3.body = some (codeOf f3) := by kernel_rfl
def pl3 : Plans := [(17,true,.take 0 (.take 1 (.take 2 (.take 3 (.take 4 (.take 5 (.take 6 (.take 7 (.last 8 false (.take 9 (.take 10 (.take 11 (.take 12 (.take 13 (.fin))))))))))))))),
 (29,true,.take 0 (.take 1 (.take 2 (.take 3 (.take 4 (.take 5 (.take 6 (.take 7 (.take 8 (.take 9 (.take 10 (.take 11 (.take 12 (.take 13 (.take 14 (.take 15 (.take 16 (.take 17 (.take 18 (.fin)))))))))))))))))))),
 (33,false,.take 0 (.take 1 (.take 2 (.take 3 (.take 4 (.take 5 (.take 6 (.take 7 (.take 8 (.take 9 (.take 10 (.last 11 true (.take 12 (.take 13 (.take 14 (.take 15 (.take 16 (.fin))))))))))))))))))]
def ct3 : Cuts := .bin (.go) (.bin (.go) (.bin (.go) (.bin (.go) (.bin (.go) (.bin (.go) (.bin (.bin (.go) (.cut (.go))) (.bin (.bin (.go) (.cut (.bin (.bin (.go) (.bin (.bin (.go) (.un (.un (.bin (.go) (.bin (.un (.bin (.go) (.bin (.go) (.cut (.go))))) (.go)))))) (.go))) (.go)))) (.bin (.go) (.bin (.go) (.bin (.go) (.bin (.bin (.go) (.un (.un (.bin (.go) (.un (.bin (.go) (.bin (.un (.un (.bin (.bin (.go) (.cut (.go))) (.go)))) (.bin (.bin (.go) (.cut (.go))) (.bin (.bin (.go) (.bin (.go) (.cut (.go)))) (.go)))))))))) (.go))))))))))))
theorem pok3 : plansOk prog pl3 (codeOf f3) = true := by kernel_rfl
theorem e3 {a0 : Value} : W prog J 174 h.length 3 (codeOf f3) (RG.mk (regs [a0]) []) h (RetQ prog [.tmp 2] h.length K) =
(Good prog J 4 [a0] h fun v1 h2 =>
Good prog J 5 [v1,(vint 1),(vint 2)] h2 fun v3 h4 =>
Sem J 174 h.length 3 (subC [1,1,1,0,1,0] (codeOf f3)) (RG.p (RG.p (RG.p (RG.p (RG.p (RG.p (RG.p (RG.p (RG.mk (regs [a0]) []) 2 (Value.bool false)) 19 a0) 20 v1) 3 v1) 4 (Value.slice none 0 0)) 21 v1) 22 v3) 5 v3) h4 (contX pl3 prog J 174 h.length 3 ct3 [1,1,1,0,1,0] (codeOf f3) [] (RetQ prog [.tmp 2] h.length K))) := top_eq pok3 ct3 (by kernel_rfl)
theorem g3 (hJ : Closed prog main J) {a0 : Value} (hs : heapOk h → W prog J 174 h.length 3 (codeOf f3) (RG.mk (regs [a0]) []) h (RetQ prog [.tmp 2] h.length K)) : Good prog J 3 [a0] h K :=
 good_of_W hJ mixed at3 body3 (by kernel_rfl) (Nat.le_of_ble_eq_true rfl) hs
theorem s3_1 {f : RG} {nx0 : RG → List AObj → Prop} : W prog J 174 n0 3 (subC [1,1,1,0,1,0,0] (codeOf f3)) f h (thenK nx0 (contX pl3 prog J 174 n0 3 ct3 [1,1,1,0,1,0] (codeOf f3) [] (RetQ prog [.tmp 2] n0 K))) =
(aBin prog .gtr 3 (f.r 5) (vint 0) fun v1 =>
cnd v1
(Good prog J 6 [(f.r 3)] h fun v2 h3 =>
(((1 * 6 : Nat) ≤ 16777216 ∧ (1 : Nat) ≤ 16777216 ∧ List.length [(vint 0),(vint 0),(vint 0),(vint 0),(vint 0),(vint 0)] = 6) ∧ aFill (zrep [(vint 0),(vint 0),(vint 0),(vint 0),(vint 0),(vint 0)] 1) [(0,6,v2)] fun c4 =>
aNewS 1 c4 h3 fun v5 h6 =>
((List.length [(vint 0),(vint 0),(vint 0),(vint 0),(vint 0),(vint 0)] = 6 ∧ 0 < (6 : Nat) ∧ 0 < (48 : Nat) ∧ (48 : Nat) ≤ 1024) ∧ aApp 6 (f.r 4) v5 h6 fun v7 h8 =>
aBin prog .sub 3 (f.r 5) (vint 1) fun v9 =>
nx0 (RG.p (RG.p (RG.p (RG.p (RG.p (RG.p (RG.p (RG.p (RG.p (RG.p (RG.p f 23 (f.r 5)) 24 v1) 27 (f.r 4)) 28 (f.r 3)) 29 v2) 30 v5) 31 v7) 4 v7) 25 (f.r 5)) 26 v9) 5 v9) h8)))
(Good prog J 7 [(f.r 3),(vint 5)] h fun v10 h11 =>
Good prog J 5 [(f.r 3),(vint 1),(vint 10)] h11 fun v12 h13 =>
Good prog J 8 [(f.r 3),(vint 30)] h13 fun v14 h15 =>
aAlloc [(vint 0),(vint 0),(vint 0)] h15 fun v16 h17 =>
aAlloc [(vint 0),(vint 0),(vint 0)] h17 fun v18 h19 =>
aStore 3 v16 v10 h19 fun h20 =>
aStore 3 v18 v14 h20 fun h21 =>
aLoad true 3 v18 h21 fun v22 =>
aFill [(vint 0),(vint 0)] [(0,1,v12),(1,1,(vint 1))] fun c23 =>
(((1 * 2 : Nat) ≤ 16777216 ∧ (1 : Nat) ≤ 16777216 ∧ List.length [(vint 0),(vint 0)] = 2) ∧ aFill (zrep [(vint 0),(vint 0)] 1) [(0,2,(Value.agg ⟨c23⟩))] fun c24 =>
aNewS 1 c24 h21 fun v25 h26 =>
aFill [(vint 0),(vint 0),(vint 0),(Value.slice none 0 0)] [(0,3,v22),(3,1,v25)] fun c27 =>
(((1 * 1 : Nat) ≤ 16777216 ∧ (1 : Nat) ≤ 16777216 ∧ List.length [(vint 0)] = 1) ∧ aFill (zrep [(vint 0)] 1) [(0,1,(vint 0))] fun c28 =>
aNewS 1 c28 h26 fun v29 h30 =>
Good prog J 9 [(Value.agg ⟨c27⟩),v29] h30 fun v31 h32 =>
aExt v31 0 fun v33 =>
aExt v31 1 fun v34 =>
aBin prog .neq 36 v34 (vint 0) fun v35 =>
cnd v35
(aBin prog .neq 36 v34 (vint 11) fun v36 =>
Hold (W prog J 174 n0 3 (subC [1,1,1,1,1,1,0,1] (codeOf f3)) (RG.p (RG.p (RG.p (RG.p (RG.p (RG.p (RG.p (RG.p (RG.p (RG.p (RG.p (RG.p (RG.p (RG.p (RG.p (RG.p (RG.p (RG.p (RG.p (RG.p (RG.p (RG.p (RG.p (RG.p (RG.p (RG.p (RG.p (RG.p (RG.p (RG.p f 23 (f.r 5)) 24 v1) 32 (f.r 3)) 33 v10) 34 (f.r 3)) 35 v12) 36 (f.r 3)) 37 v14) 6 v16) 8 v18) 7 v12) 39 v22) 40 v12) 41 (Value.agg ⟨c23⟩)) 42 v25) 43 (Value.agg ⟨c27⟩)) 44 v29) 45 v31) 38 v31) 46 v33) 47 v34) 9 v33) 10 v34) 48 v34) 49 v35) 50 v35) 50 (Value.bool true)) 51 v34) 52 v36) 53 v36) h32 (contX pl3 prog J 174 n0 3 ct3 [1,1,1,1,1,1,0,1] (codeOf f3) [] (RetQ prog [.tmp 2] n0 K))))
(Hold (W prog J 174 n0 3 (subC [1,1,1,1,1,1,0,1] (codeOf f3)) (RG.p (RG.p (RG.p (RG.p (RG.p (RG.p (RG.p (RG.p (RG.p (RG.p (RG.p (RG.p (RG.p (RG.p (RG.p (RG.p (RG.p (RG.p (RG.p (RG.p (RG.p (RG.p (RG.p (RG.p (RG.p (RG.p (RG.p (RG.p (RG.p (RG.p f 23 (f.r 5)) 24 v1) 32 (f.r 3)) 33 v10) 34 (f.r 3)) 35 v12) 36 (f.r 3)) 37 v14) 6 v16) 8 v18) 7 v12) 39 v22) 40 v12) 41 (Value.agg ⟨c23⟩)) 42 v25) 43 (Value.agg ⟨c27⟩)) 44 v29) 45 v31) 38 v31) 46 v33) 47 v34) 9 v33) 10 v34) 48 v34) 49 v35) 50 v35) 50 (Value.bool false)) 51 undef) 52 undef) 53 (Value.bool false)) h32 (contX pl3 prog J 174 n0 3 ct3 [1,1,1,1,1,1,0,1] (codeOf f3) [] (RetQ prog [.tmp 2] n0 K)))))))) := sub_eq pok3 ct3 (by kernel_rfl)
theorem l3_1 (hJ : Closed prog main J) {S : Type} (μ : S → Nat) (I : S → RG → List AObj → Prop) (hI : ∀ s f h,I s f h → heapOk h → n0 ≤ h.length → W prog J 174 n0 3 (subC [1,1,1,0,1,0,0] (codeOf f3)) f h (thenK (Nx n0 μ I s) (contX pl3 prog J 174 n0 3 ct3 [1,1,1,0,1,0] (codeOf f3) [] (RetQ prog [.tmp 2] n0 K))))
 {s : S} {f : RG} (hi : Gets n0 I s f h) : Sem J 174 n0 3 (subC [1,1,1,0,1,0] (codeOf f3)) f h (contX pl3 prog J 174 n0 3 ct3 [1,1,1,0,1,0] (codeOf f3) [] (RetQ prog [.tmp 2] n0 K)) :=
 loop_rule hJ mixed (b := subC [1,1,1,0,1,0,0] (codeOf f3)) (by kernel_rfl) μ I hI hi
theorem s3_2 {f : RG} : W prog J 174 n0 3 (subC [1,1,1,1,1,1,0,1] (codeOf f3)) f h (contX pl3 prog J 174 n0 3 ct3 [1,1,1,1,1,1,0,1] (codeOf f3) [] (RetQ prog [.tmp 2] n0 K)) =
(cnd (f.r 53)
(retL n0 K f.ds [(Value.bool false)] h)
(aBin prog .eql 36 (f.r 10) (vint 0) fun v1 =>
cnd v1
(aOff (f.r 6) 0 fun v2 =>
aLoad false 1 v2 h fun v3 =>
aBin prog .lss 3 (f.r 9) v3 fun v4 =>
Hold (W prog J 174 n0 3 (subC [1,1,1,1,1,1,1,0,1] (codeOf f3)) (RG.p (RG.p (RG.p (RG.p (RG.p (RG.p (RG.p (RG.p (RG.p f 54 (f.r 10)) 55 v1) 56 v1) 56 (Value.bool true)) 57 (f.r 9)) 58 v2) 59 v3) 60 v4) 61 v4) h (contX pl3 prog J 174 n0 3 ct3 [1,1,1,1,1,1,1,0,1] (codeOf f3) [] (RetQ prog [.tmp 2] n0 K))))
(Hold (W prog J 174 n0 3 (subC [1,1,1,1,1,1,1,0,1] (codeOf f3)) (RG.p (RG.p (RG.p (RG.p (RG.p (RG.p (RG.p (RG.p (RG.p f 54 (f.r 10)) 55 v1) 56 v1) 56 (Value.bool false)) 57 undef) 58 undef) 59 undef) 60 undef) 61 (Value.bool false)) h (contX pl3 prog J 174 n0 3 ct3 [1,1,1,1,1,1,1,0,1] (codeOf f3) [] (RetQ prog [.tmp 2] n0 K)))))) := sub_eq pok3 ct3 (by kernel_rfl)
theorem s3_3 {f : RG} : W prog J 174 n0 3 (subC [1,1,1,1,1,1,1,0,1] (codeOf f3)) f h (contX pl3 prog J 174 n0 3 ct3 [1,1,1,1,1,1,1,0,1] (codeOf f3) [] (RetQ prog [.tmp 2] n0 K)) =
(cnd (f.r 61)
(aBin prog .lss 3 (f.r 9) (vint 0) fun v1 =>
cnd v1
(retL n0 K f.ds [(Value.bool false)] h)
(Sem J 174 n0 3 (subC [1,1,1,1,1,1,1,0,1,0,1,0,1,0] (codeOf f3)) (RG.p (RG.p (RG.p f 62 (f.r 9)) 63 v1) 11 (vint 0)) h (contX pl3 prog J 174 n0 3 ct3 [1,1,1,1,1,1,1,0,1,0,1,0,1,0] (codeOf f3) [] (RetQ prog [.tmp 2] n0 K))))
(aLoad true 3 (f.r 6) h fun v2 =>
Good prog J 12 [(f.r 4),v2,(f.r 7)] h fun v3 h4 =>
aExt v3 0 fun v5 =>
aExt v3 1 fun v6 =>
aBin prog .neq 36 v6 (vint 0) fun v7 =>
cnd v7
(aBin prog .eql 36 v6 (vint 11) fun v8 =>
cnd v8
(Good prog J 11 [] h4 fun v9 h10 =>
retL n0 K f.ds [v9] h10)
(retL n0 K f.ds [(Value.bool false)] h4))
(aLenS v5 fun v11 =>
aOff (f.r 6) 0 fun v12 =>
aLoad false 1 v12 h4 fun v13 =>
aBin prog .neq 3 v11 v13 fun v14 =>
cnd v14
(retL n0 K f.ds [(Value.bool false)] h4)
(Sem J 174 n0 3 (subC [1,1,1,1,1,1,1,1,1,1,1,0,1,0] (codeOf f3)) (RG.p (RG.p (RG.p (RG.p (RG.p (RG.p (RG.p (RG.p (RG.p (RG.p (RG.p (RG.p (RG.p (RG.p (RG.p (RG.p (RG.p f 91 (f.r 4)) 92 v2) 93 (f.r 7)) 94 v3) 90 v3) 95 v5) 96 v6) 14 v5) 10 v6) 97 v6) 98 v7) 104 v5) 105 v11) 106 v12) 107 v13) 108 v14) 15 (vint 0)) h4 (contX pl3 prog J 174 n0 3 ct3 [1,1,1,1,1,1,1,1,1,1,1,0,1,0] (codeOf f3) [] (RetQ prog [.tmp 2] n0 K)))))) := sub_eq pok3 ct3 (by kernel_rfl)
theorem s3_4 {f : RG} {nx0 : RG → List AObj → Prop} : W prog J 174 n0 3 (subC [1,1,1,1,1,1,1,0,1,0,1,0,1,0,0] (codeOf f3)) f h (thenK nx0 (contX pl3 prog J 174 n0 3 ct3 [1,1,1,1,1,1,1,0,1,0,1,0,1,0] (codeOf f3) [] (RetQ prog [.tmp 2] n0 K))) =
(aLenS (f.r 4) fun v1 =>
aBin prog .lss 3 (f.r 11) v1 fun v2 =>
cnd v2
(aLoad true 3 (f.r 8) h fun v3 =>
aIdx 6 (f.r 4) (f.r 11) fun v4 =>
aLoad true 6 v4 h fun v5 =>
aLoad true 3 (f.r 6) h fun v6 =>
aBin prog .add 3 (f.r 9) (vint 1) fun v7 =>
Good prog J 10 [v3,v5,v6,(vint 0),v7] h fun v8 h9 =>
aExt v8 0 fun v10 =>
aExt v8 1 fun v11 =>
aBin prog .neq 36 v11 (vint 0) fun v12 =>
cnd v12
(Hold (W prog J 174 n0 3 (subC [1,1,1,1,1,1,1,0,1,0,1,0,1,0,0,1,0,0,1,1] (codeOf f3)) (RG.p (RG.p (RG.p (RG.p (RG.p (RG.p (RG.p (RG.p (RG.p (RG.p (RG.p (RG.p (RG.p (RG.p (RG.p (RG.p (RG.p (RG.p (RG.p (RG.p (RG.p (RG.p (RG.p (RG.p (RG.p (RG.p f 64 (f.r 11)) 65 (f.r 4)) 66 v1) 67 v2) 71 v3) 72 (f.r 4)) 73 (f.r 11)) 74 v4) 75 v5) 76 v6) 77 (f.r 9)) 78 v7) 79 v8) 70 v8) 80 v10) 81 v11) 12 v10) 13 v11) 82 v11) 83 v12) 84 v12) 84 (Value.bool true)) 85 undef) 86 undef) 87 undef) 88 (Value.bool true)) h9 (contX pl3 prog J 174 n0 3 ct3 [1,1,1,1,1,1,1,0,1,0,1,0,1,0,0,1,0,0,1,1] (codeOf f3) [nx0] (RetQ prog [.tmp 2] n0 K))))
(aBin prog .geq 3 v10 (f.r 7) fun v13 =>
Hold (W prog J 174 n0 3 (subC [1,1,1,1,1,1,1,0,1,0,1,0,1,0,0,1,0,0,1,1] (codeOf f3)) (RG.p (RG.p (RG.p (RG.p (RG.p (RG.p (RG.p (RG.p (RG.p (RG.p (RG.p (RG.p (RG.p (RG.p (RG.p (RG.p (RG.p (RG.p (RG.p (RG.p (RG.p (RG.p (RG.p (RG.p (RG.p (RG.p f 64 (f.r 11)) 65 (f.r 4)) 66 v1) 67 v2) 71 v3) 72 (f.r 4)) 73 (f.r 11)) 74 v4) 75 v5) 76 v6) 77 (f.r 9)) 78 v7) 79 v8) 70 v8) 80 v10) 81 v11) 12 v10) 13 v11) 82 v11) 83 v12) 84 v12) 84 (Value.bool false)) 85 v10) 86 (f.r 7)) 87 v13) 88 v13) h9 (contX pl3 prog J 174 n0 3 ct3 [1,1,1,1,1,1,1,0,1,0,1,0,1,0,0,1,0,0,1,1] (codeOf f3) [nx0] (RetQ prog [.tmp 2] n0 K)))))
(Good prog J 11 [] h fun v14 h15 =>
retL n0 K f.ds [v14] h15)) := sub_eq pok3 ct3 (by kernel_rfl)
theorem l3_4 (hJ : Closed prog main J) {S : Type} (μ : S → Nat) (I : S → RG → List AObj → Prop) (hI : ∀ s f h,I s f h → heapOk h → n0 ≤ h.length → W prog J 174 n0 3 (subC [1,1,1,1,1,1,1,0,1,0,1,0,1,0,0] (codeOf f3)) f h (thenK (Nx n0 μ I s) (contX pl3 prog J 174 n0 3 ct3 [1,1,1,1,1,1,1,0,1,0,1,0,1,0] (codeOf f3) [] (RetQ prog [.tmp 2] n0 K))))
 {s : S} {f : RG} (hi : Gets n0 I s f h) : Sem J 174 n0 3 (subC [1,1,1,1,1,1,1,0,1,0,1,0,1,0] (codeOf f3)) f h (contX pl3 prog J 174 n0 3 ct3 [1,1,1,1,1,1,1,0,1,0,1,0,1,0] (codeOf f3) [] (RetQ prog [.tmp 2] n0 K)) :=
 loop_rule hJ mixed (b := subC [1,1,1,1,1,1,1,0,1,0,1,0,1,0,0] (codeOf f3)) (by kernel_rfl) μ I hI hi
theorem s3_5 {f : RG} {nx0 : RG → List AObj → Prop} : W prog J 174 n0 3 (subC [1,1,1,1,1,1,1,1,1,1,1,0,1,0,0] (codeOf f3)) f h (thenK nx0 (contX pl3 prog J 174 n0 3 ct3 [1,1,1,1,1,1,1,1,1,1,1,0,1,0] (codeOf f3) [] (RetQ prog [.tmp 2] n0 K))) =
(aOff (f.r 6) 0 fun v1 =>
aLoad false 1 v1 h fun v2 =>
aBin prog .lss 3 (f.r 15) v2 fun v3 =>
cnd v3
(Sem J 174 n0 3 (subC [1,1,1,1,1,1,1,1,1,1,1,0,1,0,0,1,0,1,0,0] (codeOf f3)) (RG.p (RG.p (RG.p (RG.p (RG.p f 109 (f.r 15)) 110 v1) 111 v2) 112 v3) 16 (vint 1)) h (contX pl3 prog J 174 n0 3 ct3 [1,1,1,1,1,1,1,1,1,1,1,0,1,0,0,1,0,1,0,0] (codeOf f3) [nx0] (RetQ prog [.tmp 2] n0 K)))
(Good prog J 11 [] h fun v4 h5 =>
retL n0 K f.ds [v4] h5)) := sub_eq pok3 ct3 (by kernel_rfl)
theorem l3_5 (hJ : Closed prog main J) {S : Type} (μ : S → Nat) (I : S → RG → List AObj → Prop) (hI : ∀ s f h,I s f h → heapOk h → n0 ≤ h.length → W prog J 174 n0 3 (subC [1,1,1,1,1,1,1,1,1,1,1,0,1,0,0] (codeOf f3)) f h (thenK (Nx n0 μ I s) (contX pl3 prog J 174 n0 3 ct3 [1,1,1,1,1,1,1,1,1,1,1,0,1,0] (codeOf f3) [] (RetQ prog [.tmp 2] n0 K))))
 {s : S} {f : RG} (hi : Gets n0 I s f h) : Sem J 174 n0 3 (subC [1,1,1,1,1,1,1,1,1,1,1,0,1,0] (codeOf f3)) f h (contX pl3 prog J 174 n0 3 ct3 [1,1,1,1,1,1,1,1,1,1,1,0,1,0] (codeOf f3) [] (RetQ prog [.tmp 2] n0 K)) :=
 loop_rule hJ mixed (b := subC [1,1,1,1,1,1,1,1,1,1,1,0,1,0,0] (codeOf f3)) (by kernel_rfl) μ I hI hi
theorem s3_6 {f : RG} {nx0 : RG → List AObj → Prop} : W prog J 174 n0 3 (subC [1,1,1,1,1,1,1,0,1,0,1,0,1,0,0,1,0,0,1,1] (codeOf f3)) f h (contX pl3 prog J 174 n0 3 ct3 [1,1,1,1,1,1,1,0,1,0,1,0,1,0,0,1,0,0,1,1] (codeOf f3) [nx0] (RetQ prog [.tmp 2] n0 K)) =
(cnd (f.r 88)
(retL n0 K f.ds [(Value.bool false)] h)
(aBin prog .add 3 (f.r 11) (vint 1) fun v1 =>
nx0 (RG.p (RG.p (RG.p f 68 (f.r 11)) 69 v1) 11 v1) h)) := sub_eq pok3 ct3 (by kernel_rfl)
theorem s3_7 {f : RG} {nx0 nx1 : RG → List AObj → Prop} : W prog J 174 n0 3 (subC [1,1,1,1,1,1,1,1,1,1,1,0,1,0,0,1,0,1,0,0,0] (codeOf f3)) f h (thenK nx1 (contX pl3 prog J 174 n0 3 ct3 [1,1,1,1,1,1,1,1,1,1,1,0,1,0,0,1,0,1,0,0] (codeOf f3) [nx0] (RetQ prog [.tmp 2] n0 K))) =
(aBin prog .add 3 (f.r 15) (f.r 16) fun v1 =>
aOff (f.r 6) 0 fun v2 =>
aLoad false 1 v2 h fun v3 =>
aBin prog .lss 3 v1 v3 fun v4 =>
cnd v4
(aBin prog .add 3 (f.r 15) (f.r 16) fun v5 =>
aIdx 1 (f.r 14) v5 fun v6 =>
aLoad false 1 v6 h fun v7 =>
aIdx 1 (f.r 14) (f.r 15) fun v8 =>
aLoad false 1 v8 h fun v9 =>
aBin prog .eql 3 v7 v9 fun v10 =>
Hold (W prog J 174 n0 3 (subC [1,1,1,1,1,1,1,1,1,1,1,0,1,0,0,1,0,1,0,0,0,0,1] (codeOf f3)) (RG.p (RG.p (RG.p (RG.p (RG.p (RG.p (RG.p (RG.p (RG.p (RG.p (RG.p (RG.p (RG.p (RG.p (RG.p (RG.p (RG.p (RG.p (RG.p (RG.p f 113 (f.r 15)) 114 (f.r 16)) 115 v1) 116 v2) 117 v3) 118 v4) 119 v4) 119 (Value.bool true)) 120 (f.r 14)) 121 (f.r 15)) 122 (f.r 16)) 123 v5) 124 v6) 125 v7) 126 (f.r 14)) 127 (f.r 15)) 128 v8) 129 v9) 130 v10) 131 v10) h (contX pl3 prog J 174 n0 3 ct3 [1,1,1,1,1,1,1,1,1,1,1,0,1,0,0,1,0,1,0,0,0,0,1] (codeOf f3) [nx0,nx1] (RetQ prog [.tmp 2] n0 K))))
(Hold (W prog J 174 n0 3 (subC [1,1,1,1,1,1,1,1,1,1,1,0,1,0,0,1,0,1,0,0,0,0,1] (codeOf f3)) (RG.p (RG.p (RG.p (RG.p (RG.p (RG.p (RG.p (RG.p (RG.p (RG.p (RG.p (RG.p (RG.p (RG.p (RG.p (RG.p (RG.p (RG.p (RG.p (RG.p f 113 (f.r 15)) 114 (f.r 16)) 115 v1) 116 v2) 117 v3) 118 v4) 119 v4) 119 (Value.bool false)) 120 undef) 121 undef) 122 undef) 123 undef) 124 undef) 125 undef) 126 undef) 127 undef) 128 undef) 129 undef) 130 undef) 131 (Value.bool false)) h (contX pl3 prog J 174 n0 3 ct3 [1,1,1,1,1,1,1,1,1,1,1,0,1,0,0,1,0,1,0,0,0,0,1] (codeOf f3) [nx0,nx1] (RetQ prog [.tmp 2] n0 K))))) := sub_eq pok3 ct3 (by kernel_rfl)
theorem l3_7 (hJ : Closed prog main J) {nx0 : RG → List AObj → Prop} {S : Type} (μ : S → Nat) (I : S → RG → List AObj → Prop) (hI : ∀ s f h,I s f h → heapOk h → n0 ≤ h.length → W prog J 174 n0 3 (subC [1,1,1,1,1,1,1,1,1,1,1,0,1,0,0,1,0,1,0,0,0] (codeOf f3)) f h (thenK (Nx n0 μ I s) (contX pl3 prog J 174 n0 3 ct3 [1,1,1,1,1,1,1,1,1,1,1,0,1,0,0,1,0,1,0,0] (codeOf f3) [nx0] (RetQ prog [.tmp 2] n0 K))))
 {s : S} {f : RG} (hi : Gets n0 I s f h) : Sem J 174 n0 3 (subC [1,1,1,1,1,1,1,1,1,1,1,0,1,0,0,1,0,1,0,0] (codeOf f3)) f h (contX pl3 prog J 174 n0 3 ct3 [1,1,1,1,1,1,1,1,1,1,1,0,1,0,0,1,0,1,0,0] (codeOf f3) [nx0] (RetQ prog [.tmp 2] n0 K)) :=
 loop_rule hJ mixed (b := subC [1,1,1,1,1,1,1,1,1,1,1,0,1,0,0,1,0,1,0,0,0] (codeOf f3)) (by kernel_rfl) μ I hI hi
theorem s3_8 {f : RG} {nx0 nx1 : RG → List AObj → Prop} : W prog J 174 n0 3 (subC [1,1,1,1,1,1,1,1,1,1,1,0,1,0,0,1,0,1,0,0,0,0,1] (codeOf f3)) f h (contX pl3 prog J 174 n0 3 ct3 [1,1,1,1,1,1,1,1,1,1,1,0,1,0,0,1,0,1,0,0,0,0,1] (codeOf f3) [nx0,nx1] (RetQ prog [.tmp 2] n0 K)) =
(cnd (f.r 131)
(aBin prog .add 3 (f.r 16) (vint 1) fun v1 =>
nx1 (RG.p (RG.p (RG.p f 132 (f.r 16)) 133 v1) 16 v1) h)
(aIdx 1 (f.r 14) (f.r 15) fun v2 =>
aLoad false 1 v2 h fun v3 =>
aBin prog .lss 3 v3 (vint 0) fun v4 =>
cnd v4
(Hold (W prog J 174 n0 3 (subC [1,1,1,1,1,1,1,1,1,1,1,0,1,0,0,1,0,1,1,0,1] (codeOf f3)) (RG.p (RG.p (RG.p (RG.p (RG.p (RG.p (RG.p (RG.p (RG.p (RG.p (RG.p (RG.p (RG.p (RG.p (RG.p f 134 (f.r 14)) 135 (f.r 15)) 136 v2) 137 v3) 138 v4) 139 v4) 139 (Value.bool true)) 140 undef) 141 undef) 142 undef) 143 undef) 144 undef) 145 undef) 146 undef) 147 (Value.bool true)) h (contX pl3 prog J 174 n0 3 ct3 [1,1,1,1,1,1,1,1,1,1,1,0,1,0,0,1,0,1,1,0,1] (codeOf f3) [nx0] (RetQ prog [.tmp 2] n0 K))))
(aIdx 1 (f.r 14) (f.r 15) fun v5 =>
aLoad false 1 v5 h fun v6 =>
aLenS (f.r 4) fun v7 =>
aBin prog .geq 3 v6 v7 fun v8 =>
Hold (W prog J 174 n0 3 (subC [1,1,1,1,1,1,1,1,1,1,1,0,1,0,0,1,0,1,1,0,1] (codeOf f3)) (RG.p (RG.p (RG.p (RG.p (RG.p (RG.p (RG.p (RG.p (RG.p (RG.p (RG.p (RG.p (RG.p (RG.p (RG.p f 134 (f.r 14)) 135 (f.r 15)) 136 v2) 137 v3) 138 v4) 139 v4) 139 (Value.bool false)) 140 (f.r 14)) 141 (f.r 15)) 142 v5) 143 v6) 144 (f.r 4)) 145 v7) 146 v8) 147 v8) h (contX pl3 prog J 174 n0 3 ct3 [1,1,1,1,1,1,1,1,1,1,1,0,1,0,0,1,0,1,1,0,1] (codeOf f3) [nx0] (RetQ prog [.tmp 2] n0 K)))))) := sub_eq pok3 ct3 (by kernel_rfl)
theorem s3_9 {f : RG} {nx0 : RG → List AObj → Prop} : W prog J 174 n0 3 (subC [1,1,1,1,1,1,1,1,1,1,1,0,1,0,0,1,0,1,1,0,1] (codeOf f3)) f h (contX pl3 prog J 174 n0 3 ct3 [1,1,1,1,1,1,1,1,1,1,1,0,1,0,0,1,0,1,1,0,1] (codeOf f3) [nx0] (RetQ prog [.tmp 2] n0 K)) =
(cnd (f.r 147)
(retL n0 K f.ds [(Value.bool false)] h)
((∃ B,aLoad true 3 (f.r 8) h fun v1 =>
RdOk (some B) (ptrBlk (f.r 8)) ∧ (aIdx 1 (f.r 14) (f.r 15) fun v2 =>
aLoad false 1 v2 h fun v3 =>
RdOk (some B) (ptrBlk v2) ∧ (aIdx 6 (f.r 4) v3 fun v4 =>
aLoad true 6 v4 h fun v5 =>
RdOk (some B) (ptrBlk v4) ∧ (aLoad true 3 (f.r 6) h fun v6 =>
RdOk (some B) (ptrBlk (f.r 6)) ∧ (Good prog J 10 [v1,v5,v6,(f.r 15),(f.r 16)] h fun v7 h8 =>
SameB (some B) h h8 ∧ (aExt v7 0 fun v9 =>
aExt v7 1 fun v10 =>
aBin prog .neq 36 v10 (vint 0) fun v11 =>
cnd v11
(Hold (W prog J 174 n0 3 (subC [1,1,1,1,1,1,1,1,1,1,1,0,1,0,0,1,0,1,1,1,0,1,1] (codeOf f3)) (RG.p (RG.p (RG.p (RG.p (RG.p (RG.p (RG.p (RG.p (RG.p (RG.p (RG.p (RG.p (RG.p (RG.p (RG.p (RG.p (RG.p (RG.p (RG.p (RG.p (RG.p (RG.p (RG.p (RG.p (RG.p f 149 v1) 150 (f.r 4)) 151 (f.r 14)) 152 (f.r 15)) 153 v2) 154 v3) 155 v4) 156 v5) 157 v6) 158 (f.r 15)) 159 (f.r 16)) 160 v7) 148 v7) 161 v9) 162 v10) 17 v9) 18 v10) 163 v10) 164 v11) 165 v11) 165 (Value.bool true)) 166 undef) 167 undef) 168 undef) 169 (Value.bool true)) h8 (contX pl3 prog J 174 n0 3 ct3 [1,1,1,1,1,1,1,1,1,1,1,0,1,0,0,1,0,1,1,1,0,1,1] (codeOf f3) [nx0] (RetQ prog [.tmp 2] n0 K))))
(aBin prog .lss 3 v9 (f.r 7) fun v12 =>
Hold (W prog J 174 n0 3 (subC [1,1,1,1,1,1,1,1,1,1,1,0,1,0,0,1,0,1,1,1,0,1,1] (codeOf f3)) (RG.p (RG.p (RG.p (RG.p (RG.p (RG.p (RG.p (RG.p (RG.p (RG.p (RG.p (RG.p (RG.p (RG.p (RG.p (RG.p (RG.p (RG.p (RG.p (RG.p (RG.p (RG.p (RG.p (RG.p (RG.p f 149 v1) 150 (f.r 4)) 151 (f.r 14)) 152 (f.r 15)) 153 v2) 154 v3) 155 v4) 156 v5) 157 v6) 158 (f.r 15)) 159 (f.r 16)) 160 v7) 148 v7) 161 v9) 162 v10) 17 v9) 18 v10) 163 v10) 164 v11) 165 v11) 165 (Value.bool false)) 166 v9) 167 (f.r 7)) 168 v12) 169 v12) h8 (contX pl3 prog J 174 n0 3 ct3 [1,1,1,1,1,1,1,1,1,1,1,0,1,0,0,1,0,1,1,1,0,1,1] (codeOf f3) [nx0] (RetQ prog [.tmp 2] n0 K)))))))))))) := sub_eq pok3 ct3 (by kernel_rfl)
theorem s3_10 {f : RG} {nx0 : RG → List AObj → Prop} : W prog J 174 n0 3 (subC [1,1,1,1,1,1,1,1,1,1,1,0,1,0,0,1,0,1,1,1,0,1,1] (codeOf f3)) f h (contX pl3 prog J 174 n0 3 ct3 [1,1,1,1,1,1,1,1,1,1,1,0,1,0,0,1,0,1,1,1,0,1,1] (codeOf f3) [nx0] (RetQ prog [.tmp 2] n0 K)) =
(cnd (f.r 169)
(retL n0 K f.ds [(Value.bool false)] h)
(aBin prog .add 3 (f.r 15) (f.r 16) fun v1 =>
nx0 (RG.p (RG.p (RG.p (RG.p f 170 (f.r 15)) 171 (f.r 16)) 172 v1) 15 v1) h)) := sub_eq pok3 ct3 (by kernel_rfl)
end
end Go.Proofs.Yteoenhhmcpipoaa
namespace Go.Proofs.Yteoenhhmcpipoaa
open Go.Conc Go.Proofs.Try
set_option maxRecDepth 100000
def wordsR (F : Nat) : Nat → List (List Int)
 | 0 => [[]]
 | n + 1 => (List.range F).flatMap fun (i : Nat) => (wordsR F n).map ((i : Int) :: ·)
theorem words_of {F : Nat} : ∀ {n : Nat} {w : List Int},w ∈ wordsR F n → w.length = n ∧ ∀ x ∈ w,0 ≤ x ∧ x < F
 | 0,w,h => by
  have : w = [] := by simpa [wordsR] using h
  subst this
  simp
 | n + 1,w,h => by
  unfold wordsR at h
  obtain ⟨i,hi,h⟩ := List.mem_flatMap.1 h
  obtain ⟨u,hu,rfl⟩ := List.mem_map.1 h
  have hi := List.mem_range.1 hi
  obtain ⟨a,b⟩ := words_of hu
  refine ⟨by simp [a],fun x hx => ?_⟩
  rcases List.mem_cons.1 hx with rfl | hx
  ·omega
  ·exact b x hx
end Go.Proofs.Yteoenhhmcpipoaa
namespace Go.Proofs.Yteoenhhmcpipoaa
open Go.Conc Go.Proofs.Try
set_option maxRecDepth 100000
set_option maxHeartbeats 4000000
set_option linter.unusedVariables false
section
variable {main : Bool} {J : JT} {n0 : Nat} {h : List AObj} {K : Value → List AObj → Prop}
theorem at43 : prog.funcs[43]? = some f43 := by kernel_rfl
theorem body43 : f43.body = some (codeOf f43) := by kernel_rfl
def pl43 : Plans := [(14,false,.take 0 (.take 1 (.take 2 (.take 3 (.take 4 (.take 5 (.take 6 (.take 7 (.take 8 (.last 9 true (.take 10 (.take 11 (.take 12 (.take 13 (.take 14 (.fin))))))))))))))))]
def ct43 : Cuts := .go
theorem pok43 : plansOk prog pl43 (codeOf f43) = true := by kernel_rfl
theorem e43 {a0 a1 a2 a3 a4 : Value} : W prog J 60 h.length 43 (codeOf f43) (RG.mk (regs [a0,a1,a2,a3,a4]) []) h (RetQ prog [.tmp 10] h.length K) =
(aBox a0 h fun v1 h2 =>
aBox a1 h2 fun v3 h4 =>
aBox a3 h4 fun v5 h6 =>
aBox a4 h6 fun v7 h8 =>
aOff v3 0 fun v9 =>
aLoad false 1 v9 h8 fun v10 =>
((List.length [(vint 0)] = 1 ∧ (8 : Nat) ≤ 1024) ∧ aMkS [(vint 0)] v10 v10 h8 fun v11 h12 =>
aAlloc [(Value.slice none 0 0)] h12 fun v13 h14 =>
aStore 1 v13 v11 h14 fun h15 =>
aLoad false 1 v7 h15 fun v16 =>
Sem J 60 h.length 43 (subC [1,0,1,0,1,0] (codeOf f43)) (RG.p (RG.p (RG.p (RG.p (RG.p (RG.p (RG.p (RG.p (RG.p (RG.p (RG.p (RG.mk (regs [a0,a1,a2,a3,a4]) []) 5 v1) 6 v3) 8 v5) 9 v7) 10 (Value.bool false)) 19 v9) 20 v10) 21 v11) 11 v13) 22 v16) 23 (vint 0)) h15 (contX pl43 prog J 60 h.length 43 ct43 [1,0,1,0,1,0] (codeOf f43) [] (RetQ prog [.tmp 10] h.length K)))) := top_eq pok43 ct43 (by kernel_rfl)
theorem g43 (hJ : Closed prog main J) {a0 a1 a2 a3 a4 : Value} (hs : heapOk h → W prog J 60 h.length 43 (codeOf f43) (RG.mk (regs [a0,a1,a2,a3,a4]) []) h (RetQ prog [.tmp 10] h.length K)) : Good prog J 43 [a0,a1,a2,a3,a4] h K :=
 good_of_W hJ mixed at43 body43 (by kernel_rfl) (Nat.le_of_ble_eq_true rfl) hs
theorem s43_1 {f : RG} {nx0 : RG → List AObj → Prop} : W prog J 60 n0 43 (subC [1,0,1,0,1,0,0] (codeOf f43)) f h (thenK nx0 (contX pl43 prog J 60 n0 43 ct43 [1,0,1,0,1,0] (codeOf f43) [] (RetQ prog [.tmp 10] n0 K))) =
(aBin prog .lss 3 (f.r 23) (f.r 22) fun v1 =>
cnd v1
(aLoad false 1 (f.r 11) h fun v2 =>
aLoad false 1 (f.r 8) h fun v3 =>
aBin prog .add 3 v3 (f.r 23) fun v4 =>
aIdx 1 v2 v4 fun v5 =>
aStore 1 v5 (f.r 2) h fun h6 =>
aBin prog .add 3 (f.r 23) (vint 1) fun v7 =>
nx0 (RG.p (RG.p (RG.p (RG.p (RG.p (RG.p (RG.p (RG.p (RG.p (RG.p (RG.p f 24 v1) 25 (f.r 23)) 12 (f.r 23)) 26 v2) 27 v3) 28 (f.r 23)) 29 v4) 30 (f.r 2)) 31 v5) 32 v7) 23 v7) h6)
(aAlloc [(Value.bool false)] h fun v8 h9 =>
aStore 1 v8 (Value.bool true) h9 fun h10 =>
aLoad true 3 (f.r 6) h10 fun v11 =>
Good prog J 65 [v11] h10 fun v12 h13 =>
Sem J 60 n0 43 (subC [1,0,1,1,1,1,0,1,0] (codeOf f43)) (RG.p (RG.p (RG.p (RG.p f 24 v1) 13 v8) 33 v11) 34 v12) h13 (contX pl43 prog J 60 n0 43 ct43 [1,0,1,1,1,1,0,1,0] (codeOf f43) [] (RetQ prog [.tmp 10] n0 K)))) := sub_eq pok43 ct43 (by kernel_rfl)
theorem l43_1 (hJ : Closed prog main J) {S : Type} (μ : S → Nat) (I : S → RG → List AObj → Prop) (hI : ∀ s f h,I s f h → heapOk h → n0 ≤ h.length → W prog J 60 n0 43 (subC [1,0,1,0,1,0,0] (codeOf f43)) f h (thenK (Nx n0 μ I s) (contX pl43 prog J 60 n0 43 ct43 [1,0,1,0,1,0] (codeOf f43) [] (RetQ prog [.tmp 10] n0 K))))
 {s : S} {f : RG} (hi : Gets n0 I s f h) : Sem J 60 n0 43 (subC [1,0,1,0,1,0] (codeOf f43)) f h (contX pl43 prog J 60 n0 43 ct43 [1,0,1,0,1,0] (codeOf f43) [] (RetQ prog [.tmp 10] n0 K)) :=
 loop_rule hJ mixed (b := subC [1,0,1,0,1,0,0] (codeOf f43)) (by kernel_rfl) μ I hI hi
theorem a43_2 {f : RG} {fr : FuncId} {Q : QT} : W prog J 60 n0 fr (subC [1,0,1,1,1,1,0,1,0,0] (codeOf f43)) f h Q =
(Q .normal (RG.p f 14 (f.r 35)) h) := sub_eq pok43 ct43 (by kernel_rfl)
theorem b43_2 {f : RG} {fr : FuncId} {Q : QT} : W prog J 60 n0 fr (subC [1,0,1,1,1,1,0,1,0,1] (codeOf f43)) f h Q =
(aLoad true 6 (f.r 5) h fun v1 =>
Good prog J 66 [v1] h fun v2 h3 =>
aLoad false 1 (f.r 8) h3 fun v4 =>
aLoad false 1 (f.r 9) h3 fun v5 =>
aBin prog .add 3 v4 v5 fun v6 =>
Sem J 60 n0 fr (subC [1,0,1,1,1,1,0,1,0,1,0,1,1,0] (codeOf f43)) (RG.p (RG.p (RG.p (RG.p (RG.p (RG.p (RG.p f 36 v1) 37 v2) 15 v2) 38 v4) 39 v5) 40 v6) 41 (vint 0)) h3 (contX pl43 prog J 60 n0 fr .go [0,1,1,0] (subC [1,0,1,1,1,1,0,1,0,1] (codeOf f43)) [] Q)) := sub_eq pok43 ct43 (by kernel_rfl)
theorem c43_2x2 {f : RG} : (contX pl43 prog J 60 n0 43 ct43 [1,0,1,1,1,1,0,1,0] (codeOf f43) [] (RetQ prog [.tmp 10] n0 K)) (.exit 2) f h =
(aLoad false 1 (f.r 13) h fun v1 =>
retL n0 K f.ds [v1] h) := by kernel_rfl
theorem c43_2 {f : RG} : (contX pl43 prog J 60 n0 43 ct43 [1,0,1,1,1,1,0,1,0] (codeOf f43) [] (RetQ prog [.tmp 10] n0 K)) .normal f h =
(aLoad false 1 (f.r 13) h fun v1 =>
retL n0 K f.ds [v1] h) := by kernel_rfl
theorem l43_2 (hJ : Closed prog main J) {f : RG} {g : FuncId} {first cap : List Value} (hx : ev f.r ((Go.Operand.tmp 34)) = .func (.func g) ⟨first⟩ ⟨cap⟩) (hg : g < prog.funcs.size)
 (hs : Good prog J g (first ++ [.func (.yield (h.length + 1)) ⟨[]⟩ ⟨[]⟩] ++ cap) (h ++ [.deferred] ++ [.loop .ready none 43 f.r 60 #[35] (subC [1,0,1,1,1,1,0,1,0,0] (codeOf f43)) (subC [1,0,1,1,1,1,0,1,0,1] (codeOf f43)) h.length]) (endQ h.length f (contX pl43 prog J 60 n0 43 ct43 [1,0,1,1,1,1,0,1,0] (codeOf f43) [] (RetQ prog [.tmp 10] n0 K)))) (hcall : callable prog g = true := by kernel_rfl) : Sem J 60 n0 43 (subC [1,0,1,1,1,1,0,1,0] (codeOf f43)) f h (contX pl43 prog J 60 n0 43 ct43 [1,0,1,1,1,1,0,1,0] (codeOf f43) [] (RetQ prog [.tmp 10] n0 K)) :=
 Sem_range hJ (by decide) (fop := (Go.Operand.tmp 34)) (params := #[35]) (assign := subC [1,0,1,1,1,1,0,1,0,0] (codeOf f43)) (body := subC [1,0,1,1,1,1,0,1,0,1] (codeOf f43)) hx hg hs hcall
theorem s43_3 {f : RG} {fr : FuncId} {Q : QT} {nx0 : RG → List AObj → Prop} : W prog J 60 n0 fr (subC [1,0,1,1,1,1,0,1,0,1,0,1,1,0,0] (codeOf f43)) f h (thenK nx0 (contX pl43 prog J 60 n0 fr .go [0,1,1,0] (subC [1,0,1,1,1,1,0,1,0,1] (codeOf f43)) [] Q)) =
(aBin prog .lss 3 (f.r 41) (f.r 40) fun v1 =>
cnd v1
((∃ B,aLoad false 1 (f.r 11) h fun v2 =>
RdOk (some B) (ptrBlk (f.r 11)) ∧ (aIdx 1 v2 (f.r 41) fun v3 =>
aLoad false 1 v3 h fun v4 =>
RdOk (some B) (ptrBlk v3) ∧ (aIdxStr (f.r 14) (f.r 41) fun v5 =>
aBin prog .eql 5 v5 (Value.int .u8 119) fun v6 =>
Good prog J 67 [(f.r 15),v4,v6] h fun v7 h8 =>
SameB (some B) h h8 ∧ (aExt v7 0 fun v9 =>
aExt v7 1 fun v10 =>
cnd v9
(aStore 1 (f.r 13) (Value.bool false) h8 fun h11 =>
Q (.exit 2) (RG.p (RG.p (RG.p (RG.p (RG.p (RG.p (RG.p (RG.p (RG.p (RG.p (RG.p (RG.p (RG.p (RG.p (RG.p (RG.p (RG.p (RG.p (RG.p f 42 v1) 43 (f.r 41)) 16 (f.r 41)) 45 (f.r 15)) 46 v2) 47 (f.r 41)) 48 v3) 49 v4) 50 (f.r 14)) 51 (f.r 41)) 52 v5) 53 v6) 54 v7) 44 v7) 55 v9) 56 v10) 17 v9) 18 v10) 57 v9) h11)
(aBin prog .add 3 (f.r 41) (vint 1) fun v12 =>
nx0 (RG.p (RG.p (RG.p (RG.p (RG.p (RG.p (RG.p (RG.p (RG.p (RG.p (RG.p (RG.p (RG.p (RG.p (RG.p (RG.p (RG.p (RG.p (RG.p (RG.p (RG.p f 42 v1) 43 (f.r 41)) 16 (f.r 41)) 45 (f.r 15)) 46 v2) 47 (f.r 41)) 48 v3) 49 v4) 50 (f.r 14)) 51 (f.r 41)) 52 v5) 53 v6) 54 v7) 44 v7) 55 v9) 56 v10) 17 v9) 18 v10) 57 v9) 58 v12) 41 v12) h8))))))
(Q .normal (RG.p f 42 v1) h)) := sub_eq pok43 ct43 (by kernel_rfl)
theorem l43_3 (hJ : Closed prog main J) {fr : FuncId} {Q : QT} {S : Type} (μ : S → Nat) (I : S → RG → List AObj → Prop) (hI : ∀ s f h,I s f h → heapOk h → n0 ≤ h.length → W prog J 60 n0 fr (subC [1,0,1,1,1,1,0,1,0,1,0,1,1,0,0] (codeOf f43)) f h (thenK (Nx n0 μ I s) (contX pl43 prog J 60 n0 fr .go [0,1,1,0] (subC [1,0,1,1,1,1,0,1,0,1] (codeOf f43)) [] Q)))
 {s : S} {f : RG} (hi : Gets n0 I s f h) : Sem J 60 n0 fr (subC [1,0,1,1,1,1,0,1,0,1,0,1,1,0] (codeOf f43)) f h (contX pl43 prog J 60 n0 fr .go [0,1,1,0] (subC [1,0,1,1,1,1,0,1,0,1] (codeOf f43)) [] Q) :=
 loop_rule hJ mixed (b := subC [1,0,1,1,1,1,0,1,0,1,0,1,1,0,0] (codeOf f43)) (by kernel_rfl) μ I hI hi
theorem at18 : prog.funcs[18]? = some f18 := by kernel_rfl
theorem body18 : f18.body = some (codeOf f18) := by kernel_rfl
def pl18 : Plans := [(1,false,.take 0 (.take 2 (.last 1 true (.last 3 true (.last 4 true (.last 5 true (.take 6 (.fin))))))))]
def ct18 : Cuts := .bin (.go) (.bin (.go) (.bin (.go) (.bin (.go) (.bin (.go) (.bin (.un (.un (.bin (.bin (.go) (.cut (.go))) (.go)))) (.go))))))
theorem pok18 : plansOk prog pl18 (codeOf f18) = true := by kernel_rfl
theorem e18 {a0 a1 a2 a3 : Value} : W prog J 48 h.length 18 (codeOf f18) (RG.mk (regs [a0,a1,a2,a3]) []) h (RetQ prog [.tmp 8,.tmp 9] h.length K) =
(aBox a0 h fun v1 h2 =>
aBox a1 h2 fun v3 h4 =>
(∃ B,aLoad true 6 v1 h4 fun v5 =>
RdOk (some B) (ptrBlk v1) ∧ (aLoad true 3 v3 h4 fun v6 =>
RdOk (some B) (ptrBlk v3) ∧ (Good prog J 27 [v5] h4 fun v7 h8 =>
SameB (some B) h4 h8 ∧ (Good prog J 28 [v6] h8 fun v9 h10 =>
SameB (some B) h4 h10 ∧ ((((2 * 1 : Nat) ≤ 16777216 ∧ (2 : Nat) ≤ 16777216 ∧ List.length [(vint 0)] = 1) ∧ aFill (zrep [(vint 0)] 2) [(0,1,v7),(1,1,v9)] fun c11 =>
aNewS 2 c11 h10 fun v12 h13 =>
SameB (some B) h4 h13 ∧ (Good prog J 42 [v12] h13 fun v14 h15 =>
SameB (some B) h4 h15 ∧ (aBin prog .neq 36 v14 (vint 0) fun v16 =>
cnd v16
(retL h.length K [] [(vint 0),v14] h15)
(aOff v3 0 fun v17 =>
aLoad false 1 v17 h15 fun v18 =>
aBin prog .sub 3 v18 (vint 1) fun v19 =>
Good prog J 29 [a2,(vint 0),v19] h15 fun v20 h21 =>
aUn .not v20 fun v22 =>
cnd v22
(retL h.length K [] [(vint 0),(vint 3)] h21)
(aOff v3 0 fun v23 =>
aLoad false 1 v23 h21 fun v24 =>
aBin prog .sub 3 v24 a2 fun v25 =>
Good prog J 29 [a3,(vint 1),v25] h21 fun v26 h27 =>
aUn .not v26 fun v28 =>
cnd v28
(retL h.length K [] [(vint 0),(vint 1)] h27)
(Sem J 48 h.length 18 (subC [1,1,1,1,1,0,0] (codeOf f18)) (RG.p (RG.p (RG.p (RG.p (RG.p (RG.p (RG.p (RG.p (RG.p (RG.p (RG.p (RG.p (RG.p (RG.p (RG.p (RG.p (RG.p (RG.p (RG.p (RG.p (RG.p (RG.p (RG.p (RG.p (RG.p (RG.p (RG.p (RG.mk (regs [a0,a1,a2,a3]) []) 4 v1) 5 v3) 8 (vint 0)) 9 (vint 0)) 12 v5) 14 v6) 13 v7) 15 v9) 16 v12) 17 v14) 10 v14) 18 v14) 19 v16) 21 a2) 22 v17) 23 v18) 24 v19) 25 v20) 26 v22) 27 a3) 28 v23) 29 v24) 30 a2) 31 v25) 32 v26) 33 v28) 11 (vint 40)) h27 (contX pl18 prog J 48 h.length 18 ct18 [1,1,1,1,1,0,0] (codeOf f18) [] (RetQ prog [.tmp 8,.tmp 9] h.length K)))))))))))))) := top_eq pok18 ct18 (by kernel_rfl)
theorem g18 (hJ : Closed prog main J) {a0 a1 a2 a3 : Value} (hs : heapOk h → W prog J 48 h.length 18 (codeOf f18) (RG.mk (regs [a0,a1,a2,a3]) []) h (RetQ prog [.tmp 8,.tmp 9] h.length K)) : Good prog J 18 [a0,a1,a2,a3] h K :=
 good_of_W hJ mixed at18 body18 (by kernel_rfl) (Nat.le_of_ble_eq_true rfl) hs
theorem s18_1 {f : RG} {nx0 : RG → List AObj → Prop} : W prog J 48 n0 18 (subC [1,1,1,1,1,0,0,0] (codeOf f18)) f h (thenK nx0 (contX pl18 prog J 48 n0 18 ct18 [1,1,1,1,1,0,0] (codeOf f18) [] (RetQ prog [.tmp 8,.tmp 9] n0 K))) =
(aBin prog .gtr 3 (f.r 11) (vint 0) fun v1 =>
cnd v1
(aLoad true 6 (f.r 4) h fun v2 =>
aLoad true 3 (f.r 5) h fun v3 =>
Good prog J 43 [v2,v3,(f.r 11),(f.r 2),(f.r 3)] h fun v4 h5 =>
aUn .not v4 fun v6 =>
Hold (W prog J 48 n0 18 (subC [1,1,1,1,1,0,0,0,0,1] (codeOf f18)) (RG.p (RG.p (RG.p (RG.p (RG.p (RG.p (RG.p (RG.p (RG.p (RG.p (RG.p (RG.p f 34 (f.r 11)) 35 v1) 36 v1) 36 (Value.bool true)) 37 v2) 38 v3) 39 (f.r 11)) 40 (f.r 2)) 41 (f.r 3)) 42 v4) 43 v6) 44 v6) h5 (contX pl18 prog J 48 n0 18 ct18 [1,1,1,1,1,0,0,0,0,1] (codeOf f18) [nx0] (RetQ prog [.tmp 8,.tmp 9] n0 K))))
(Hold (W prog J 48 n0 18 (subC [1,1,1,1,1,0,0,0,0,1] (codeOf f18)) (RG.p (RG.p (RG.p (RG.p (RG.p (RG.p (RG.p (RG.p (RG.p (RG.p (RG.p (RG.p f 34 (f.r 11)) 35 v1) 36 v1) 36 (Value.bool false)) 37 undef) 38 undef) 39 undef) 40 undef) 41 undef) 42 undef) 43 undef) 44 (Value.bool false)) h (contX pl18 prog J 48 n0 18 ct18 [1,1,1,1,1,0,0,0,0,1] (codeOf f18) [nx0] (RetQ prog [.tmp 8,.tmp 9] n0 K))))) := sub_eq pok18 ct18 (by kernel_rfl)
theorem l18_1 (hJ : Closed prog main J) {S : Type} (μ : S → Nat) (I : S → RG → List AObj → Prop) (hI : ∀ s f h,I s f h → heapOk h → n0 ≤ h.length → W prog J 48 n0 18 (subC [1,1,1,1,1,0,0,0] (codeOf f18)) f h (thenK (Nx n0 μ I s) (contX pl18 prog J 48 n0 18 ct18 [1,1,1,1,1,0,0] (codeOf f18) [] (RetQ prog [.tmp 8,.tmp 9] n0 K))))
 {s : S} {f : RG} (hi : Gets n0 I s f h) : Sem J 48 n0 18 (subC [1,1,1,1,1,0,0] (codeOf f18)) f h (contX pl18 prog J 48 n0 18 ct18 [1,1,1,1,1,0,0] (codeOf f18) [] (RetQ prog [.tmp 8,.tmp 9] n0 K)) :=
 loop_rule hJ mixed (b := subC [1,1,1,1,1,0,0,0] (codeOf f18)) (by kernel_rfl) μ I hI hi
theorem s18_2 {f : RG} {nx0 : RG → List AObj → Prop} : W prog J 48 n0 18 (subC [1,1,1,1,1,0,0,0,0,1] (codeOf f18)) f h (contX pl18 prog J 48 n0 18 ct18 [1,1,1,1,1,0,0,0,0,1] (codeOf f18) [nx0] (RetQ prog [.tmp 8,.tmp 9] n0 K)) =
(cnd (f.r 44)
(aBin prog .sub 3 (f.r 11) (vint 1) fun v1 =>
nx0 (RG.p (RG.p (RG.p f 45 (f.r 11)) 46 v1) 11 v1) h)
(retL n0 K f.ds [(f.r 11),(vint 0)] h)) := sub_eq pok18 ct18 (by kernel_rfl)
end
section
variable {main : Bool} {J : JT} {n0 : Nat} {h : List AObj} {K : Value → List AObj → Prop}
theorem at65 : prog.funcs[65]? = some f65 := by kernel_rfl
theorem body65 : f65.body = some (codeOf f65) := by kernel_rfl
def pl65 : Plans := []
def ct65 : Cuts := .go
theorem pok65 : plansOk prog pl65 (codeOf f65) = true := by kernel_rfl
theorem e65 {a0 : Value} : W prog J 4 h.length 65 (codeOf f65) (RG.mk (regs [a0]) []) h (RetQ prog [.tmp 2] h.length K) =
(aBox a0 h fun v1 h2 =>
aMkF 73 [] [v1] fun v3 =>
retL h.length K [] [v3] h2) := top_eq pok65 ct65 (by kernel_rfl)
theorem g65 (hJ : Closed prog main J) {a0 : Value} (hs : heapOk h → W prog J 4 h.length 65 (codeOf f65) (RG.mk (regs [a0]) []) h (RetQ prog [.tmp 2] h.length K)) : Good prog J 65 [a0] h K :=
 good_of_W hJ mixed at65 body65 (by kernel_rfl) (Nat.le_of_ble_eq_true rfl) hs
theorem at73 : prog.funcs[73]? = some f73 := by kernel_rfl
theorem body73 : f73.body = some (codeOf f73) := by kernel_rfl
def pl73 : Plans := [(3,false,.take 0 (.take 1 (.take 2 (.take 4 (.last 3 true (.last 5 true (.fin)))))))]
def ct73 : Cuts := .go
theorem pok73 : plansOk prog pl73 (codeOf f73) = true := by kernel_rfl
theorem e73 {a0 a1 : Value} : W prog J 11 h.length 73 (codeOf f73) (RG.mk (regs [a0,a1]) []) h (RetQ prog [] h.length K) =
(aBox a0 h fun v1 h2 =>
aAlloc [(Value.nilFunc)] h2 fun v3 h4 =>
aMkF 74 [] [a1,v1,v3] fun v5 =>
aStore 1 v3 v5 h4 fun h6 =>
(∃ B,aLoad false 1 v3 h6 fun v7 =>
RdOk (some B) (ptrBlk v3) ∧ (aOff a1 0 fun v8 =>
aLoad false 1 v8 h6 fun v9 =>
RdOk (some B) (ptrBlk v8) ∧ (aFill [(Value.int .u8 0),(vint 0)] [] fun c10 =>
((List.length [(Value.int .u8 0)] = 1 ∧ (1 : Nat) ≤ 1024) ∧ aMkS [(Value.int .u8 0)] (vint 0) v9 h6 fun v11 h12 =>
SameB (some B) h6 h12 ∧ (callV prog (Good prog J) v7 [v11,(Value.agg ⟨c10⟩)] h12 fun v13 h14 =>
SameB (some B) h6 h14 ∧ (retL h.length K [] [] h14))))))) := top_eq pok73 ct73 (by kernel_rfl)
theorem g73 (hJ : Closed prog main J) {a0 a1 : Value} (hs : heapOk h → W prog J 11 h.length 73 (codeOf f73) (RG.mk (regs [a0,a1]) []) h (RetQ prog [] h.length K)) : Good prog J 73 [a0,a1] h K :=
 good_of_W hJ mixed at73 body73 (by kernel_rfl) (Nat.le_of_ble_eq_true rfl) hs
theorem at74 : prog.funcs[74]? = some f74 := by kernel_rfl
theorem body74 : f74.body = some (codeOf f74) := by kernel_rfl
def pl74 : Plans := [(7,false,.take 0 (.take 1 (.take 2 (.take 3 (.take 4 (.take 7 (.last 5 true (.last 6 true (.last 8 false (.take 9 (.take 10 (.fin))))))))))))]
def ct74 : Cuts := .bin (.go) (.bin (.go) (.bin (.bin (.go) (.un (.un (.bin (.go) (.bin (.go) (.bin (.un (.bin (.go) (.bin (.go) (.bin (.go) (.cut (.go)))))) (.go))))))) (.go)))
theorem pok74 : plansOk prog pl74 (codeOf f74) = true := by kernel_rfl
theorem e74 {a0 a1 a2 a3 a4 : Value} : W prog J 44 h.length 74 (codeOf f74) (RG.mk (regs [a0,a1,a2,a3,a4]) []) h (RetQ prog [.tmp 7] h.length K) =
(aBox a1 h fun v1 h2 =>
aLenS a0 fun v3 =>
aOff a2 0 fun v4 =>
aLoad false 1 v4 h2 fun v5 =>
aBin prog .eql 3 v3 v5 fun v6 =>
cnd v6
(aLoad false 1 a3 h2 fun v7 =>
aB2S a0 h2 fun v8 =>
callV prog (Good prog J) v7 [v8] h2 fun v9 h10 =>
retL h.length K [] [v9] h10)
(aFill [(Value.int .u8 0),(Value.int .u8 0)] [(0,1,(Value.int .u8 100)),(1,1,(Value.int .u8 119))] fun c11 =>
Sem J 44 h.length 74 (subC [1,1,0,1,0] (codeOf f74)) (RG.p (RG.p (RG.p (RG.p (RG.p (RG.p (RG.p (RG.p (RG.p (RG.mk (regs [a0,a1,a2,a3,a4]) []) 6 v1) 7 (Value.bool false)) 12 a0) 13 v3) 14 v4) 15 v5) 16 v6) 21 (Value.agg ⟨c11⟩)) 22 (vint 0)) h2 (contX pl74 prog J 44 h.length 74 ct74 [1,1,0,1,0] (codeOf f74) [] (RetQ prog [.tmp 7] h.length K)))) := top_eq pok74 ct74 (by kernel_rfl)
theorem g74 (hJ : Closed prog main J) {a0 a1 a2 a3 a4 : Value} (hs : heapOk h → W prog J 44 h.length 74 (codeOf f74) (RG.mk (regs [a0,a1,a2,a3,a4]) []) h (RetQ prog [.tmp 7] h.length K)) : Good prog J 74 [a0,a1,a2,a3,a4] h K :=
 good_of_W hJ mixed at74 body74 (by kernel_rfl) (Nat.le_of_ble_eq_true rfl) hs
theorem s74_1 {f : RG} {nx0 : RG → List AObj → Prop} : W prog J 44 n0 74 (subC [1,1,0,1,0,0] (codeOf f74)) f h (thenK nx0 (contX pl74 prog J 44 n0 74 ct74 [1,1,0,1,0] (codeOf f74) [] (RetQ prog [.tmp 7] n0 K))) =
(aBin prog .lss 3 (f.r 22) (vint 2) fun v1 =>
cnd v1
(aIdxV 2 1 false (f.r 21) (f.r 22) fun v2 =>
aLoad true 2 (f.r 6) h fun v3 =>
aLoad true 3 (f.r 2) h fun v4 =>
Good prog J 57 [v3,v4,v2] h fun v5 h6 =>
aExt v5 0 fun v7 =>
aExt v5 1 fun v8 =>
aAlloc [(Value.int .u8 0),(vint 0)] h6 fun v9 h10 =>
aStore 2 v9 v7 h10 fun h11 =>
(∃ B,cnd v8
(aLoad false 1 (f.r 4) h11 fun v12 =>
RdOk (some B) (ptrBlk (f.r 4)) ∧ (aLoad true 2 v9 h11 fun v13 =>
RdOk (some B) (ptrBlk v9) ∧ ((((1 * 1 : Nat) ≤ 16777216 ∧ (1 : Nat) ≤ 16777216 ∧ List.length [(Value.int .u8 0)] = 1) ∧ aFill (zrep [(Value.int .u8 0)] 1) [(0,1,v2)] fun c14 =>
aNewS 1 c14 h11 fun v15 h16 =>
SameB (some B) h11 h16 ∧ (((List.length [(Value.int .u8 0)] = 1 ∧ 0 < (1 : Nat) ∧ 0 < (1 : Nat) ∧ (1 : Nat) ≤ 1024) ∧ aApp 1 (f.r 0) v15 h16 fun v17 h18 =>
SameB (some B) h11 h18 ∧ (callV prog (Good prog J) v12 [v17,v13] h18 fun v19 h20 =>
aUn .not v19 fun v21 =>
Hold (W prog J 44 n0 74 (subC [1,1,0,1,0,0,1,1,0,0,1,1,1] (codeOf f74)) (RG.p (RG.p (RG.p (RG.p (RG.p (RG.p (RG.p (RG.p (RG.p (RG.p (RG.p (RG.p (RG.p (RG.p (RG.p (RG.p (RG.p (RG.p (RG.p (RG.p (RG.p (RG.p (RG.p (RG.p f 23 v1) 24 v2) 9 v2) 26 v3) 27 v4) 28 v2) 29 v5) 25 v5) 30 v7) 31 v8) 10 v9) 11 v8) 32 v8) 33 v8) 33 (Value.bool true)) 34 v12) 35 (f.r 0)) 36 v2) 39 v13) 37 v15) 38 v17) 40 v19) 41 v21) 42 v21) h20 (contX pl74 prog J 44 n0 74 ct74 [1,1,0,1,0,0,1,1,0,0,1,1,1] (codeOf f74) [nx0] (RetQ prog [.tmp 7] n0 K))))))))))
(Hold (W prog J 44 n0 74 (subC [1,1,0,1,0,0,1,1,0,0,1,1,1] (codeOf f74)) (RG.p (RG.p (RG.p (RG.p (RG.p (RG.p (RG.p (RG.p (RG.p (RG.p (RG.p (RG.p (RG.p (RG.p (RG.p (RG.p (RG.p (RG.p (RG.p (RG.p (RG.p (RG.p (RG.p (RG.p f 23 v1) 24 v2) 9 v2) 26 v3) 27 v4) 28 v2) 29 v5) 25 v5) 30 v7) 31 v8) 10 v9) 11 v8) 32 v8) 33 v8) 33 (Value.bool false)) 34 undef) 35 undef) 36 undef) 39 undef) 37 undef) 38 undef) 40 undef) 41 undef) 42 (Value.bool false)) h11 (contX pl74 prog J 44 n0 74 ct74 [1,1,0,1,0,0,1,1,0,0,1,1,1] (codeOf f74) [nx0] (RetQ prog [.tmp 7] n0 K))))))
(retL n0 K f.ds [(Value.bool true)] h)) := sub_eq pok74 ct74 (by kernel_rfl)
theorem l74_1 (hJ : Closed prog main J) {S : Type} (μ : S → Nat) (I : S → RG → List AObj → Prop) (hI : ∀ s f h,I s f h → heapOk h → n0 ≤ h.length → W prog J 44 n0 74 (subC [1,1,0,1,0,0] (codeOf f74)) f h (thenK (Nx n0 μ I s) (contX pl74 prog J 44 n0 74 ct74 [1,1,0,1,0] (codeOf f74) [] (RetQ prog [.tmp 7] n0 K))))
 {s : S} {f : RG} (hi : Gets n0 I s f h) : Sem J 44 n0 74 (subC [1,1,0,1,0] (codeOf f74)) f h (contX pl74 prog J 44 n0 74 ct74 [1,1,0,1,0] (codeOf f74) [] (RetQ prog [.tmp 7] n0 K)) :=
 loop_rule hJ mixed (b := subC [1,1,0,1,0,0] (codeOf f74)) (by kernel_rfl) μ I hI hi
theorem s74_2 {f : RG} {nx0 : RG → List AObj → Prop} : W prog J 44 n0 74 (subC [1,1,0,1,0,0,1,1,0,0,1,1,1] (codeOf f74)) f h (contX pl74 prog J 44 n0 74 ct74 [1,1,0,1,0,0,1,1,0,0,1,1,1] (codeOf f74) [nx0] (RetQ prog [.tmp 7] n0 K)) =
(cnd (f.r 42)
(retL n0 K f.ds [(Value.bool false)] h)
(aBin prog .add 3 (f.r 22) (vint 1) fun v1 =>
nx0 (RG.p (RG.p f 43 v1) 22 v1) h)) := sub_eq pok74 ct74 (by kernel_rfl)
end
end Go.Proofs.Yteoenhhmcpipoaa
namespace Go.Proofs.Yteoenhhmcpipoaa
open Go.Conc Go.Proofs.Try
set_option maxRecDepth 100000
def bV (b : UInt8) : Value := .int .u8 b.toNat
def strV (w : List UInt8) : Value := .string ⟨⟨w⟩⟩
theorem kn_bV (w : List UInt8) : kn (w.map bV) = true := by
 simp [kn,kn1,bV]
theorem bytes_bV : ∀ w : List UInt8,bytesOf (w.map bV) = some w
 | [] => rfl
 | b :: w => by
  show (match byteOf (bV b),bytesOf (w.map bV) with
   | some b,some bs => some (b :: bs)
   | _,_ => none) = _
  rw [bytes_bV w]
  have : byteOf (bV b) = some b := by
   show some (UInt8.ofNat ((b.toNat : Nat) : Int).toNat) = some b
   rw [Int.toNat_natCast,UInt8.ofNat_toNat]
  rw [this]
def growF (ps py pg : Nat) : Value := .func (.func 74) ⟨[]⟩ ⟨[ptr ps 0,ptr py 0,ptr pg 0]⟩
def TillZ (n : Nat) (O : List Nat) (h H : List AObj) : Prop := h.length ≤ H.length ∧ ∀ i,i < n ∨ i ∈ O → H[i]? = h[i]?
structure Rnd (J : JT) (L : List (List UInt8)) (y : Value) (X : List Nat) (Hs : List AObj) (I : Nat → List Nat → List AObj → Prop) (St : List AObj → Prop) : Prop where
 hX : ∀ x ∈ X,x < Hs.length
 hO : ∀ {k O H'},I k O H' → ∀ x ∈ O,x < H'.length
 hI : ∀ {k O H1 H2},TillZ Hs.length O H1 H2 → I k O H1 → I k O H2
 round : ∀ (k : Nat) (w : List UInt8) (O : List Nat) (H1 : List AObj) (Q : Value → List AObj → Prop),L[k]? = some w → SameX X Hs H1 → (∀ x ∈ O,Hs.length ≤ x) → I k O H1 → (∀ O' H2,SameX (X ++ O) H1 H2 → (∀ x ∈ O',x ∈ O ∨ H1.length ≤ x) → I (k + 1) O' H2 → Q (.bool true) H2) → (∀ H2,SameX (X ++ O) H1 H2 → St H2 → Q (.bool false) H2) → callV prog (Good prog J) y [strV w] H1 Q
section
variable {main : Bool} {J : JT} {h H : List AObj} {K : Value → List AObj → Prop} {KV : Value → Prop} {HL : List AObj → Prop} {n0 : Nat}
theorem strI {b n m : Nat} {cs : List Value} {wr : Bool} {sz : Nat} {w : List UInt8} (hb : H[b]? = some (.cells cs wr sz)) (hn : w.length = n) (ht : cs.take n = w.map bV) (hk : KV (strV w)) : aB2S (.slice (some ⟨b,0,none⟩) n m) H KV := by
 unfold aB2S
 simp only [hb]
 have hl : n ≤ cs.length := by
  have := congrArg List.length ht
  simp at this
  omega
 refine ⟨by omega,?_⟩
 rw [List.drop_zero,ht,bytes_bV]
 exact hk
theorem appB {b k m : Nat} {cs : List Value} {v y : Value} (hb : H[b]? = some (.cells cs true 0)) (hl : cs.length = m) (hk : k < m) (hm : m < 1000) (hc : kn (cs.take k) = true) (hy : Sli H y 1 1 [v])
 (hK : ∀ H',SameX [b] H H' → H'[b]? = some (.cells (cs.set k v) true 0) → H'.length = H.length → K (.slice (some ⟨b,0,none⟩) (k + 1) m) H') : aApp 1 (.slice (some ⟨b,0,none⟩) k m) y H K := appIn hb hl hk hm hc hy hK
theorem good74 (hJ : Closed prog main J) {s : SkyR} {L : List (List UInt8)} {y : Value} {X : List Nat} {Hs : List AObj} {I : Nat → List Nat → List AObj → Prop} {St : List AObj → Prop} (R : Rnd J L y X Hs I St) (ky : y.cells = #[y] ∧ one y = true ∧ kn1 y = true)
  {ps py pg pb m : Nat} (hm : m ≤ 8) (hdays : s.days = (m : Int)) (cs0 : Hs[ps]? = some (.cells s.cells true 0)) (nX : ps ∉ X) (n1 : Hs.length ≤ py) (n2 : Hs.length ≤ pg) (n3 : Hs.length ≤ pb) (d1 : pb ≠ py) (d2 : pb ≠ pg) :
  ∀ (left : Nat) (w : List UInt8) (x : Spl) (k : Nat) (O : List Nat) (cs : List Value) {H : List AObj} {K : Value → List AObj → Prop},
  w.length + left = m → 0 ≤ x.2 ∧ x.2 ≤ 100 + w.length → (∀ j,j < (growB s left w x).length → L[k + j]? = (growB s left w x)[j]?) →
  SameX X Hs H → H[py]? = some (.cells [y] true 0) → H[pg]? = some (.cells [growF ps py pg] true 0) → H[pb]? = some (.cells cs true 0) → cs.length = m → cs.take w.length = w.map bV →
  I k O H → (∀ z ∈ O,Hs.length ≤ z ∧ z ≠ py ∧ z ≠ pg ∧ z ≠ pb) →
  (∀ H' O' cs',SameX (pb :: (X ++ O)) H H' → (∀ z ∈ O',z ∈ O ∨ H.length ≤ z) → H'[pb]? = some (.cells cs' true 0) → cs'.length = m → cs'.take w.length = w.map bV → I (k + (growB s left w x).length) O' H' → K (.bool true) H') →
  (∀ H',SameX (pb :: (X ++ O)) H H' → St H' → K (.bool false) H') →
  Good prog J 74 [.slice (some ⟨pb,0,none⟩) w.length m,.agg ⟨spC x⟩,ptr ps 0,ptr py 0,ptr pg 0] H K
 | 0,w,x,k,O,cs,H,K,hwl,hx,hL,S0,cy,cg,cb,hcl,htk,ik,hO,hK1,hK2 => by
  refine g74 hJ fun ok => ?_
  rw [e74]
  refine qBox (l := spC x) rfl fun H1 p1 e1 S1 c1 l1 => ?_
  have lps := lt_of_get cs0
  have cps := S0.get cs0 nX
  have hs : Sli H1 (.slice (some ⟨pb,0,none⟩) w.length m) 1 w.length (w.map bV) := ⟨_,_,rfl,⟨by simp,kn_bV w⟩,.inr ⟨pb,0,rfl,.inr ⟨cs,true,0,S1.get cb (by simp),by simpa using htk⟩⟩⟩
  refine lenI hs (offI (ldI (v := vint s.days) (S1.get cps (by simp)) rfl rfl (eqlI (cndI (fun _ => ?_) fun hne => absurd (by rw [hdays]; congr 1) hne))))
  refine ldI (v := y) (S1.get cy (by simp)) rfl ky.2.2 (strI (S1.get cb (by simp)) rfl htk ?_)
  have hS0 := S0.1
  have hlH := lt_of_get cb
  have u : ∀ {H2 : List AObj},SameX (X ++ O) H1 H2 → SameX (pb :: (X ++ O)) H H2 := fun S => (S1.weak0.trans (S.weak fun x hx => List.mem_cons_of_mem _ hx))
  have n4 : pb ∉ X ++ O := by
   intro hz
   rcases List.mem_append.1 hz with hz | hz
   ·have := R.hX _ hz
    omega
   ·exact (hO _ hz).2.2.2 rfl
  refine R.round k w O H1 _ (by have := hL 0 (by simp [growB]); simpa [growB] using this) (S0.thru S1.weak0 (Y := X) fun _ h => .inl h) (fun z hz => (hO z hz).1) (R.hI ⟨S1.1,fun i hi => S1.2 i (by rcases hi with hi | hi; omega; exact R.hO ik i hi) (by simp)⟩ ik) (fun O' H2 S2 hO' i2 => ?_) fun H2 S2 st => ?_
  ·exact retL_same (by simp [unk]) (hK1 H2 O' cs (u S2) (fun z hz => (hO' z hz).imp id fun h => by have := S1.1; omega) (S2.get (S1.get cb (by simp)) n4) hcl htk i2)
  ·exact retL_same (by simp [unk]) (hK2 H2 (u S2) st)
 | left + 1,w,x,k,O,cs,H,K,hwl,hx,hL,S0,cy,cg,cb,hcl,htk,ik,hO,hK1,hK2 => by
  refine g74 hJ fun ok => ?_
  rw [e74]
  have hfz : (1000 : Nat) < fz := by decide
  refine qBox (l := spC x) rfl fun Ha p1 e1 S1 c1 l1 => ?_
  have lps := lt_of_get cs0
  have hs : Sli Ha (.slice (some ⟨pb,0,none⟩) w.length m) 1 w.length (w.map bV) := ⟨_,_,rfl,⟨by simp,kn_bV w⟩,.inr ⟨pb,0,rfl,.inr ⟨cs,true,0,S1.get cb (by simp),by simpa using htk⟩⟩⟩
  have hS0 := S0.1
  have lpb := lt_of_get cb
  have lpy := lt_of_get cy
  have lpg := lt_of_get cg
  refine lenI hs (offI (ldI (v := vint s.days) (S1.get (S0.get cs0 nX) (by simp)) rfl rfl (eqlI (cndI (fun he => absurd he (by rw [hdays]; omega)) fun _ => ?_))))
  refine fillO (l := [bV 100]) rfl rfl rfl (by decide) (fillO (l := [bV 119]) rfl rfl rfl (by rw [wrAt_length]; decide) (fillI ?_))
  -- what both letters come to
  let A : List (List UInt8) := if nextOk s x 100 = true then growB s left (w ++ [100]) (nextX x 100) else []
  let B : List (List UInt8) := if nextOk s x 119 = true then growB s left (w ++ [119]) (nextX x 119) else []
  have hAB : growB s (left + 1) w x = A ++ B := rfl
  let off : Nat → Nat := fun i => if i = 0 then 0 else if i = 1 then A.length else A.length + B.length
  refine l74_1 hJ (fun i : Nat => 2 - i) (fun i F H' => ∃ O' cs',i ≤ 2 ∧ SameX (pb :: (X ++ O)) Ha H' ∧ (∀ z ∈ O',z ∈ O ∨ Ha.length ≤ z) ∧ H'[pb]? = some (.cells cs' true 0) ∧ cs'.length = m ∧ cs'.take w.length = w.map bV ∧ I (k + off i) O' H' ∧
    F.ds = [] ∧ F.r 0 = .slice (some ⟨pb,0,none⟩) w.length m ∧ F.r 2 = ptr ps 0 ∧ F.r 4 = ptr pg 0 ∧ F.r 6 = ptr p1 0 ∧ F.r 21 = .agg ⟨[bV 100,bV 119]⟩ ∧ F.r 22 = vint (i : Nat)) ?_ (s := 0)
   (.inl ⟨O,cs,by omega,SameX.refl,fun z hz => .inl hz,S1.get cb (by simp),hcl,htk,R.hI ⟨S1.1,fun i hi => S1.2 i (by rcases hi with hi | hi; omega; exact R.hO ik i hi) (by simp)⟩ ik,rfl,rfl,rfl,rfl,rfl,rfl,rfl⟩)
  rintro i F Hc ⟨O1,cs1,hi,Sc,hO1,cb1,hcl1,htk1,ik1,ds,r0,r2,r4,r6,r21,r22⟩ okc hnc
  rw [s74_1,r0,r2,r4,r6,r21,r22,ds]
  have hSc := Sc.1
  have hOo : ∀ z ∈ O1,Hs.length ≤ z ∧ z ≠ py ∧ z ≠ pg ∧ z ≠ pb ∧ z ≠ p1 := fun z hz => by
   rcases hO1 z hz with h | h
   ·have := hO z h
    have := R.hO ik z h
    omega
   ·omega
  have notin : ∀ q,q < Hs.length → q ∉ X → q ∉ pb :: (X ++ O) := fun q h1 h2 hm' => by
   rcases List.mem_cons.1 hm' with hz | hz
   ·omega
   ·rcases List.mem_append.1 hz with hz | hz
    ·exact h2 hz
    ·have := (hO _ hz).1
     omega
  have notin2 : ∀ q,Hs.length ≤ q → q ≠ pb → q ∉ O → q ∉ pb :: (X ++ O) := fun q h1 h2 h3 hm' => by
   rcases List.mem_cons.1 hm' with hz | hz
   ·exact h2 hz
   ·rcases List.mem_append.1 hz with hz | hz
    ·have := R.hX _ hz
     omega
    ·exact h3 hz
  have cpsc := Sc.get (S1.get (S0.get cs0 nX) (by simp)) (notin ps lps nX)
  have cyc := Sc.get (S1.get cy (by simp)) (notin2 py n1 (by omega) (fun hz => (hO _ hz).2.1 rfl))
  have cgc := Sc.get (S1.get cg (by simp)) (notin2 pg n2 (by omega) (fun hz => (hO _ hz).2.2.1 rfl))
  have c1c := Sc.get c1 (notin2 p1 (by omega) (by omega) (fun hz => by have := R.hO ik _ hz; omega))
  have T1 : SameX (pb :: (X ++ O)) H Hc := (S1.weak0).trans Sc
  refine lssI (cndI (fun hlt => ?_) fun hge => ?_)
  rotate_left
  ·have : i = 2 := by omega
   subst this
   refine retL_same (by simp [unk]) (hK1 Hc O1 cs1 T1 (fun z hz => (hO1 z hz).imp id fun h => by have := S1.1; omega) cb1 hcl1 htk1 ?_)
   rw [hAB,List.length_append]
   exact ik1
  have hi2 : i < 2 := by omega
  obtain ⟨c,hc,hcv⟩ : ∃ c : UInt8,(c = 100 ∧ i = 0 ∨ c = 119 ∧ i = 1) ∧ [bV 100,bV 119][i]? = some (bV c) := by
   rcases (by omega : i = 0 ∨ i = 1) with h | h
   ·exact ⟨100,.inl ⟨rfl,h⟩,by rw [h]; rfl⟩
   ·exact ⟨119,.inr ⟨rfl,h⟩,by rw [h]; rfl⟩
  -- the part of this letter
  let P : List (List UInt8) := if nextOk s x c = true then growB s left (w ++ [c]) (nextX x c) else []
  have hP : off (i + 1) = off i + P.length ∧ ∀ j,j < P.length → L[k + off i + j]? = P[j]? := by
   rcases hc with ⟨h1,h2⟩ | ⟨h1,h2⟩
   ·subst h1 h2
    refine ⟨by show A.length = 0 + A.length; omega,fun j hj => ?_⟩
    have hj : j < A.length := hj
    have := hL j (by rw [hAB,List.length_append]; omega)
    rw [hAB,List.getElem?_append_left hj] at this
    exact this
   ·subst h1 h2
    refine ⟨rfl,fun j hj => ?_⟩
    have hj : j < B.length := hj
    have := hL (A.length + j) (by rw [hAB,List.length_append]; omega)
    rw [hAB,List.getElem?_append_right (by omega),Nat.add_sub_cancel_left] at this
    show L[k + A.length + j]? = B[j]?
    rw [Nat.add_assoc]
    exact this
  have hidx : aIdxV 2 1 false (.agg ⟨[bV 100,bV 119]⟩) (vint (i : Nat)) = fun KI => KI (bV c) := by
   funext KI
   rcases hc with ⟨h1,h2⟩ | ⟨h1,h2⟩ <;> subst h1 h2 <;> exact propext ⟨fun h => h.2,fun h => ⟨⟨by decide,by decide⟩,h⟩⟩
  rw [hidx]
  refine load_part (c := spC x) c1c (by simp [spC]) rfl rfl (load_part (c := s.cells) cpsc (by simp [SkyR.cells]) rfl rfl ?_)
  refine good57 hJ (by omega) fun H2 S2 => ext0 (ext1 (qAl fun H3 p9 e3 S3 c3 l3 => qStA (c := spC (nextX x c)) c3 rfl rfl rfl fun H4 S4 c4 l4 => ?_))
  have hS2 := S2.1
  have T4 : SameX [] Hc H4 := (S2.trans S3).thru S4 (by simp; omega)
  have hT4 := T4.1
  have ik4 : I (k + off i) O1 H4 := R.hI ⟨T4.1,fun j hj => T4.2 j (by rcases hj with hj | hj; omega; exact R.hO ik1 j hj) (by simp)⟩ ik1
  -- behind this letter
  have next : ∀ {F' : RG} {H5 : List AObj} {O5 : List Nat} {cs5 : List Value},F'.ds = [] → F'.r 0 = .slice (some ⟨pb,0,none⟩) w.length m → F'.r 2 = ptr ps 0 → F'.r 4 = ptr pg 0 → F'.r 6 = ptr p1 0 → F'.r 21 = .agg ⟨[bV 100,bV 119]⟩ → F'.r 22 = vint (i : Nat) → F'.r 42 = .bool false →
    SameX (pb :: (X ++ O1)) H4 H5 → (∀ z ∈ O5,z ∈ O1 ∨ H4.length ≤ z) → H5[pb]? = some (.cells cs5 true 0) → cs5.length = m → cs5.take w.length = w.map bV → I (k + off (i + 1)) O5 H5 →
    W prog J 44 H.length 74 (subC [1,1,0,1,0,0,1,1,0,0,1,1,1] (codeOf f74)) F' H5 (contX pl74 prog J 44 H.length 74 ct74 [1,1,0,1,0,0,1,1,0,0,1,1,1] (codeOf f74) [Nx H.length (fun i : Nat => 2 - i) (fun i F H' => ∃ O' cs',i ≤ 2 ∧ SameX (pb :: (X ++ O)) Ha H' ∧ (∀ z ∈ O',z ∈ O ∨ Ha.length ≤ z) ∧ H'[pb]? = some (.cells cs' true 0) ∧ cs'.length = m ∧ cs'.take w.length = w.map bV ∧ I (k + off i) O' H' ∧
    F.ds = [] ∧ F.r 0 = .slice (some ⟨pb,0,none⟩) w.length m ∧ F.r 2 = ptr ps 0 ∧ F.r 4 = ptr pg 0 ∧ F.r 6 = ptr p1 0 ∧ F.r 21 = .agg ⟨[bV 100,bV 119]⟩ ∧ F.r 22 = vint (i : Nat)) i] (RetQ prog [.tmp 7] H.length K)) := by
   intro F' H5 O5 cs5 ds r0 r2 r4 r6 r21 r22 r42 S5 hO5 cb5 hcl5 htk5 ik5
   rw [s74_2,r42,r22]
   refine cnd_false.2 (addI (by omega) ⟨i + 1,by dsimp only; omega,.inl ⟨O5,cs5,by omega,?_,fun z hz => ?_,cb5,hcl5,htk5,ik5,ds,r0,r2,r4,r6,r21,by show vint _ = vint _; congr 1⟩⟩)
   ·refine (Sc.thru (T4.weak0 (Y := pb :: (X ++ O))) fun _ h => .inl h).thru S5 fun z hz => ?_
    rcases List.mem_cons.1 hz with hz | hz
    ·exact .inl (by rw [hz]; exact List.mem_cons_self)
    ·rcases List.mem_append.1 hz with hz | hz
     ·exact .inl (List.mem_cons_of_mem _ (List.mem_append_left _ hz))
     ·rcases hO1 z hz with h | h
      ·exact .inl (List.mem_cons_of_mem _ (List.mem_append_right _ h))
      ·exact .inr h
   ·rcases hO5 z hz with h | h
    ·exact hO1 z h
    ·exact .inr (by omega)
  have cb4 := T4.get cb1 (by simp)
  have cg4 := T4.get cgc (by simp)
  have lg4 := lt_of_get cg4
  have l9 : p9 < H4.length := lt_of_get c4
  refine ⟨[pg,p9],cndB (fun hyes => ?_) fun hno => hold.2 ?_⟩
  rotate_left
  ·have hP0 : P.length = 0 := by show (if nextOk s x c = true then _ else []).length = 0; rw [hno]; rfl
   refine next ds r0 r2 r4 r6 r21 r22 rfl SameX.refl (fun z hz => .inl hz) cb4 hcl1 htk1 ?_
   rw [hP.1,hP0]
   exact ik4
  have hPe : P = growB s left (w ++ [c]) (nextX x c) := by show (if nextOk s x c = true then _ else []) = _; rw [if_pos hyes]
  refine ldI (v := growF ps py pg) cg4 rfl rfl ⟨by simp [RdOk,ptrBlk],load_part (c := spC (nextX x c)) c4 (by simp [spC]) rfl rfl ⟨by simp [RdOk,ptrBlk],?_⟩⟩
  refine ⟨by decide,fillO (l := [bV c]) rfl rfl rfl (by decide) (fillI (qNew fun H5 p5 e5 S5 c5 l5 => ⟨sbTwo S5 lg4 l9 (by simp) (by simp),by decide,?_⟩))⟩
  have c5 : H5[p5]? = some (.cells [bV c] true 0) := c5
  have y5 := ownX_sli (ownX_new (s := 1) (n := 1) (l := [bV c]) c5 rfl rfl)
  refine appB (S5.get cb4 (by simp)) hcl1 (by omega) (by omega) (by rw [htk1]; exact kn_bV w) y5 fun H6 S6 c6 l6 => ?_
  have T6 : SameX [pb] H4 H6 := S5.weak0.trans S6
  have hT6 := T6.1
  refine ⟨sbTwo T6 lg4 l9 (by simp; omega) (by simp; omega),callCz (by kernel_rfl) ?_⟩
  have hset : (cs1.set w.length (bV c)).take (w.length + 1) = (w ++ [c]).map bV := by
   rw [List.take_add_one,List.take_set_of_le (Nat.le_refl _),htk1,List.getElem?_set_self (by omega)]
   simp
  have hlen : (w ++ [c]).length = w.length + 1 := by simp
  have U6 : SameX [pb] Hc H6 := (T4.weak0).trans T6
  have nx2 : 0 ≤ (nextX x c).2 ∧ (nextX x c).2 ≤ 100 + (w.length + 1 : Nat) := by
   unfold nextX
   split
   ·exact ⟨by dsimp only; omega,by dsimp only; omega⟩
   ·exact ⟨by dsimp only; omega,by dsimp only; omega⟩
  rw [← hlen]
  refine good74 hJ R ky hm hdays cs0 nX n1 n2 n3 d1 d2 left (w ++ [c]) (nextX x c) (k + off i) O1 (cs1.set w.length (bV c)) (by rw [hlen]; omega) (by rw [hlen]; exact nx2) (by rw [← hPe]; exact hP.2)
   ?_ (U6.get cyc (by simp; omega)) (U6.get cgc (by simp; omega)) c6 (by rw [List.length_set,hcl1]) (by rw [hlen]; exact hset)
   (R.hI ⟨by omega,fun j hj => T6.2 j (by rcases hj with hj | hj; omega; exact R.hO ik4 j hj) (by
    rcases hj with hj | hj
    ·simp
     omega
    ·have := hOo j hj
     simp
     omega)⟩ ik4) (fun z hz => by have := hOo z hz; omega) (fun H7 O7 cs7 S7 hO7 c7 hc7 ht7 i7 => ?_) fun H7 S7 st => ?_
  ·refine (S0.thru T1 fun z hz => ?_).thru U6 (by simp; omega)
   rcases List.mem_cons.1 hz with hz | hz
   ·exact .inr (by omega)
   ·rcases List.mem_append.1 hz with hz | hz
    ·exact .inl hz
    ·exact .inr (hO z hz).1
  ·have S47 : SameX (pb :: (X ++ O1)) H4 H7 := (T6.weak (by simp)).trans S7
   have tk7 : cs7.take w.length = w.map bV := by
    have : (cs7.take (w.length + 1)).take w.length = cs7.take w.length := by rw [List.take_take,Nat.min_eq_left (by omega)]
    rw [← this,← hlen,ht7,List.map_append]
    simp
   refine notI (hold.2 (next ds r0 r2 r4 r6 r21 r22 rfl S47 (fun z hz => (hO7 z hz).imp id fun h => by omega) c7 hc7 tk7 ?_))
   rw [hP.1,hPe,← Nat.add_assoc]
   exact i7
  ·refine notI (hold.2 ?_)
   rw [s74_2]
   show cnd (.bool true) _ _
   refine cnd_true.2 ?_
   show retL H.length K F.ds [.bool false] H7
   rw [ds]
   have S47 : SameX (pb :: (X ++ O1)) Hc H7 := (U6.weak (by simp)).trans S7
   refine retL_same (by simp [unk]) (hK2 H7 (T1.thru S47 fun z hz => ?_) st)
   rcases List.mem_cons.1 hz with hz | hz
   ·exact .inl (by rw [hz]; exact List.mem_cons_self)
   ·rcases List.mem_append.1 hz with hz | hz
    ·exact .inl (List.mem_cons_of_mem _ (List.mem_append_left _ hz))
    ·rcases hO1 z hz with h | h
     ·exact .inl (List.mem_cons_of_mem _ (List.mem_append_right _ h))
     ·exact .inr (by have := S1.1; omega)
theorem good65 (hJ : Closed prog main J) {s : SkyR} (hK : ∀ H' ps,SameX [] H H' → H'[ps]? = some (.cells s.cells true 0) → H.length ≤ ps → K (.func (.func 73) ⟨[]⟩ ⟨[ptr ps 0]⟩) H') : Good prog J 65 [.agg ⟨s.cells⟩] H K := by
 refine g65 hJ fun ok => ?_
 rw [e65]
 exact qBox (l := s.cells) rfl fun H1 p1 e1 S1 c1 l1 => ⟨rfl,retL_same (by simp [unk]) (hK H1 p1 S1 c1 (by omega))⟩
theorem good73 (hJ : Closed prog main J) {s : SkyR} (f : skyOk s) {y : Value} {X : List Nat} {ps : Nat} {I : Nat → List Nat → List AObj → Prop} {St : List AObj → Prop} (R : Rnd J (rainsB s) y X H I St) (ky : y.cells = #[y] ∧ one y = true ∧ kn1 y = true)
  (cs0 : H[ps]? = some (.cells s.cells true 0)) (nX : ps ∉ X) (h0 : I 0 [] H)
  (hK1 : ∀ H2 O,SameX X H H2 → (∀ z ∈ O,H.length ≤ z) → I (rainsB s).length O H2 → K (.tuple ⟨[]⟩) H2) (hK2 : ∀ H2,SameX X H H2 → St H2 → K (.tuple ⟨[]⟩) H2) : Good prog J 73 [y,ptr ps 0] H K := by
 refine g73 hJ fun ok => ?_
 rw [e73]
 obtain ⟨f1,f2,f3⟩ := f
 have lps := lt_of_get cs0
 refine qBox1 ky.1 ky.2.1 fun H1 py e1 S1 c1 l1 => qAl fun H2 pg e2 S2 c2 l2 => ⟨rfl,qSt c2 (by simp) rfl rfl fun H3 S3 c3 l3 => ?_⟩
 have c3 : H3[pg]? = some (.cells [growF ps py pg] true 0) := c3
 have T3 : SameX [] H H3 := (S1.trans S2).thru S3 (by simp; omega)
 have cy3 := S3.get (S2.get c1 (by simp)) (by simp; omega)
 have cs3 := T3.get cs0 (by simp)
 have lg := lt_of_get c3
 have ls3 := lt_of_get cs3
 refine ⟨[pg,ps],ldI (v := growF ps py pg) c3 rfl rfl ⟨by simp [RdOk,ptrBlk],offI (ldI (v := vint s.days) cs3 rfl rfl ⟨by simp [RdOk,ptrBlk],fillI ⟨by decide,?_⟩⟩)⟩⟩
 have hrm : (2000 : Nat) < room := by decide
 refine ⟨by omega,by omega,by omega,?_⟩
 obtain ⟨m,hm⟩ := Int.eq_ofNat_of_zero_le (by omega : (0 : Int) ≤ s.days)
 have em : s.days.toNat = m := by omega
 rw [em]
 generalize hH4 : H3 ++ [AObj.cells (zrep [Value.int .u8 0] m) true 0] = H4
 have c4 : H4[H3.length]? = some (.cells (zrep [Value.int .u8 0] m) true 0) := by rw [← hH4]; simp
 have S4 : SameX [] H3 H4 := by rw [← hH4]; exact SameX.refl.app
 have zl : ∀ n,(zrep [Value.int .u8 0] n).length = n := by
  intro n
  induction n with
  | zero => rfl
  | succ n ih => show ([Value.int .u8 0] ++ zrep [Value.int .u8 0] n).length = n + 1; rw [List.length_append,ih]; simp; omega
 have T4 : SameX [] H H4 := T3.trans S4
 refine ⟨sbTwo S4 lg ls3 (by simp) (by simp),callCz (by kernel_rfl) ?_⟩
 have hT3 := T3.1
 have hr : rainsB s = growB s m [] (0,0) := by unfold rainsB; rw [em]
 have fin : ∀ {H5 : List AObj} {O : List Nat},SameX (H3.length :: (X ++ ([] : List Nat))) H4 H5 → SameX X H H5 := fun S5 => by
  refine (T4.weak0 (Y := X)).thru S5 fun z hz => ?_
  rcases List.mem_cons.1 hz with hz | hz
  ·exact .inr (by omega)
  ·exact .inl (by simpa using hz)
 refine good74 hJ R ky (ps := ps) (py := py) (pg := pg) (pb := H3.length) (m := m) (by omega) hm cs0 nX (by omega) (by omega) (by omega) (by omega) (by omega) m [] (0,0) 0 [] (zrep [Value.int .u8 0] m) (by simp) ⟨by decide,by decide⟩ (fun j _ => by rw [hr,Nat.zero_add]) (T4.weak0 (Y := X)) (S4.get cy3 (by simp)) (S4.get c3 (by simp)) c4 (zl m) rfl
  (R.hI ⟨T4.1,fun i hi => T4.2 i (by rcases hi with hi | hi; exact hi; cases hi) (by simp)⟩ h0) (by simp) (fun H5 O5 cs5 S5 hO5 c5 hc5 ht5 i5 => ?_) fun H5 S5 st => ?_
 ·refine ⟨?_,retL_same (by simp) (hK1 H5 O5 (fin (O := O5) S5) (fun z hz => by rcases hO5 z hz with h | h; cases h; have := S4.1; omega) ?_)⟩
  ·exact sbTwo (X := H3.length :: (X ++ [])) ((S4.weak0).trans S5) lg ls3 (by simp; exact ⟨by omega,fun hz => by have := R.hX _ hz; omega⟩) (by simp; exact ⟨by omega,nX⟩)
  ·rw [hr]
   simpa using i5
 ·refine ⟨?_,retL_same (by simp) (hK2 H5 (fin (O := []) S5) st)⟩
  exact sbTwo (X := H3.length :: (X ++ [])) ((S4.weak0).trans S5) lg ls3 (by simp; exact ⟨by omega,fun hz => by have := R.hX _ hz; omega⟩) (by simp; exact ⟨by omega,nX⟩)
end
def stayH (all from_ days : Nat) (n : Int) : List Int := (List.range all).map fun i => if from_ ≤ i ∧ i < from_ + days then n else 0
def fedB (p : Pas) (heads : List Int) (s : SkyR) : Bool := (rainsB s).all fun w => decide (starvR p heads w < 0)
def stayB (p : Pas) (s : SkyR) (n from_ days : Int) : Bool := fedB p (stayH s.days.toNat from_.toNat days.toNat n) s
def topH (q : Int → Bool) : Nat → Int
 | 0 => 0
 | n + 1 => if q ((n + 1 : Nat) : Int) = true then ((n + 1 : Nat) : Int) else topH q n
def headE (p : Pas) (s : SkyR) (from_ days : Int) : Int :=
 if fst2 (pasE p) (skyE s) ≠ 0 then fst2 (pasE p) (skyE s) else if ¬ (0 ≤ from_ ∧ from_ ≤ s.days - 1) then 3 else if ¬ (1 ≤ days ∧ days ≤ s.days - from_) then 1 else 0
def headN (p : Pas) (s : SkyR) (from_ days : Int) : Int := if headE p s from_ days = 0 then topH (fun n => stayB p s n from_ days) 40 else 0
theorem stayH_len {a f d : Nat} {n : Int} : (stayH a f d n).length = a := by simp [stayH]
theorem stayH_get {a f d i : Nat} {n : Int} (h : i < a) : (stayH a f d n)[i]? = some (if f ≤ i ∧ i < f + d then n else 0) := by
 unfold stayH
 rw [List.getElem?_map,List.getElem?_range h]
 rfl
theorem stayH_getD {a f d i : Nat} {n : Int} (h : i < a) : (stayH a f d n).getD i 0 = if f ≤ i ∧ i < f + d then n else 0 := by
 rw [List.getD_eq_getElem?_getD,stayH_get h]
 rfl
theorem stayH_out {a f d i : Nat} {n : Int} (h : f + d ≤ i) : (stayH a f d n).getD i 0 = 0 := by
 by_cases e : i < a
 ·rw [stayH_getD e,if_neg (by omega)]
 ·rw [List.getD_eq_getElem?_getD,List.getElem?_eq_none (by rw [stayH_len]; omega)]
  rfl
theorem stayH_zero {a f : Nat} {n : Int} : stayH a f 0 n = List.replicate a 0 := by
 apply List.ext_getElem?
 intro i
 by_cases h : i < a
 ·rw [stayH_get h,if_neg (by omega),List.getElem?_replicate,if_pos h]
 ·rw [List.getElem?_eq_none (by rw [stayH_len]; omega),List.getElem?_eq_none (by simp; omega)]
theorem stayH_set {a f d : Nat} {n : Int} (h : f + d < a) : (stayH a f d n).set (f + d) n = stayH a f (d + 1) n := by
 apply List.ext_getElem?
 intro i
 rw [List.getElem?_set]
 by_cases e : f + d = i
 ·subst e
  rw [if_pos rfl,stayH_len,if_pos h,stayH_get h,if_pos (by omega)]
 ·rw [if_neg e]
  by_cases hi : i < a
  ·rw [stayH_get hi,stayH_get hi]
   congr 1
   by_cases x : f ≤ i ∧ i < f + d
   ·rw [if_pos x,if_pos (by omega)]
   ·rw [if_neg x,if_neg (by omega)]
  ·rw [List.getElem?_eq_none (by rw [stayH_len]; omega),List.getElem?_eq_none (by rw [stayH_len]; omega)]
theorem stayH_ok {a f d : Nat} {n : Int} (h : 0 ≤ n ∧ n ≤ 40) : headsOk (stayH a f d n) := by
 intro x hx
 unfold stayH at hx
 obtain ⟨i,_,rfl⟩ := List.mem_map.1 hx
 split
 ·exact h
 ·exact ⟨Int.le_refl _,by decide⟩
theorem stay_after {p : Pas} {a f d : Nat} {n : Int} {w : List UInt8} (fp : pasOk p) (hn : 0 ≤ n ∧ n ≤ 40) {i : Nat} (h : f + d ≤ i) : hungAt p (stayH a f d n) w i = false := by
 unfold hungAt hungR
 rw [stayH_out h]
 have := (stdR_ok (rain := w) fp (stayH_ok (a := a) (f := f) (d := d) hn) i).g
 exact decide_eq_false (by omega)
theorem starv_none {p : Pas} {a f d : Nat} {n : Int} {w : List UInt8} (fp : pasOk p) (hn : 0 ≤ n ∧ n ≤ 40) (h : ∀ i,i < f + d → hungAt p (stayH a f d n) w i = false) : starvR p (stayH a f d n) w < 0 := by
 have : starvR p (stayH a f d n) w = -1 := fstH_none fun i _ => by
  by_cases e : i < f + d
  ·exact h i e
  ·exact stay_after fp hn (by omega)
 rw [this]
 decide
theorem starv_some {p : Pas} {heads : List Int} {w : List UInt8} {i : Nat} (hi : i < w.length) (h : hungAt p heads w i = true) : ¬ starvR p heads w < 0 := by
 have := fstH_pos (q := hungAt p heads w) h hi
 unfold starvR
 omega
section
variable {main : Bool} {J : JT} {h H : List AObj} {K : Value → List AObj → Prop} {KV : Value → Prop} {HL : List AObj → Prop} {n0 : Nat}
theorem eqlW {t : TypeId} {b : UInt8} (hk : KV (.bool (wetB b))) : aBin prog .eql t (.int .u8 b.toNat) (.int .u8 119) KV := by
 have e119 : (Value.int .u8 119) = .int .u8 (119 : UInt8).toNat := rfl
 rw [e119]
 exact eqlU hk
noncomputable abbrev lpS (st : LoopState) (pend : Option Code) (r : Nat → Value) (d : Nat) : AObj := .loop st pend 43 r 60 #[35] (subC [1,0,1,1,1,1,0,1,0,0] (codeOf f43)) (subC [1,0,1,1,1,1,0,1,0,1] (codeOf f43)) d
theorem roundS (hJ : Closed prog main J) {l d p5 p8 p9 p11 p13 pl a fr dy : Nat} {R : Nat → Value} {p : Pas} {n : Int} {w : List UInt8} {Q : Value → List AObj → Prop} (f : pasOk p) (hn : 0 ≤ n ∧ n ≤ 40) (ha : a ≤ 8) (hfd : fr + dy ≤ a) (hw : w.length = a)
  (hl : H[l]? = some (lpS .ready none R d)) (r5 : R 5 = ptr p5 0) (r8 : R 8 = ptr p8 0) (r9 : R 9 = ptr p9 0) (r11 : R 11 = ptr p11 0) (r13 : R 13 = ptr p13 0)
  (c5 : H[p5]? = some (.cells p.cells true 0)) (c8 : H[p8]? = some (.cells [vint (fr : Nat)] true 0)) (c9 : H[p9]? = some (.cells [vint (dy : Nat)] true 0)) (c11 : H[p11]? = some (.cells [.slice (some ⟨pl,0,none⟩) a a] true 0)) (cl : H[pl]? = some (.cells ((stayH a fr dy n).map vint) true 0)) (c13 : H[p13]? = some (.cells [.bool true] true 0))
  (n5 : p5 ≠ l) (n8 : p8 ≠ l) (n9 : p9 ≠ l) (n11 : p11 ≠ l) (n13 : p13 ≠ l) (nl : pl ≠ l)
  (k1 : ∀ H',starvR p (stayH a fr dy n) w < 0 → SameX [l] H H' → H'[l]? = some (lpS .ready none R d) → Q (.bool true) H')
  (k2 : ∀ H',¬ starvR p (stayH a fr dy n) w < 0 → SameX [l,p13] H H' → H'[l]? = some (lpS .done (some (.exit 2)) R d) → H'[p13]? = some (.cells [.bool false] true 0) → Q (.bool false) H') :
  callV prog (Good prog J) (.func (.yield l) ⟨[]⟩ ⟨[]⟩) [strV w] H Q := by
 show Good prog J (yid prog l) [strV w] H Q
 refine good_round hJ hl rfl (by decide) fun ok => W_sound hJ mixed _ ?_
 rw [a43_2]
 refine ⟨rfl,none,_,_,_,_,_,_,_,hl,W_sound hJ mixed _ ?_⟩
 rw [b43_2]
 have hll := lt_of_get hl
 have hl3 : (H.set l (lpS .busy none R d))[l]? = some (lpS .busy none R d) := List.getElem?_set_self hll
 have S3 : SameX [l] H (H.set l (lpS .busy none R d)) := SameX.refl.set (.inl (by simp))
 generalize H.set l (lpS .busy none R d) = H3 at hl3 S3
 have hsl := S3.1
 show aLoad true 6 (R 5) _ _
 rw [r5]
 refine load_part (c := p.cells) (S3.get c5 (by simpa using n5)) (by simp [Pas.cells]) rfl rfl ?_
 refine good66 hJ fun H4 m em S4 c4 hm => ?_
 have S04 : SameX [l] H H4 := S3.trans S4.weak0
 show aLoad false 1 (R 8) _ _
 rw [r8]
 refine ldI (v := vint (fr : Nat)) (S04.get c8 (by simpa using n8)) rfl rfl ?_
 show aLoad false 1 (R 9) _ _
 rw [r9]
 refine ldI (v := vint (dy : Nat)) (S04.get c9 (by simpa using n9)) rfl rfl (addI (by omega) ?_)
 have hho := stayH_ok (a := a) (f := fr) (d := dy) hn
 have e5 : ((fr : Nat) : Int) + ((dy : Nat) : Int) = ((fr + dy : Nat) : Int) := by omega
 rw [e5]
 have h3 : H.length ≤ m := by omega
 have hl4 := S4.get hl3 (by simp)
 refine l43_3 hJ (fun k : Nat => fr + dy - k) (fun k F H' => k ≤ fr + dy ∧ SameX [m] H4 H' ∧ H'[m]? = some (.cells (medC p (stdR p (stayH a fr dy n) w k)) true 0) ∧ (∀ i,i < k → hungAt p (stayH a fr dy n) w i = false) ∧ F.r 11 = ptr p11 0 ∧ F.r 13 = ptr p13 0 ∧ F.r 14 = strV w ∧ F.r 15 = ptr m 0 ∧ F.r 40 = vint ((fr + dy : Nat) : Int) ∧ F.r 41 = vint (k : Nat)) ?_ (s := 0)
  (.inl ⟨by omega,SameX.refl,c4,fun i hi => absurd hi (Nat.not_lt_zero _),r11,r13,rfl,rfl,rfl,rfl⟩)
 rintro k F H' ⟨hk,S,cm,hno,q11,q13,q14,q15,q40,q41⟩ okc hnc
 rw [s43_3,q11,q13,q14,q15,q40,q41]
 have T : SameX [l] H H' := S04.thru S (by simp; omega)
 have hlH : H'[l]? = some (lpS .busy none R d) := S.get hl4 (by simp; omega)
 have hll' := lt_of_get hlH
 have d11 := T.get c11 (by simpa using n11)
 have dl := T.get cl (by simpa using nl)
 have l11 := lt_of_get c11
 have ll := lt_of_get cl
 have hT := T.1
 refine lssI (cndI (fun hlt => ?_) fun hge => ?_)
 rotate_left
 ·have : k = fr + dy := by omega
  subst this
  refine ⟨.busy,none,_,_,_,_,_,_,_,hlH,.inl (k1 _ (starv_none f hn hno) (T.set (.inl (by simp))) (List.getElem?_set_self hll'))⟩
 have hka : k < a := by omega
 have hb : w[k]? = some (w.getD k 0) := by
  rw [List.getD_eq_getElem?_getD,List.getElem?_eq_getElem (by omega)]
  rfl
 have hbd := headsOk_getD hho k
 refine ⟨[p11,pl],ldI (v := .slice (some ⟨pl,0,none⟩) a a) d11 rfl rfl ⟨by simp [RdOk,ptrBlk],idxI ⟨by omega,by omega⟩ ?_⟩⟩
 have hx : ((stayH a fr dy n).map vint)[0 + ((k : Nat) : Int).toNat * 1]? = some (vint ((stayH a fr dy n).getD k 0)) := by
  rw [Int.toNat_natCast,Nat.mul_one,Nat.zero_add,List.getElem?_map,stayH_get hka,stayH_getD hka]
  rfl
 refine ldI (v := vint ((stayH a fr dy n).getD k 0)) dl hx rfl ⟨by simp [RdOk,ptrBlk],byteI hb (eqlW ?_)⟩
 refine good67 hJ cm f (stdR_ok f hho k) ⟨hbd.1,by omega⟩ fun H8 S8 c8' => ⟨sbTwo S8 (by omega) (by omega) (by simp; omega) (by simp; omega),ext0 (ext1 (cndB (fun hy => ?_) fun hno' => ?_))⟩
 ·have T8 : SameX [l] H H8 := T.thru S8 (by simp; omega)
  refine qSt (T8.get c13 (by simpa using n13)) (by simp) rfl rfl fun H9 S9 c9' l9 => ?_
  have hl8 := S8.get hlH (by simp; omega)
  have hl9 := S9.get hl8 (by simpa using n13.symm)
  have hll9 := lt_of_get hl9
  refine ⟨.busy,none,_,_,_,_,_,_,_,hl9,.inl (k2 _ (starv_some (i := k) (by omega) hy) ?_ (List.getElem?_set_self hll9) (get_set c9' n13))⟩
  exact ((T8.weak (by simp)).trans (S9.weak (by simp))).set (.inl (by simp))
 ·refine addI (by omega) ⟨k + 1,by dsimp only; omega,.inl ⟨by omega,S.trans S8,c8',fun i hi => ?_,q11,q13,q14,q15,q40,by show vint _ = vint _; congr 1⟩⟩
  by_cases e : i = k
  ·rw [e]
   exact hno'
  ·exact hno i (by omega)
theorem good43 (hJ : Closed prog main J) {p : Pas} {s : SkyR} {n : Int} {fr dy : Nat} (f : pasOk p) (g : skyOk s) (hn : 0 ≤ n ∧ n ≤ 40) (hfd : ((fr + dy : Nat) : Int) ≤ s.days)
  (hK : ∀ H',SameX [] H H' → K (.bool (stayB p s n fr dy)) H') : Good prog J 43 [.agg ⟨p.cells⟩,.agg ⟨s.cells⟩,vint n,vint (fr : Nat),vint (dy : Nat)] H K := by
 refine g43 hJ fun ok => ?_
 rw [e43]
 obtain ⟨g1,g2,g3⟩ := id g
 obtain ⟨a,ha⟩ := Int.eq_ofNat_of_zero_le (by omega : (0 : Int) ≤ s.days)
 have ea : s.days.toNat = a := by omega
 refine qBox (l := p.cells) rfl fun H1 p5 e1 S1 c5 l1 => qBox (l := s.cells) rfl fun H2 p6 e2 S2 c6 l2 => qBox1 rfl rfl fun H3 p8 e3 S3 c8 l3 => qBox1 rfl rfl fun H4 p9 e4 S4 c9 l4 => ?_
 have c64 := S4.get (S3.get c6 (by simp)) (by simp)
 refine offI (ldI (v := vint s.days) c64 rfl rfl ⟨by decide,?_⟩)
 have hrm : (2000 : Nat) < room := by decide
 refine ⟨by omega,Int.le_refl _,by omega,?_⟩
 rw [ea]
 have zl : ∀ k,zrep [vint 0] k = (List.replicate k (0 : Int)).map vint := by
  intro k
  induction k with
  | zero => rfl
  | succ k ih =>
   show [vint 0] ++ zrep [vint 0] k = _
   rw [ih,List.replicate_succ]
   rfl
 generalize hH5 : H4 ++ [AObj.cells (zrep [vint 0] a) true 0] = H5
 have c4l : H5[H4.length]? = some (.cells ((stayH a fr 0 n).map vint) true 0) := by rw [← hH5,zl,stayH_zero]; simp
 have S5 : SameX [] H4 H5 := by rw [← hH5]; exact SameX.refl.app
 have hl5 : H5.length = H4.length + 1 := by rw [← hH5]; simp
 generalize hpl : H4.length = pl at c4l hl5
 refine qAl fun H6 p11 e6 S6 c11 l6 => qSt c11 (by simp) rfl rfl fun H7 S7 c11' l7 => ?_
 have c11' : H7[p11]? = some (.cells [.slice (some ⟨pl,0,none⟩) a a] true 0) := c11'
 have S57 : SameX [] H5 H7 := S6.thru S7 (by simp; omega)
 have S47 : SameX [] H4 H7 := S5.trans S57
 have T7 : SameX [] H H7 := (((S1.trans S2).trans S3).trans S4).trans S47
 have d9 := S47.get c9 (by simp)
 have d8 := S47.get (S4.get c8 (by simp)) (by simp)
 have d6 := S47.get c64 (by simp)
 have d5 := S47.get (S4.get (S3.get (S2.get c5 (by simp)) (by simp)) (by simp)) (by simp)
 have dl := S57.get c4l (by simp)
 refine ldI (v := vint (dy : Nat)) d9 rfl rfl ?_
 refine l43_1 hJ (fun i : Nat => dy - i) (fun i F H' => i ≤ dy ∧ SameX [pl] H7 H' ∧ H'[pl]? = some (.cells ((stayH a fr i n).map vint) true 0) ∧ F.ds = [] ∧ F.r 2 = vint n ∧ F.r 5 = ptr p5 0 ∧ F.r 6 = ptr p6 0 ∧ F.r 8 = ptr p8 0 ∧ F.r 9 = ptr p9 0 ∧ F.r 11 = ptr p11 0 ∧ F.r 22 = vint (dy : Nat) ∧ F.r 23 = vint (i : Nat)) ?_ (s := 0)
  (.inl ⟨by omega,SameX.refl,dl,rfl,rfl,rfl,rfl,rfl,rfl,rfl,rfl,rfl⟩)
 rintro i F H' ⟨hi,S,cl,ds,r2,r5,r6,r8,r9,r11,r22,r23⟩ okc hnc
 rw [s43_1,r2,r6,r8,r11,r22,r23]
 have n8 : p8 ≠ pl := by omega
 have x11 := S.get c11' (by simp; omega)
 have x8 := S.get d8 (by simp; omega)
 refine lssI (cndI (fun hlt => ?_) fun hge => ?_)
 ·refine ldI (v := .slice (some ⟨pl,0,none⟩) a a) x11 rfl rfl (ldI (v := vint (fr : Nat)) x8 rfl rfl (addI (by omega) (idxI ⟨by omega,by omega⟩ ?_)))
  have e1 : 0 + (((fr : Nat) : Int) + ((i : Nat) : Int)).toNat * 1 = fr + i := by omega
  rw [e1]
  refine qSt cl (by simp [stayH_len]; omega) rfl rfl fun H8 S8 c8' l8 => addI (by omega) ⟨i + 1,by dsimp only; omega,.inl ⟨by omega,S.trans S8,?_,ds,r2,r5,r6,r8,r9,r11,r22,by show vint _ = vint _; congr 1⟩⟩
  rw [c8',← List.map_set,stayH_set (by omega)]
 have hid : i = dy := by omega
 subst hid
 -- the rains
 have hS := S.1
 refine qAl fun H8 p13 e8 S8 c13 l8 => qSt c13 (by simp) rfl rfl fun H9 S9 c13' l9 => ?_
 have c13' : H9[p13]? = some (.cells [.bool true] true 0) := c13'
 have S79 : SameX [] H' H9 := S8.thru S9 (by simp; omega)
 have S69 : SameX [pl] H7 H9 := S.trans S79.weak0
 refine load_part (c := s.cells) (S69.get d6 (by simp; omega)) (by simp [SkyR.cells]) rfl rfl ?_
 refine good65 hJ fun H10 ps S10 cs10 gs => ?_
 have T10 : SameX [pl] H7 H10 := S69.trans S10.weak0
 have TH : SameX [] H H10 := T7.thru T10 (by simp; omega)
 refine l43_2 hJ (first := []) (cap := [ptr ps 0]) rfl (by decide) ?_
 obtain ⟨R,hRe⟩ : ∃ R : RG,R = RG.p (RG.p (RG.p (RG.p F 24 (.bool (decide (((i : Nat) : Int) < ((i : Nat) : Int))))) 13 (ptr p13 0)) 33 (.agg ⟨s.cells⟩)) 34 (.func (.func 73) ⟨[]⟩ ⟨[ptr ps 0]⟩) := ⟨_,rfl⟩
 rw [← hRe]
 have R5 : R.r 5 = ptr p5 0 := by subst hRe; exact r5
 have R8 : R.r 8 = ptr p8 0 := by subst hRe; exact r8
 have R9 : R.r 9 = ptr p9 0 := by subst hRe; exact r9
 have R11 : R.r 11 = ptr p11 0 := by subst hRe; exact r11
 have R13 : R.r 13 = ptr p13 0 := by subst hRe; rfl
 have Rds : R.ds = [] := by subst hRe; exact ds
 clear hRe
 have hl11 : (H10 ++ [AObj.deferred] ++ [lpS .ready none R.r H10.length])[H10.length + 1]? = some (lpS .ready none R.r H10.length) := by
  rw [List.append_assoc]
  simp
 have hd11 : (H10 ++ [AObj.deferred] ++ [lpS .ready none R.r H10.length])[H10.length]? = some .deferred := by
  rw [List.append_assoc]
  simp
 have hln : (H10 ++ [AObj.deferred] ++ [lpS .ready none R.r H10.length]).length = H10.length + 2 := by simp
 have S11 : SameX [] H10 (H10 ++ [AObj.deferred] ++ [lpS .ready none R.r H10.length]) := SameX.refl.app.app
 generalize hH11 : H10 ++ [AObj.deferred] ++ [lpS .ready none R.r H10.length] = H11 at hl11 hd11 hln S11
 have U : SameX [pl] H7 H11 := T10.trans S11.weak0
 have UH : SameX [] H H11 := TH.trans S11
 have w13 : H11[p13]? = some (.cells [.bool true] true 0) := S11.get (S10.get c13' (by simp)) (by simp)
 have wl : H11[pl]? = some (.cells ((stayH a fr i n).map vint) true 0) := S11.get (S10.get (S79.get cl (by simp)) (by simp)) (by simp)
 have w5 := U.get d5 (by simp; omega)
 have w8 := U.get d8 (by simp; omega)
 have w9 := U.get d9 (by simp; omega)
 have w11 := U.get c11' (by simp; omega)
 have ws : H11[ps]? = some (.cells s.cells true 0) := S11.get cs10 (by simp)
 have b5 := lt_of_get d5
 have b8 := lt_of_get d8
 have b9 := lt_of_get d9
 have b11 := lt_of_get c11'
 have bl := lt_of_get dl
 have b13 := lt_of_get c13'
 have bs := lt_of_get cs10
 have h10 := S10.1
 have fin : ∀ {b : Bool} {H' : List AObj} {pend : Option Code},b = stayB p s n fr i → SameX [H10.length + 1,p13] H11 H' → H'[p13]? = some (.cells [.bool b] true 0) → (H'[H10.length + 1]? = some (lpS .ready none R.r H10.length) ∨ H'[H10.length + 1]? = some (lpS .done (some (.exit 2)) R.r H10.length)) →
   ∀ v,endQ H10.length R (contX pl43 prog J 60 H.length 43 ct43 [1,0,1,1,1,1,0,1,0] (codeOf f43) [] (RetQ prog [.tmp 10] H.length K)) v H' := by
  intro b H' pend hb S h13 hl v
  have hd' := S.get hd11 (by simp; omega)
  have hfin : retL H.length K [H10.length] [.bool b] (H'.set (H10.length + 1) .dead) := by
   refine retLdef (get_set hd' (by omega)) (by simp [unk]) ?_
   rw [hb]
   exact hK _ (((UH.thru S (by simp; omega)).set (.inr (by omega))).set (.inr (by omega)))
  rcases hl with hl | hl
  ·refine endQnorm hl (by simp) ?_
   rw [c43_2]
   show aLoad false 1 (R.r 13) _ _
   rw [R13,Rds]
   exact ldI (v := .bool b) (get_set h13 (by omega)) rfl rfl hfin
  ·refine endQexit hl (by simp) ?_
   rw [c43_2x2]
   show aLoad false 1 (R.r 13) _ _
   rw [R13,Rds]
   exact ldI (v := .bool b) (get_set h13 (by omega)) rfl rfl hfin
 have es : stayB p s n fr i = (rainsB s).all fun w => decide (starvR p (stayH a fr i n) w < 0) := by
  unfold stayB fedB
  rw [ea,Int.toNat_natCast,Int.toNat_natCast]
 have RD : Rnd J (rainsB s) (.func (.yield (H10.length + 1)) ⟨[]⟩ ⟨[]⟩) [H10.length + 1,p13] H11
   (fun k O H' => O = [] ∧ H'[H10.length + 1]? = some (lpS .ready none R.r H10.length) ∧ H'[p13]? = some (.cells [.bool true] true 0) ∧ ∀ j w,j < k → (rainsB s)[j]? = some w → starvR p (stayH a fr i n) w < 0)
   (fun H' => H'[H10.length + 1]? = some (lpS .done (some (.exit 2)) R.r H10.length) ∧ H'[p13]? = some (.cells [.bool false] true 0) ∧ ∃ w ∈ rainsB s,¬ starvR p (stayH a fr i n) w < 0) := by
  refine ⟨by simp; omega,fun h => by rw [h.1]; simp,fun T hi => ⟨hi.1,by rw [T.2 _ (.inl (by omega))]; exact hi.2.1,by rw [T.2 _ (.inl (by omega))]; exact hi.2.2.1,hi.2.2.2⟩,?_⟩
  rintro k w O Ha Q hw Sa _ ⟨rfl,i1,i2,i3⟩ q1 q2
  have hwl := rainsB_len (List.mem_of_getElem? hw)
  have ga : ∀ {q : Nat} {o : AObj},H11[q]? = some o → q ≠ H10.length + 1 → q ≠ p13 → Ha[q]? = some o := fun hq h1 h2 => Sa.get hq (by simp; exact ⟨h1,h2⟩)
  refine roundS hJ (a := a) (fr := fr) (dy := i) (pl := pl) f hn (by omega) (by omega) (by rw [hwl,ea]) i1 R5 R8 R9 R11 R13 (ga w5 (by omega) (by omega)) (ga w8 (by omega) (by omega)) (ga w9 (by omega) (by omega)) (ga w11 (by omega) (by omega)) (ga wl (by omega) (by omega)) i2 (by omega) (by omega) (by omega) (by omega) (by omega) (by omega) (fun Hb hs Sb hlb => ?_) fun Hb hs Sb hlb h13 => ?_
  ·refine q1 [] Hb (Sb.weak (by simp)) (by simp) ⟨rfl,hlb,Sb.get i2 (by simp; omega),fun j u hj hu => ?_⟩
   by_cases e : j = k
   ·rw [e,hw] at hu
    injection hu with hu
    rw [← hu]
    exact hs
   ·exact i3 j u (by omega) hu
  ·exact q2 Hb (Sb.weak (by simp)) ⟨hlb,h13,w,List.mem_of_getElem? hw,hs⟩
 refine good73 hJ g RD ⟨rfl,rfl,rfl⟩ ws (by simp; omega) ⟨rfl,hl11,w13,fun j w hj => absurd hj (Nat.not_lt_zero _)⟩ (fun Hb O Sb _ hi => ?_) fun Hb Sb st => ?_
 ·obtain ⟨_,i1,i2,i3⟩ := hi
  refine fin (b := true) (pend := none) ?_ Sb i2 (.inl i1) _
  rw [es,eq_comm,List.all_eq_true]
  intro w hw
  obtain ⟨j,hj,e⟩ := List.mem_iff_getElem.1 hw
  exact decide_eq_true (i3 j w hj (by rw [List.getElem?_eq_getElem hj,e]))
 ·obtain ⟨i1,i2,w,hw,hs⟩ := st
  refine fin (b := false) (pend := none) ?_ Sb i2 (.inr i1) _
  rw [es,eq_comm,List.all_eq_false]
  exact ⟨w,hw,by rw [decide_eq_false hs]; decide⟩
theorem topH_yes {q : Int → Bool} {m : Nat} (h : q m = true) : ∀ {N : Nat},m ≤ N → (∀ k : Nat,m < k → k ≤ N → q k = false) → topH q N = m
 | 0,hm,_ => by
  have : m = 0 := by omega
  subst this
  rfl
 | N + 1,hm,hno => by
  unfold topH
  by_cases e : m = N + 1
  ·subst e
   rw [if_pos h]
  ·rw [if_neg (by rw [hno (N + 1) (by omega) (Nat.le_refl _)]; decide)]
   exact topH_yes h (by omega) fun k h1 h2 => hno k h1 (by omega)
theorem topH_none {q : Int → Bool} : ∀ {N : Nat},(∀ k : Nat,0 < k → k ≤ N → q k = false) → topH q N = 0
 | 0,_ => rfl
 | N + 1,hno => by
  unfold topH
  rw [if_neg (by rw [hno (N + 1) (by omega) (Nat.le_refl _)]; decide)]
  exact topH_none fun k h1 h2 => hno k h1 (by omega)
theorem good18 (hJ : Closed prog main J) {p : Pas} {s : SkyR} {fr dy : Int} (hK : ∀ H',SameX [] H H' → K (.tuple ⟨[vint (headN p s fr dy),vint (headE p s fr dy)]⟩) H') : Good prog J 18 [.agg ⟨p.cells⟩,.agg ⟨s.cells⟩,vint fr,vint dy] H K := by
 refine g18 hJ fun ok => ?_
 rw [e18]
 refine qBox (l := p.cells) rfl fun H1 p4 e1 S1 c4 l1 => qBox (l := s.cells) rfl fun H2 p5 e2 S2 c5 l2 => ?_
 have c42 := S2.get c4 (by simp)
 have T2 := S1.trans S2
 have b4 := lt_of_get c42
 have b5 := lt_of_get c5
 refine ⟨[p4,p5],load_part (c := p.cells) c42 (by simp [Pas.cells]) rfl rfl ⟨by simp [RdOk,ptrBlk],load_part (c := s.cells) c5 (by simp [SkyR.cells]) rfl rfl ⟨by simp [RdOk,ptrBlk],?_⟩⟩⟩
 have sb : ∀ {H'},SameX [] H2 H' → SameB (some [p4,p5]) H2 H' := fun S => sbTwo S b4 b5 (by simp) (by simp)
 refine good27 hJ ⟨sb SameX.refl,good28 hJ ⟨sb SameX.refl,by decide,fillP2 ⟨rfl,rfl⟩ ⟨rfl,rfl⟩ (qNew fun H3 p3 e3 S3 c3 l3 => ⟨sb S3,?_⟩)⟩⟩
 refine good42 hJ (ownX_sli (ownX_new (s := 1) (n := 2) c3 rfl rfl)) ⟨sb S3,?_⟩
 have T3 := T2.trans S3
 have c43 := S3.get c42 (by simp)
 have c53 := S3.get c5 (by simp)
 have fin : ∀ {e : Int} {H' : List AObj},headE p s fr dy = e → e ≠ 0 → SameX [] H H' → retL H.length K [] [vint 0,vint e] H' := fun he h0 S => by
  have := hK _ S
  unfold headN at this
  rw [if_neg (by omega),he] at this
  exact retL_same (nu2 (by simp [unk]) (by simp [unk])) this
 refine neqI (cndI (fun h1 => fin ?_ h1 T3) fun h1 => ?_)
 ·unfold headE; rw [if_pos h1]
 have hf : fst2 (pasE p) (skyE s) = 0 := by omega
 have f : pasOk p := by
  unfold fst2 at hf
  by_cases x : pasE p ≠ 0
  ·rw [if_pos x] at hf
   exact absurd hf x
  ·unfold pasE at x
   split at x
   ·assumption
   ·exact absurd (by decide) x
 have g : skyOk s := by
  unfold fst2 at hf
  by_cases x : pasE p ≠ 0
  ·rw [if_pos x] at hf
   exact absurd hf x
  ·rw [if_neg x] at hf
   unfold skyE at hf
   split at hf
   ·assumption
   ·cases hf
 obtain ⟨g1,g2,g3⟩ := id g
 refine offI (ldI (v := vint s.days) c53 rfl rfl (subI (by omega) (good29 hJ (notI (cndN (fun h2 => fin ?_ (by decide) T3) fun h2 => ?_)))))
 ·unfold headE; rw [if_neg h1,if_pos h2]
 refine offI (ldI (v := vint s.days) c53 rfl rfl (subI (by omega) (good29 hJ (notI (cndN (fun h3 => fin ?_ (by decide) T3) fun h3 => ?_)))))
 ·unfold headE; rw [if_neg h1,if_neg (not_not_intro h2),if_pos h3]
 have h0 : headE p s fr dy = 0 := by unfold headE; rw [if_neg h1,if_neg (not_not_intro h2),if_neg (not_not_intro h3)]
 obtain ⟨a,rfl⟩ := Int.eq_ofNat_of_zero_le (by omega : (0 : Int) ≤ fr)
 obtain ⟨b,rfl⟩ := Int.eq_ofNat_of_zero_le (by omega : (0 : Int) ≤ dy)
 refine l18_1 hJ (fun m : Nat => m) (fun m F H' => m ≤ 40 ∧ SameX [] H3 H' ∧ (∀ k : Nat,m < k → k ≤ 40 → stayB p s k (a : Nat) (b : Nat) = false) ∧ F.ds = [] ∧ F.r 2 = vint (a : Nat) ∧ F.r 3 = vint (b : Nat) ∧ F.r 4 = ptr p4 0 ∧ F.r 5 = ptr p5 0 ∧ F.r 11 = vint (m : Nat)) ?_ (s := 40)
  (.inl ⟨by omega,SameX.refl,fun k h1 h2 => absurd h1 (by omega),rfl,rfl,rfl,rfl,rfl,rfl⟩)
 rintro m F H' ⟨hm,S,hno,ds,r2,r3,r4,r5,r11⟩ okc hnc
 rw [s18_1,r2,r3,r4,r5,r11]
 have last : headN p s (a : Nat) (b : Nat) = m → retL H.length K [] [vint (m : Nat),vint 0] H' := fun he => by
  have := hK H' (T3.trans S)
  rw [he,h0] at this
  exact retL_same (nu2 (by simp [unk]) (by simp [unk])) this
 refine gtrI (cndI (fun hpos => ?_) fun hz => hold.2 ?_)
 ·refine load_part (c := p.cells) (S.get c43 (by simp)) (by simp [Pas.cells]) rfl rfl (load_part (c := s.cells) (S.get c53 (by simp)) (by simp [SkyR.cells]) rfl rfl ?_)
  refine good43 hJ f g (by omega) (by omega) fun H4 S4 => notI (hold.2 ?_)
  rw [s18_2]
  show cnd (.bool (!stayB p s m (a : Nat) (b : Nat))) _ _
  refine cndB (fun hst => ?_) fun hst => ?_
  ·have hst : stayB p s m (a : Nat) (b : Nat) = false := by simpa using hst
   show aBin prog .sub 3 (F.r 11) (vint 1) _
   rw [r11]
   refine subI (by omega) ⟨m - 1,by dsimp only; omega,.inl ⟨by omega,S.trans S4,fun k h1 h2 => ?_,ds,r2,r3,r4,r5,by show vint _ = vint _; congr 1; omega⟩⟩
   by_cases e : k = m
   ·rw [e]
    exact hst
   ·exact hno k (by omega) h2
  ·have hst : stayB p s m (a : Nat) (b : Nat) = true := by simpa using hst
   show retL H.length K F.ds [F.r 11,vint 0] H4
   rw [ds,r11]
   have := hK H4 ((T3.trans S).trans S4)
   unfold headN at this
   rw [if_pos h0,topH_yes (q := fun n => stayB p s n (a : Nat) (b : Nat)) hst hm hno,h0] at this
   exact retL_same (nu2 (by simp [unk]) (by simp [unk])) this
 ·have : m = 0 := by omega
  subst this
  rw [s18_2]
  show cnd (.bool false) _ _
  refine cnd_false.2 ?_
  show retL H.length K F.ds [F.r 11,vint 0] H'
  rw [ds,r11]
  refine last ?_
  unfold headN
  rw [if_pos h0]
  exact topH_none fun k h1 h2 => hno k (by omega) h2
end
def strsB : Nat → List (List UInt8)
 | 0 => [[]]
 | n + 1 => (strsB n).map (100 :: ·) ++ (strsB n).map (119 :: ·)
def fallX (s : SkyR) : Spl → List UInt8 → Bool
 | _,[] => true
 | x,c :: u => nextOk s x c && fallX s (nextX x c) u
theorem growB_strs {s : SkyR} : ∀ {n : Nat} {w : List UInt8} {x : Spl},growB s n w x = ((strsB n).filter (fallX s x)).map (w ++ ·)
 | 0,w,x => by
  have e : List.filter (fallX s x) [[]] = [[]] := by
   rw [List.filter_cons,if_pos (show fallX s x [] = true by unfold fallX; rfl)]
   rfl
  show [w] = (List.filter (fallX s x) [[]]).map (w ++ ·)
  rw [e]
  simp
 | n + 1,w,x => by
  have part : ∀ c : UInt8,(if nextOk s x c = true then growB s n (w ++ [c]) (nextX x c) else []) = (((strsB n).map (c :: ·)).filter (fallX s x)).map (w ++ ·) := by
   intro c
   rw [List.filter_map]
   by_cases h : nextOk s x c = true
   ·rw [if_pos h,growB_strs]
    have : (fallX s x ∘ fun x => c :: x) = fallX s (nextX x c) := by
     funext u
     show (nextOk s x c && fallX s (nextX x c) u) = _
     rw [h,Bool.true_and]
    rw [this,List.map_map]
    congr 1
    funext u
    simp
   ·rw [if_neg h]
    have h' : nextOk s x c = false := by simpa using h
    have : (fallX s x ∘ fun x => c :: x) = fun _ => false := by
     funext u
     show (nextOk s x c && fallX s (nextX x c) u) = _
     rw [h',Bool.false_and]
    rw [this]
    simp
  unfold growB strsB
  rw [part,part,List.filter_append,List.map_append]
theorem rainsB_strs {s : SkyR} : rainsB s = (strsB s.days.toNat).filter (fallX s (0,0)) := by
 unfold rainsB
 rw [growB_strs]
 simp
theorem strsB_len : ∀ {n : Nat},∀ u ∈ strsB n,u.length = n ∧ ∀ c ∈ u,c = 100 ∨ c = 119
 | 0,u,hu => by
  rw [List.mem_singleton.1 hu]
  exact ⟨rfl,by simp⟩
 | n + 1,u,hu => by
  unfold strsB at hu
  rcases List.mem_append.1 hu with hu | hu <;> obtain ⟨v,hv,rfl⟩ := List.mem_map.1 hu <;> obtain ⟨h1,h2⟩ := strsB_len v hv
  ·exact ⟨by rw [List.length_cons,h1],fun c hc => by
   rcases List.mem_cons.1 hc with h | h
   ·exact .inl h
   ·exact h2 c h⟩
  ·exact ⟨by rw [List.length_cons,h1],fun c hc => by
   rcases List.mem_cons.1 hc with h | h
   ·exact .inr h
   ·exact h2 c h⟩
theorem words_mem {F : Nat} : ∀ {n : Nat} {w : List Int},w.length = n → (∀ x ∈ w,0 ≤ x ∧ x < F) → w ∈ wordsR F n
 | 0,w,h,_ => by
  rw [List.length_eq_zero_iff.1 h]
  simp [wordsR]
 | n + 1,[],h,_ => by cases h
 | n + 1,a :: w,h,hb => by
  unfold wordsR
  obtain ⟨h1,h2⟩ := hb a (by simp)
  refine List.mem_flatMap.2 ⟨a.toNat,List.mem_range.2 (by omega),List.mem_map.2 ⟨w,words_mem (by simpa using h) fun x hx => hb x (by simp [hx]),?_⟩⟩
  rw [Int.toNat_of_nonneg h1]
theorem find_same {α : Type} {p q : α → Bool} : ∀ {l : List α},(∀ x ∈ l,p x = q x) → l.find? p = l.find? q
 | [],_ => rfl
 | x :: l,h => by
  rw [List.find?_cons,List.find?_cons,h x (by simp),find_same fun y hy => h y (by simp [hy])]
def okP (p : Pas) : Std → List Int → List UInt8 → Bool
 | x,n :: hs,c :: u => !hungR x n && okP p (dayR p x n (wetB c)) hs u
 | _,_,_ => true
theorem okP_drop {p : Pas} {hs : List Int} {u : List UInt8} (hl : hs.length = u.length) : ∀ {n k : Nat},k + n = u.length → (okP p (stdR p hs u k) (hs.drop k) (u.drop k) = true ↔ ∀ i,k ≤ i → i < u.length → hungAt p hs u i = false)
 | 0,k,h => by
  rw [List.drop_of_length_le (by omega),List.drop_of_length_le (by omega)]
  exact ⟨fun _ i h1 h2 => absurd h2 (by omega),fun _ => rfl⟩
 | n + 1,k,h => by
  have hk : k < u.length := by omega
  have hk2 : k < hs.length := by omega
  rw [List.drop_eq_getElem_cons hk,List.drop_eq_getElem_cons hk2]
  have hg : u[k] = u.getD k 0 := by
   rw [List.getD_eq_getElem?_getD,List.getElem?_eq_getElem hk]
   rfl
  have hg2 : hs[k] = hs.getD k 0 := by
   rw [List.getD_eq_getElem?_getD,List.getElem?_eq_getElem hk2]
   rfl
  rw [hg,hg2]
  show (!hungAt p hs u k && okP p (stdR p hs u (k + 1)) (hs.drop (k + 1)) (u.drop (k + 1))) = true ↔ _
  rw [Bool.and_eq_true,okP_drop hl (n := n) (by omega)]
  constructor
  ·rintro ⟨h1,h2⟩ i hi1 hi2
   by_cases e : i = k
   ·rw [e]
    simpa using h1
   ·exact h2 i (by omega) hi2
  ·intro hh
   exact ⟨by rw [hh k (Nat.le_refl _) hk]; rfl,fun i h1 h2 => hh i (by omega) h2⟩
theorem okP_all {p : Pas} {hs : List Int} {u : List UInt8} (hl : hs.length = u.length) : okP p (p.grass,0) hs u = true ↔ starvR p hs u < 0 := by
 have := okP_drop (p := p) hl (n := u.length) (k := 0) (by omega)
 rw [List.drop_zero,List.drop_zero] at this
 refine this.trans ⟨fun h => ?_,fun h i _ hi => ?_⟩
 ·have : starvR p hs u = -1 := fstH_none fun i hi => h i (Nat.zero_le _) hi
  rw [this]
  decide
 ·cases e : hungAt p hs u i with
  | false => rfl
  | true => exact absurd h (starv_some hi e)
def ownW (w : List Int) (k : Nat) (heads : Int) : List Int := w.map fun a => if a = (k : Int) then heads else 0
def fedAll (ls : List Pas) (heads : Int) : Wd → List Int → List UInt8 → Bool
 | x,a :: w,c :: u => gzB ls a.toNat heads x (nextX x.sp c) && fedAll ls heads (gzW ls a.toNat heads x (nextX x.sp c)) w u
 | _,_,_ => true
theorem gzK_fed {ls : List Pas} {at_ : Nat} {heads : Int} {wet : Bool} {w : Wd} : ∀ n,n ≤ 3 → ((gzK ls at_ heads wet w n).2 = true ↔ ∀ k,k < n → hungR (w.st k) (nAt at_ heads k) = false)
 | 0,_ => ⟨fun _ k h => absurd h (Nat.not_lt_zero _),fun _ => rfl⟩
 | n + 1,h => by
  show ((gzK ls at_ heads wet w n).2 && !hungR ((gzK ls at_ heads wet w n).1.st n) (nAt at_ heads n)) = true ↔ _
  rw [gzK_rest n (by omega) n (Nat.le_refl _) (by omega),Bool.and_eq_true,gzK_fed n (by omega)]
  constructor
  ·rintro ⟨h1,h2⟩ k hk
   by_cases e : k = n
   ·rw [e]
    simpa using h2
   ·exact h1 k (by omega)
  ·intro hh
   exact ⟨fun k hk => hh k (by omega),by rw [hh n (by omega)]; rfl⟩
theorem gzK_st {ls : List Pas} {at_ : Nat} {heads : Int} {wet : Bool} {w : Wd} : ∀ n,n ≤ 3 → ∀ k,k < n → (gzK ls at_ heads wet w n).1.st k = dayR (ls.getD k pas0) (w.st k) (nAt at_ heads k) wet
 | 0,_,k,hk => absurd hk (Nat.not_lt_zero _)
 | n + 1,h,k,hk => by
  show ((gzK ls at_ heads wet w n).1.lay n _).st k = _
  rw [Wd.st_lay _ _ (by omega) (by omega)]
  by_cases e : k = n
  ·rw [if_pos e,e,gzK_rest n (by omega) n (Nat.le_refl _) (by omega)]
  ·rw [if_neg e]
   exact gzK_st n (by omega) k (by omega)
theorem nextX_c {x : Spl} {c : UInt8} : (nextX x c).1 = c := by
 unfold nextX
 split
 ·rfl
 ·rfl
theorem gzW_st {ls : List Pas} (h3 : ls.length ≤ 3) {at_ : Nat} {heads : Int} {w : Wd} {x : Spl} {k : Nat} (hk : k < ls.length) : (gzW ls at_ heads w x).st k = dayR (ls.getD k pas0) (w.st k) (nAt at_ heads k) (wetB x.1) := by
 have e : (gzW ls at_ heads w x).st k = (gzK ls at_ heads (wetB x.1) w ls.length).1.st k := by
  match k with
  | 0 => rfl
  | 1 => rfl
  | _ + 2 => rfl
 rw [e]
 exact gzK_st _ h3 k hk
theorem fedAll_iff {ls : List Pas} (h3 : ls.length ≤ 3) {heads : Int} : ∀ {w : List Int} {u : List UInt8} {x : Wd},w.length = u.length → (∀ a ∈ w,0 ≤ a) → (fedAll ls heads x w u = true ↔ ∀ k,k < ls.length → okP (ls.getD k pas0) (x.st k) (ownW w k heads) u = true)
 | [],_,x,_,_ => ⟨fun _ _ _ => rfl,fun _ => rfl⟩
 | _ :: _,[],x,h,_ => by cases h
 | a :: w,c :: u,x,h,ha => by
  have ha0 := ha a (by simp)
  have ih := fedAll_iff h3 (heads := heads) (w := w) (u := u) (x := gzW ls a.toNat heads x (nextX x.sp c)) (by simpa using h) fun b hb => ha b (by simp [hb])
  have hn : ∀ k : Nat,nAt a.toNat heads k = if a = (k : Int) then heads else 0 := fun k => by
   unfold nAt
   by_cases e : a = (k : Int)
   ·rw [if_pos e,if_pos (by omega)]
   ·rw [if_neg e,if_neg (by omega)]
  show (gzB ls a.toNat heads x (nextX x.sp c) && _) = true ↔ _
  rw [Bool.and_eq_true,ih]
  unfold gzB
  rw [gzK_fed _ h3]
  constructor
  ·rintro ⟨h1,h2⟩ k hk
   have b1 := h1 k hk
   have b2 := h2 k hk
   rw [gzW_st h3 hk,nextX_c,hn] at b2
   rw [hn] at b1
   show (!hungR (x.st k) (if a = (k : Int) then heads else 0) && okP _ _ (ownW w k heads) u) = true
   rw [b1,b2]
   rfl
  ·intro hh
   refine ⟨fun k hk => ?_,fun k hk => ?_⟩
   ·have := hh k hk
    have this : (!hungR (x.st k) (if a = (k : Int) then heads else 0) && okP _ _ (ownW w k heads) u) = true := this
    rw [Bool.and_eq_true] at this
    rw [hn]
    simpa using this.1
   ·have := hh k hk
    have this : (!hungR (x.st k) (if a = (k : Int) then heads else 0) && okP _ _ (ownW w k heads) u) = true := this
    rw [Bool.and_eq_true] at this
    rw [gzW_st h3 hk,nextX_c,hn]
    exact this.2
def okW (ls : List Pas) (s : SkyR) (heads : Int) : List Wd → List Int → Bool
 | _,[] => true
 | L,a :: w => dawnB ls s a.toNat heads L && okW ls s heads (dawnL ls s a.toNat heads L) w
theorem onward {s : SkyR} : ∀ (n : Nat) (x : Spl),∃ u ∈ strsB n,fallX s x u = true
 | 0,x => ⟨[],by simp [strsB],rfl⟩
 | n + 1,x => by
  by_cases e : x.1 = 100
  ·obtain ⟨u,h1,h2⟩ := onward (s := s) n (nextX x 119)
   refine ⟨119 :: u,by unfold strsB; exact List.mem_append.2 (.inr (List.mem_map.2 ⟨u,h1,rfl⟩)),?_⟩
   show (nextOk s x 119 && fallX s (nextX x 119) u) = true
   rw [h2,Bool.and_true]
   unfold nextOk
   rw [if_pos (by rw [e]; decide)]
  ·obtain ⟨u,h1,h2⟩ := onward (s := s) n (nextX x 100)
   refine ⟨100 :: u,by unfold strsB; exact List.mem_append.2 (.inl (List.mem_map.2 ⟨u,h1,rfl⟩)),?_⟩
   show (nextOk s x 100 && fallX s (nextX x 100) u) = true
   rw [h2,Bool.and_true]
   unfold nextOk
   rw [if_pos e]
theorem mem_afters {ls : List Pas} {s : SkyR} {at_ : Nat} {heads : Int} {x : Wd} {y : Wd × Bool} : y ∈ afters ls s at_ heads x ↔ ∃ c ∈ letters,nextOk s x.sp c = true ∧ y = (gzW ls at_ heads x (nextX x.sp c),gzB ls at_ heads x (nextX x.sp c)) := by
 unfold afters
 rw [List.mem_flatMap]
 constructor
 ·rintro ⟨c,hc,hy⟩
  split at hy
  ·rename_i h
   exact ⟨c,hc,h,List.mem_singleton.1 hy⟩
  ·cases hy
 ·rintro ⟨c,hc,h,rfl⟩
  exact ⟨c,hc,by rw [if_pos h]; simp⟩
theorem strs_cons {n : Nat} {c : UInt8} {u : List UInt8} (hc : c ∈ letters) (hu : u ∈ strsB n) : c :: u ∈ strsB (n + 1) := by
 unfold strsB
 simp only [letters,List.mem_cons,List.not_mem_nil,or_false] at hc
 rcases hc with rfl | rfl
 ·exact List.mem_append.2 (.inl (List.mem_map.2 ⟨u,hu,rfl⟩))
 ·exact List.mem_append.2 (.inr (List.mem_map.2 ⟨u,hu,rfl⟩))
theorem strs_uncons {n : Nat} {v : List UInt8} (hv : v ∈ strsB (n + 1)) : ∃ c ∈ letters,∃ u ∈ strsB n,v = c :: u := by
 unfold strsB at hv
 rcases List.mem_append.1 hv with hv | hv <;> obtain ⟨u,hu,rfl⟩ := List.mem_map.1 hv
 ·exact ⟨100,by decide,u,hu,rfl⟩
 ·exact ⟨119,by decide,u,hu,rfl⟩
theorem okW_iff {ls : List Pas} {s : SkyR} {heads : Int} : ∀ {w : List Int} {L : List Wd},okW ls s heads L w = true ↔ ∀ x ∈ L,∀ u ∈ strsB w.length,fallX s x.sp u = true → fedAll ls heads x w u = true
 | [],L => ⟨fun _ _ _ _ _ _ => by unfold fedAll; rfl,fun _ => rfl⟩
 | a :: w,L => by
  show (dawnB ls s a.toNat heads L && okW ls s heads (dawnL ls s a.toNat heads L) w) = true ↔ _
  rw [Bool.and_eq_true,okW_iff]
  unfold dawnB dawnL
  rw [List.all_eq_true]
  constructor
  ·rintro ⟨h1,h2⟩ x hx v hv hf
   obtain ⟨c,hc,u,hu,rfl⟩ := strs_uncons hv
   have hf : (nextOk s x.sp c && fallX s (nextX x.sp c) u) = true := hf
   rw [Bool.and_eq_true] at hf
   have hy := (mem_afters (ls := ls) (heads := heads) (at_ := a.toNat)).2 ⟨c,hc,hf.1,rfl⟩
   have b1 := List.all_eq_true.1 (h1 x hx) _ hy
   have b2 := h2 (gzW ls a.toNat heads x (nextX x.sp c)) (List.mem_flatMap.2 ⟨x,hx,List.mem_map.2 ⟨_,hy,rfl⟩⟩) u hu hf.2
   show (gzB ls a.toNat heads x (nextX x.sp c) && _) = true
   rw [b2,Bool.and_true]
   exact b1
  ·intro hh
   have both : ∀ x ∈ L,∀ c ∈ letters,nextOk s x.sp c = true → ∀ u ∈ strsB w.length,fallX s (nextX x.sp c) u = true → gzB ls a.toNat heads x (nextX x.sp c) = true ∧ fedAll ls heads (gzW ls a.toNat heads x (nextX x.sp c)) w u = true := fun x hx c hc hn u hu hf => by
    have := hh x hx (c :: u) (strs_cons hc hu) (show (nextOk s x.sp c && fallX s (nextX x.sp c) u) = true by rw [hn,hf]; rfl)
    have this : (gzB ls a.toNat heads x (nextX x.sp c) && fedAll ls heads (gzW ls a.toNat heads x (nextX x.sp c)) w u) = true := this
    rwa [Bool.and_eq_true] at this
   refine ⟨fun x hx => List.all_eq_true.2 fun y hy => ?_,fun y hy u hu hf => ?_⟩
   ·obtain ⟨c,hc,hn,rfl⟩ := mem_afters.1 hy
    obtain ⟨u,hu,hf⟩ := onward (s := s) w.length (nextX x.sp c)
    exact (both x hx c hc hn u hu hf).1
   ·obtain ⟨x,hx,hy⟩ := List.mem_flatMap.1 hy
    obtain ⟨z,hz,rfl⟩ := List.mem_map.1 hy
    obtain ⟨c,hc,hn,rfl⟩ := mem_afters.1 hz
    exact (both x hx c hc hn u hu hf).2
theorem part_find {ls : List Pas} {s : SkyR} {heads : Int} {L : List Wd} {W : List (List Int)} {a : Nat} : (if dawnB ls s a heads L = true then (match W.find? (okW ls s heads (dawnL ls s a heads L)) with | some r => some ((a : Int) :: r) | none => none) else none) = (W.map ((a : Int) :: ·)).find? (okW ls s heads L) := by
 rw [List.find?_map]
 have e : (okW ls s heads L ∘ fun w => (a : Int) :: w) = fun w => dawnB ls s a heads L && okW ls s heads (dawnL ls s a heads L) w := by
  funext w
  show (dawnB ls s ((a : Nat) : Int).toNat heads L && _) = _
  rw [Int.toNat_natCast]
 rw [e]
 by_cases h : dawnB ls s a heads L = true
 ·rw [if_pos h,h]
  simp only [Bool.true_and]
  cases W.find? (okW ls s heads (dawnL ls s a heads L)) <;> rfl
 ·rw [if_neg h]
  have h' : dawnB ls s a heads L = false := by simpa using h
  rw [h']
  have : W.find? (fun _ => false) = none := List.find?_eq_none.2 (by simp)
  simp only [Bool.false_and]
  rw [this]
  rfl
theorem turnA_find {ls : List Pas} {s : SkyR} {heads : Int} {L : List Wd} {rest : List Wd → Option (List Int)} {W : List (List Int)} (hr : ∀ M,rest M = W.find? (okW ls s heads M)) : ∀ k,k ≤ ls.length → turnA ls s heads L rest k = ((List.range' (ls.length - k) k).flatMap fun (i : Nat) => W.map ((i : Int) :: ·)).find? (okW ls s heads L)
 | 0,_ => rfl
 | k + 1,hk => by
  have e : ls.length - (k + 1) + 1 = ls.length - k := by omega
  rw [List.range'_succ,List.flatMap_cons,List.find?_append,← part_find,e,← turnA_find hr k (by omega)]
  simp only [turnA]
  rw [hr]
  split
  ·cases W.find? (okW ls s heads (dawnL ls s (ls.length - (k + 1)) heads L)) <;> rfl
  ·rfl
theorem restR_find {ls : List Pas} {s : SkyR} {heads : Int} : ∀ (d : Nat) (M : List Wd),restR ls s heads d M = (wordsR ls.length d).find? (okW ls s heads M)
 | 0,M => by
  show some [] = [[]].find? _
  rw [List.find?_cons,show okW ls s heads M [] = true from rfl]
 | d + 1,M => by
  show turnR ls s heads d M = _
  rw [turnR_is,turnA_find (restR_find d) _ (Nat.le_refl _),Nat.sub_self,← List.range_eq_range']
  rfl
theorem foundR_find {ls : List Pas} {s : SkyR} {heads : Int} {d a : Nat} : foundR ls s heads d a = ((wordsR ls.length d).map ((a : Int) :: ·)).find? (okW ls s heads [startW ls]) := by
 rw [← part_find]
 unfold foundR
 rw [restR_find]
 split
 ·cases (wordsR ls.length d).find? (okW ls s heads (dawnL ls s a heads [startW ls])) <;> rfl
 ·rfl
theorem startK_eq {ls : List Pas} (h3 : ls.length ≤ 3) : ∀ n,n ≤ ls.length → ∀ j,j < n → (startK ls n).st j = ((ls.getD j pas0).grass,0)
 | 0,_,j,hj => absurd hj (Nat.not_lt_zero _)
 | n + 1,h,j,hj => by
  rw [startK,Wd.st_lay _ _ (by omega) (by omega)]
  by_cases e : j = n
  ·rw [if_pos e,e]
  ·rw [if_neg e]
   exact startK_eq h3 n (by omega) j (by omega)
theorem ok_start {ls : List Pas} (h3 : ls.length ≤ 3) {s : SkyR} {heads : Int} {w : List Int} (hw : ∀ x ∈ w,0 ≤ x) : okW ls s heads [startW ls] w = true ↔ ∀ u ∈ strsB w.length,fallX s (0,0) u = true → ∀ k,k < ls.length → okP (ls.getD k pas0) ((ls.getD k pas0).grass,0) (ownW w k heads) u = true := by
 rw [okW_iff]
 have hsp : (startW ls).sp = (0,0) := startK_sp _
 constructor
 ·intro h u hu hf k hk
  have := (fedAll_iff h3 (strsB_len u hu).1.symm hw).1 (h (startW ls) (by simp) u hu (by rw [hsp]; exact hf)) k hk
  rwa [show (startW ls).st k = _ from startK_eq h3 _ (Nat.le_refl _) k hk] at this
 ·intro h x hx u hu hf
  rw [List.mem_singleton.1 hx] at hf ⊢
  rw [hsp] at hf
  refine (fedAll_iff h3 (strsB_len u hu).1.symm hw).2 fun k hk => ?_
  rw [show (startW ls).st k = _ from startK_eq h3 _ (Nat.le_refl _) k hk]
  exact h u hu hf k hk
def swp (a b x : Int) : Int := if x = a then b else if x = b then a else x
theorem swp_iff {a b x y : Int} : swp a b x = y ↔ x = swp a b y := by
 unfold swp
 constructor <;> intro h <;> (repeat' split at h) <;> (repeat' split) <;> omega
theorem found_swap {ls : List Pas} (h3 : ls.length ≤ 3) {s : SkyR} {heads : Int} {d a : Nat} (ha : a < ls.length) (hs : skipT ls a = true) (hf : foundR ls s heads d a ≠ none) : foundR ls s heads d (a - 1) ≠ none := by
 unfold skipT at hs
 rw [Bool.and_eq_true,decide_eq_true_eq,decide_eq_true_eq] at hs
 obtain ⟨h0,he⟩ := hs
 rw [foundR_find] at hf ⊢
 obtain ⟨v,hv⟩ := Option.ne_none_iff_exists'.1 hf
 have hm := List.mem_of_find?_eq_some hv
 have hok := List.find?_some hv
 obtain ⟨r,hr,rfl⟩ := List.mem_map.1 hm
 obtain ⟨r1,r2⟩ := words_of hr
 rw [Ne,List.find?_eq_none]
 intro hall
 have sb : ∀ x : Int,0 ≤ x ∧ x < ls.length → 0 ≤ swp a ((a - 1 : Nat) : Int) x ∧ swp a ((a - 1 : Nat) : Int) x < ls.length := fun x hx => by
  unfold swp
  repeat' split
  all_goals omega
 have hw0 : ∀ x ∈ (a : Int) :: r,0 ≤ x ∧ x < ls.length := fun x hx => by
  rcases List.mem_cons.1 hx with rfl | hx
  ·omega
  ·exact r2 x hx
 have hmem : (((a : Int) :: r).map (swp a ((a - 1 : Nat) : Int))) ∈ (wordsR ls.length d).map (((a - 1 : Nat) : Int) :: ·) := by
  refine List.mem_map.2 ⟨r.map (swp a ((a - 1 : Nat) : Int)),words_mem (by simpa using r1) fun x hx => ?_,?_⟩
  ·obtain ⟨y,hy,rfl⟩ := List.mem_map.1 hx
   exact sb y (r2 y hy)
  ·rw [List.map_cons]
   have : swp (a : Int) ((a - 1 : Nat) : Int) (a : Int) = ((a - 1 : Nat) : Int) := by simp [swp]
   rw [this]
 refine hall _ hmem ?_
 rw [ok_start h3 (fun x hx => (hw0 x hx).1)] at hok
 rw [ok_start h3 (fun x hx => by
  obtain ⟨y,hy,rfl⟩ := List.mem_map.1 hx
  exact (sb y (hw0 y hy)).1)]
 intro u hu hfu k hk
 rw [List.length_map] at hu
 have hk' : (0 : Int) ≤ swp a ((a - 1 : Nat) : Int) (k : Int) ∧ swp a ((a - 1 : Nat) : Int) (k : Int) < ls.length := sb k (by omega)
 have := hok u hu hfu (swp a ((a - 1 : Nat) : Int) (k : Int)).toNat (by omega)
 have hp : ls.getD (swp a ((a - 1 : Nat) : Int) (k : Int)).toNat pas0 = ls.getD k pas0 := by
  unfold swp
  split
  ·rename_i e
   have : k = a := by omega
   rw [Int.toNat_natCast,this,he]
  ·split
   ·rename_i e
    have : k = a - 1 := by omega
    rw [Int.toNat_natCast,this,he]
   ·rw [Int.toNat_natCast]
 rw [hp] at this
 have ho : ownW (((a : Int) :: r).map (swp a ((a - 1 : Nat) : Int))) k heads = ownW ((a : Int) :: r) (swp a ((a - 1 : Nat) : Int) (k : Int)).toNat heads := by
  unfold ownW
  rw [List.map_map]
  refine List.map_congr_left fun x _ => ?_
  show (if swp a ((a - 1 : Nat) : Int) x = (k : Int) then heads else 0) = if x = (((swp a ((a - 1 : Nat) : Int) (k : Int)).toNat : Nat) : Int) then heads else 0
  rw [Int.toNat_of_nonneg hk'.1]
  by_cases e : x = swp a ((a - 1 : Nat) : Int) (k : Int)
  ·rw [if_pos (swp_iff.2 e),if_pos e]
  ·rw [if_neg (fun h => e (swp_iff.1 h)),if_neg e]
 rw [ho]
 exact this
theorem some_first {α : Type} {f : Nat → Option α} {a : Nat} {x : α} (h : f a = some x) (h0 : ∀ b,b < a → f b = none) : ∀ {n : Nat},a < n → (List.range n).findSome? f = some x
 | 0,hn => absurd hn (Nat.not_lt_zero _)
 | n + 1,hn => by
  rw [List.range_succ,List.findSome?_append]
  by_cases e : a = n
  ·subst e
   have : (List.range a).findSome? f = none := by
    rw [List.findSome?_eq_none_iff]
    intro b hb
    exact h0 b (List.mem_range.1 hb)
   rw [this]
   simp [List.findSome?,h]
  ·rw [some_first h h0 (by omega : a < n)]
   rfl
def turnsB (ls : List Pas) (s : SkyR) (heads : Int) (w : List Int) : Bool := (List.range ls.length).all fun k => fedB (ls.getD k pas0) (ownW w k heads) s
theorem ok_turns {ls : List Pas} (h3 : ls.length ≤ 3) {s : SkyR} {heads : Int} {w : List Int} (hw : ∀ x ∈ w,0 ≤ x) (hl : w.length = s.days.toNat) : okW ls s heads [startW ls] w = turnsB ls s heads w := by
 rw [Bool.eq_iff_iff,ok_start h3 hw]
 unfold turnsB fedB
 rw [List.all_eq_true,rainsB_strs,← hl]
 have hlen : ∀ {k : Nat} {u : List UInt8},u ∈ strsB w.length → (ownW w k heads).length = u.length := fun hu => by
  rw [(strsB_len _ hu).1]
  simp [ownW]
 constructor
 ·intro h k hk
  rw [List.all_eq_true]
  intro u hu
  obtain ⟨h1,h2⟩ := List.mem_filter.1 hu
  rw [decide_eq_true_eq]
  exact (okP_all (hlen h1)).1 (h u h1 h2 k (List.mem_range.1 hk))
 ·intro h u hu hf k hk
  have := List.all_eq_true.1 (h k (List.mem_range.2 hk)) u (List.mem_filter.2 ⟨hu,hf⟩)
  rw [decide_eq_true_eq] at this
  exact (okP_all (hlen hu)).2 this
theorem turnT_find {ls : List Pas} (h3 : ls.length ≤ 3) {s : SkyR} {heads : Int} {d : Nat} (hd : s.days = (d : Int) + 1) : turnT ls s heads d = (wordsR ls.length (d + 1)).find? (turnsB ls s heads) := by
 have e1 : (wordsR ls.length (d + 1)).find? (turnsB ls s heads) = (wordsR ls.length (d + 1)).find? (okW ls s heads [startW ls]) := by
  refine find_same fun w hw => ?_
  obtain ⟨h1,h2⟩ := words_of hw
  exact (ok_turns h3 (fun x hx => (h2 x hx).1) (by omega)).symm
 have e2 : (wordsR ls.length (d + 1)).find? (okW ls s heads [startW ls]) = (List.range ls.length).findSome? (foundR ls s heads d) := by
  unfold wordsR
  rw [List.find?_flatMap]
  congr 1
  funext a
  exact foundR_find.symm
 rw [e1,e2]
 unfold turnT
 have hgot : ∀ a,gotR (hiredL ls ls.length) (foundR ls s heads d) a = none ∨ gotR (hiredL ls ls.length) (foundR ls s heads d) a = foundR ls s heads d a := fun a => by
  unfold gotR
  split
  ·exact .inr rfl
  ·exact .inl rfl
 by_cases hex : ∃ a,a < ls.length ∧ foundR ls s heads d a ≠ none
 ·-- the first that has found something
  have least : ∀ n,(∃ a,a < n ∧ a < ls.length ∧ foundR ls s heads d a ≠ none) → ∃ a,a < ls.length ∧ foundR ls s heads d a ≠ none ∧ ∀ b,b < a → foundR ls s heads d b = none := by
   intro n
   induction n with
   | zero => exact fun ⟨a,h,_⟩ => absurd h (Nat.not_lt_zero _)
   | succ n ih =>
    rintro ⟨a,h1,h2,h3⟩
    by_cases hb : ∃ b,b < n ∧ b < ls.length ∧ foundR ls s heads d b ≠ none
    ·exact ih hb
    ·refine ⟨a,h2,h3,fun b hb' => ?_⟩
     cases e : foundR ls s heads d b with
     | none => rfl
     | some l => exact absurd ⟨b,by omega,by omega,by rw [e]; simp⟩ hb
  obtain ⟨a0,h00,h01⟩ := hex
  obtain ⟨a,ha,hne,hmin⟩ := least (a0 + 1) ⟨a0,by omega,h00,h01⟩
  obtain ⟨l,hl⟩ := Option.ne_none_iff_exists'.1 hne
  have hsk : skipT ls a = false := by
   cases e : skipT ls a with
   | false => rfl
   | true =>
    have h0 : 0 < a := by
     unfold skipT at e
     rw [Bool.and_eq_true,decide_eq_true_eq] at e
     exact e.1
    exact absurd (hmin (a - 1) (by omega)) (found_swap h3 ha e hne)
  have hX : gotR (hiredL ls ls.length) (foundR ls s heads d) a = some l := by
   unfold gotR
   rw [if_pos ((hiredL_mem ha).2 hsk),hl]
  rw [some_first hl hmin ha,firstX_at (by omega) (fun b hb => ?_) hX]
  rcases hgot b with h | h
  ·exact h
  ·rw [h]
   exact hmin b hb
 ·have hno : ∀ a,a < ls.length → foundR ls s heads d a = none := fun a ha => by
   cases e : foundR ls s heads d a with
   | none => rfl
   | some l => exact absurd ⟨a,ha,by rw [e]; simp⟩ hex
  have : (List.range ls.length).findSome? (foundR ls s heads d) = none := by
   rw [List.findSome?_eq_none_iff]
   exact fun a ha => hno a (List.mem_range.1 ha)
  rw [this]
  refine firstX_none fun a _ => ?_
  unfold gotR
  split
  ·rename_i hm
   exact hno a (hiredL_lt hm)
  ·rfl
end Go.Proofs.Yteoenhhmcpipoaa
namespace Go.Proofs.Yteoenhhmcpipoaa
open Go.Conc Go.Proofs.Try
set_option maxRecDepth 100000
set_option maxHeartbeats 4000000
set_option linter.unusedVariables false
section
variable {main : Bool} {J : JT} {n0 : Nat} {h : List AObj} {K : Value → List AObj → Prop}
theorem at21 : prog.funcs[21]? = some f21 := by kernel_rfl
theorem body21 : f21.body = some (codeOf f21) := by kernel_rfl
def pl21 : Plans := []
def ct21 : Cuts := .go
theorem pok21 : plansOk prog pl21 (codeOf f21) = true := by kernel_rfl
theorem e21 {a0 a1 a2 : Value} : W prog J 22 h.length 21 (codeOf f21) (RG.mk (regs [a0,a1,a2]) []) h (RetQ prog [.tmp 4] h.length K) =
(aLoad true 3 a1 h fun v1 =>
aAlloc [(vint 0),(vint 0),(vint 0)] h fun v2 h3 =>
aStore 3 v2 v1 h3 fun h4 =>
aLoad false 1 a2 h4 fun v5 =>
Sem J 22 h.length 21 (subC [1,1,0,1,0] (codeOf f21)) (RG.p (RG.p (RG.p (RG.p (RG.p (RG.p (RG.mk (regs [a0,a1,a2]) []) 4 (Value.bool false)) 7 v1) 5 v2) 6 (Value.bool false)) 8 v5) 9 (vint 0)) h4 (contX pl21 prog J 22 h.length 21 ct21 [1,1,0,1,0] (codeOf f21) [] (RetQ prog [.tmp 4] h.length K))) := top_eq pok21 ct21 (by kernel_rfl)
theorem g21 (hJ : Closed prog main J) {a0 a1 a2 : Value} (hs : heapOk h → W prog J 22 h.length 21 (codeOf f21) (RG.mk (regs [a0,a1,a2]) []) h (RetQ prog [.tmp 4] h.length K)) : Good prog J 21 [a0,a1,a2] h K :=
 good_of_W hJ mixed at21 body21 (by kernel_rfl) (Nat.le_of_ble_eq_true rfl) hs
theorem s21_1 {f : RG} {nx0 : RG → List AObj → Prop} : W prog J 22 n0 21 (subC [1,1,0,1,0,0] (codeOf f21)) f h (thenK nx0 (contX pl21 prog J 22 n0 21 ct21 [1,1,0,1,0] (codeOf f21) [] (RetQ prog [.tmp 4] n0 K))) =
(aBin prog .lss 3 (f.r 9) (f.r 8) fun v1 =>
cnd v1
(aLoad true 3 (f.r 5) h fun v2 =>
aBin prog .sub 3 (vint 40) (f.r 0) fun v3 =>
Good prog J 22 [v2,v3] h fun v4 h5 =>
aExt v4 0 fun v6 =>
aExt v4 1 fun v7 =>
aStore 3 (f.r 5) v6 h5 fun h8 =>
cnd v7
(retL n0 K f.ds [(Value.bool false)] h8)
(aLoad true 3 (f.r 5) h8 fun v9 =>
Good prog J 19 [v9] h8 fun v10 h11 =>
aStore 3 (f.r 5) v10 h11 fun h12 =>
aBin prog .add 3 (f.r 9) (vint 1) fun v13 =>
nx0 (RG.p (RG.p (RG.p (RG.p (RG.p (RG.p (RG.p (RG.p (RG.p (RG.p (RG.p (RG.p (RG.p (RG.p f 10 v1) 12 v2) 13 (f.r 0)) 14 v3) 15 v4) 11 v4) 16 v6) 17 v7) 6 v7) 18 v7) 19 v9) 20 v10) 21 v13) 9 v13) h12))
(retL n0 K f.ds [(Value.bool true)] h)) := sub_eq pok21 ct21 (by kernel_rfl)
theorem l21_1 (hJ : Closed prog main J) {S : Type} (μ : S → Nat) (I : S → RG → List AObj → Prop) (hI : ∀ s f h,I s f h → heapOk h → n0 ≤ h.length → W prog J 22 n0 21 (subC [1,1,0,1,0,0] (codeOf f21)) f h (thenK (Nx n0 μ I s) (contX pl21 prog J 22 n0 21 ct21 [1,1,0,1,0] (codeOf f21) [] (RetQ prog [.tmp 4] n0 K))))
 {s : S} {f : RG} (hi : Gets n0 I s f h) : Sem J 22 n0 21 (subC [1,1,0,1,0] (codeOf f21)) f h (contX pl21 prog J 22 n0 21 ct21 [1,1,0,1,0] (codeOf f21) [] (RetQ prog [.tmp 4] n0 K)) :=
 loop_rule hJ mixed (b := subC [1,1,0,1,0,0] (codeOf f21)) (by kernel_rfl) μ I hI hi
end
section
variable {main : Bool} {J : JT} {n0 : Nat} {h : List AObj} {K : Value → List AObj → Prop}
theorem at10 : prog.funcs[10]? = some f10 := by kernel_rfl
theorem body10 : f10.body = some (codeOf f10) := by kernel_rfl
def pl10 : Plans := []
def ct10 : Cuts := .go
theorem pok10 : plansOk prog pl10 (codeOf f10) = true := by kernel_rfl
theorem e10 {a0 a1 a2 a3 a4 : Value} : W prog J 51 h.length 10 (codeOf f10) (RG.mk (regs [a0,a1,a2,a3,a4]) []) h (RetQ prog [.tmp 10,.tmp 11] h.length K) =
(aBox a0 h fun v1 h2 =>
aBox a1 h2 fun v3 h4 =>
aBox a2 h4 fun v5 h6 =>
aBox a4 h6 fun v7 h8 =>
aLoad true 3 v1 h8 fun v9 =>
Good prog J 17 [v9] h8 fun v10 h11 =>
aBin prog .neq 36 v10 (vint 0) fun v12 =>
cnd v12
(retL h.length K [] [(vint 0),v10] h11)
(aLoad true 6 v3 h11 fun v13 =>
aLoad true 3 v5 h11 fun v14 =>
aLoad false 1 v7 h11 fun v15 =>
Good prog J 18 [v13,v14,a3,v15] h11 fun v16 h17 =>
aExt v16 0 fun v18 =>
aExt v16 1 fun v19 =>
aBin prog .neq 36 v19 (vint 0) fun v20 =>
cnd v20
(retL h.length K [] [(vint 0),v19] h17)
(aLoad true 3 v1 h17 fun v21 =>
aFill [(vint 0),(vint 0),(vint 0)] [(0,3,v21)] fun c22 =>
aAlloc [(vint 0),(vint 0),(vint 0)] h17 fun v23 h24 =>
aStore 3 v23 (Value.agg ⟨c22⟩) h24 fun h25 =>
Sem J 51 h.length 10 (subC [1,1,1,1,1,0,1,0] (codeOf f10)) (RG.p (RG.p (RG.p (RG.p (RG.p (RG.p (RG.p (RG.p (RG.p (RG.p (RG.p (RG.p (RG.p (RG.p (RG.p (RG.p (RG.p (RG.p (RG.p (RG.p (RG.p (RG.p (RG.p (RG.p (RG.p (RG.p (RG.p (RG.p (RG.mk (regs [a0,a1,a2,a3,a4]) []) 5 v1) 6 v3) 7 v5) 9 v7) 10 (vint 0)) 11 (vint 0)) 18 v9) 19 v10) 12 v10) 20 v10) 21 v12) 24 v13) 25 v14) 26 a3) 27 v15) 28 v16) 23 v16) 29 v18) 30 v19) 13 v18) 14 v19) 31 v19) 32 v20) 34 v21) 35 (Value.agg ⟨c22⟩)) 15 v23) 36 a3) 37 (vint 0)) h25 (contX pl10 prog J 51 h.length 10 ct10 [1,1,1,1,1,0,1,0] (codeOf f10) [] (RetQ prog [.tmp 10,.tmp 11] h.length K))))) := top_eq pok10 ct10 (by kernel_rfl)
theorem g10 (hJ : Closed prog main J) {a0 a1 a2 a3 a4 : Value} (hs : heapOk h → W prog J 51 h.length 10 (codeOf f10) (RG.mk (regs [a0,a1,a2,a3,a4]) []) h (RetQ prog [.tmp 10,.tmp 11] h.length K)) : Good prog J 10 [a0,a1,a2,a3,a4] h K :=
 good_of_W hJ mixed at10 body10 (by kernel_rfl) (Nat.le_of_ble_eq_true rfl) hs
theorem s10_1 {f : RG} {nx0 : RG → List AObj → Prop} : W prog J 51 n0 10 (subC [1,1,1,1,1,0,1,0,0] (codeOf f10)) f h (thenK nx0 (contX pl10 prog J 51 n0 10 ct10 [1,1,1,1,1,0,1,0] (codeOf f10) [] (RetQ prog [.tmp 10,.tmp 11] n0 K))) =
(aBin prog .lss 3 (f.r 37) (f.r 36) fun v1 =>
cnd v1
(aLoad true 3 (f.r 15) h fun v2 =>
Good prog J 19 [v2] h fun v3 h4 =>
aStore 3 (f.r 15) v3 h4 fun h5 =>
aBin prog .add 3 (f.r 37) (vint 1) fun v6 =>
nx0 (RG.p (RG.p (RG.p (RG.p (RG.p f 38 v1) 39 v2) 40 v3) 41 v6) 37 v6) h5)
(aMkF 21 [] [(f.r 15),(f.r 9)] fun v7 =>
Good prog J 20 [(vint 0),(vint 40),v7] h fun v8 h9 =>
aExt v8 0 fun v10 =>
aExt v8 1 fun v11 =>
aBin prog .sub 3 (vint 40) v10 fun v12 =>
aMin (f.r 13) [v12] fun v13 =>
retL n0 K f.ds [v13,(vint 0)] h9)) := sub_eq pok10 ct10 (by kernel_rfl)
theorem l10_1 (hJ : Closed prog main J) {S : Type} (μ : S → Nat) (I : S → RG → List AObj → Prop) (hI : ∀ s f h,I s f h → heapOk h → n0 ≤ h.length → W prog J 51 n0 10 (subC [1,1,1,1,1,0,1,0,0] (codeOf f10)) f h (thenK (Nx n0 μ I s) (contX pl10 prog J 51 n0 10 ct10 [1,1,1,1,1,0,1,0] (codeOf f10) [] (RetQ prog [.tmp 10,.tmp 11] n0 K))))
 {s : S} {f : RG} (hi : Gets n0 I s f h) : Sem J 51 n0 10 (subC [1,1,1,1,1,0,1,0] (codeOf f10)) f h (contX pl10 prog J 51 n0 10 ct10 [1,1,1,1,1,0,1,0] (codeOf f10) [] (RetQ prog [.tmp 10,.tmp 11] n0 K)) :=
 loop_rule hJ mixed (b := subC [1,1,1,1,1,0,1,0,0] (codeOf f10)) (by kernel_rfl) μ I hI hi
end
section
variable {main : Bool} {J : JT} {n0 : Nat} {h : List AObj} {K : Value → List AObj → Prop}
theorem at9 : prog.funcs[9]? = some f9 := by kernel_rfl
theorem body9 : f9.body = some (codeOf f9) := by kernel_rfl
def pl9 : Plans := []
def ct9 : Cuts := .go
theorem pok9 : plansOk prog pl9 (codeOf f9) = true := by kernel_rfl
theorem e9 {a0 a1 : Value} : W prog J 20 h.length 9 (codeOf f9) (RG.mk (regs [a0,a1]) []) h (RetQ prog [.tmp 4,.tmp 5] h.length K) =
(aBox a0 h fun v1 h2 =>
aLoad true 4 v1 h2 fun v3 =>
Good prog J 15 [v3,a1] h2 fun v4 h5 =>
aBin prog .neq 36 v4 (vint 0) fun v6 =>
cnd v6
(retL h.length K [] [(vint 0),v4] h5)
(aLoad true 4 v1 h5 fun v7 =>
Good prog J 16 [v7,a1] h5 fun v8 h9 =>
aBin prog .lss 3 v8 (vint 0) fun v10 =>
cnd v10
(retL h.length K [] [(vint 0),(vint 11)] h9)
(retL h.length K [] [v8,(vint 0)] h9))) := top_eq pok9 ct9 (by kernel_rfl)
theorem g9 (hJ : Closed prog main J) {a0 a1 : Value} (hs : heapOk h → W prog J 20 h.length 9 (codeOf f9) (RG.mk (regs [a0,a1]) []) h (RetQ prog [.tmp 4,.tmp 5] h.length K)) : Good prog J 9 [a0,a1] h K :=
 good_of_W hJ mixed at9 body9 (by kernel_rfl) (Nat.le_of_ble_eq_true rfl) hs
end
section
variable {main : Bool} {J : JT} {n0 : Nat} {h : List AObj} {K : Value → List AObj → Prop}
theorem at15 : prog.funcs[15]? = some f15 := by kernel_rfl
theorem body15 : f15.body = some (codeOf f15) := by kernel_rfl
def pl15 : Plans := []
def ct15 : Cuts := .go
theorem pok15 : plansOk prog pl15 (codeOf f15) = true := by kernel_rfl
theorem e15 {a0 a1 : Value} : W prog J 34 h.length 15 (codeOf f15) (RG.mk (regs [a0,a1]) []) h (RetQ prog [.tmp 4] h.length K) =
(aBox a0 h fun v1 h2 =>
aLoad true 4 v1 h2 fun v3 =>
Good prog J 38 [v3] h2 fun v4 h5 =>
aBin prog .neq 36 v4 (vint 0) fun v6 =>
cnd v6
(retL h.length K [] [v4] h5)
(aLenS a1 fun v7 =>
Good prog J 39 [v7,(vint 1),(vint 5)] h5 fun v8 h9 =>
aBin prog .neq 36 v8 (vint 0) fun v10 =>
cnd v10
(retL h.length K [] [v8] h9)
(aLenS a1 fun v11 =>
Sem J 34 h.length 15 (subC [1,1,1,0,1,0] (codeOf f15)) (RG.p (RG.p (RG.p (RG.p (RG.p (RG.p (RG.p (RG.p (RG.p (RG.p (RG.p (RG.p (RG.p (RG.p (RG.p (RG.p (RG.mk (regs [a0,a1]) []) 2 v1) 4 (vint 0)) 9 v3) 10 v4) 5 v4) 11 v4) 12 v6) 14 a1) 15 v7) 16 v8) 6 v8) 17 v8) 18 v10) 20 a1) 21 v11) 22 (vint 0)) h9 (contX pl15 prog J 34 h.length 15 ct15 [1,1,1,0,1,0] (codeOf f15) [] (RetQ prog [.tmp 4] h.length K))))) := top_eq pok15 ct15 (by kernel_rfl)
theorem g15 (hJ : Closed prog main J) {a0 a1 : Value} (hs : heapOk h → W prog J 34 h.length 15 (codeOf f15) (RG.mk (regs [a0,a1]) []) h (RetQ prog [.tmp 4] h.length K)) : Good prog J 15 [a0,a1] h K :=
 good_of_W hJ mixed at15 body15 (by kernel_rfl) (Nat.le_of_ble_eq_true rfl) hs
theorem s15_1 {f : RG} {nx0 : RG → List AObj → Prop} : W prog J 34 n0 15 (subC [1,1,1,0,1,0,0] (codeOf f15)) f h (thenK nx0 (contX pl15 prog J 34 n0 15 ct15 [1,1,1,0,1,0] (codeOf f15) [] (RetQ prog [.tmp 4] n0 K))) =
(aBin prog .lss 3 (f.r 22) (f.r 21) fun v1 =>
cnd v1
(aIdx 1 (f.r 20) (f.r 22) fun v2 =>
aLoad false 1 v2 h fun v3 =>
aOff (f.r 2) 3 fun v4 =>
aLoad false 1 v4 h fun v5 =>
aLenS v5 fun v6 =>
aBin prog .sub 3 v6 (vint 1) fun v7 =>
Good prog J 40 [v3,(vint (-1)),v7] h fun v8 h9 =>
aUn .not v8 fun v10 =>
cnd v10
(retL n0 K f.ds [(vint 3)] h9)
(aBin prog .add 3 (f.r 22) (vint 1) fun v11 =>
nx0 (RG.p (RG.p (RG.p (RG.p (RG.p (RG.p (RG.p (RG.p (RG.p (RG.p (RG.p (RG.p (RG.p f 23 v1) 24 v2) 25 v3) 8 v3) 26 v3) 27 v4) 28 v5) 29 v6) 30 v7) 31 v8) 32 v10) 33 v11) 22 v11) h9))
(retL n0 K f.ds [(vint 0)] h)) := sub_eq pok15 ct15 (by kernel_rfl)
theorem l15_1 (hJ : Closed prog main J) {S : Type} (μ : S → Nat) (I : S → RG → List AObj → Prop) (hI : ∀ s f h,I s f h → heapOk h → n0 ≤ h.length → W prog J 34 n0 15 (subC [1,1,1,0,1,0,0] (codeOf f15)) f h (thenK (Nx n0 μ I s) (contX pl15 prog J 34 n0 15 ct15 [1,1,1,0,1,0] (codeOf f15) [] (RetQ prog [.tmp 4] n0 K))))
 {s : S} {f : RG} (hi : Gets n0 I s f h) : Sem J 34 n0 15 (subC [1,1,1,0,1,0] (codeOf f15)) f h (contX pl15 prog J 34 n0 15 ct15 [1,1,1,0,1,0] (codeOf f15) [] (RetQ prog [.tmp 4] n0 K)) :=
 loop_rule hJ mixed (b := subC [1,1,1,0,1,0,0] (codeOf f15)) (by kernel_rfl) μ I hI hi
theorem at16 : prog.funcs[16]? = some f16 := by kernel_rfl
theorem body16 : f16.body = some (codeOf f16) := by kernel_rfl
def pl16 : Plans := [(6,false,.take 0 (.take 1 (.take 2 (.take 3 (.take 4 (.take 5 (.take 6 (.last 7 true (.last 8 false (.fin))))))))))]
def ct16 : Cuts := .go
theorem pok16 : plansOk prog pl16 (codeOf f16) = true := by kernel_rfl
theorem e16 {a0 a1 : Value} : W prog J 34 h.length 16 (codeOf f16) (RG.mk (regs [a0,a1]) []) h (RetQ prog [.tmp 4] h.length K) =
(aBox a0 h fun v1 h2 =>
aBox a1 h2 fun v3 h4 =>
aNewM h4 fun v5 h6 =>
aAlloc [(Value.map none)] h6 fun v7 h8 =>
aStore 1 v7 v5 h8 fun h9 =>
aAlloc [(vint 0)] h9 fun v10 h11 =>
aStore 1 v10 (vint (-1)) h11 fun h12 =>
aLoad true 4 v1 h12 fun v13 =>
aLoad false 1 v3 h12 fun v14 =>
Good prog J 41 [v13,v14] h12 fun v15 h16 =>
Sem J 34 h.length 16 (subC [1,0,1,1,1,0,1,0] (codeOf f16)) (RG.p (RG.p (RG.p (RG.p (RG.p (RG.p (RG.p (RG.p (RG.p (RG.mk (regs [a0,a1]) []) 2 v1) 3 v3) 4 (vint 0)) 10 v5) 5 v7) 6 v10) 11 v13) 12 v14) 13 v15) h16 (contX pl16 prog J 34 h.length 16 ct16 [1,0,1,1,1,0,1,0] (codeOf f16) [] (RetQ prog [.tmp 4] h.length K))) := top_eq pok16 ct16 (by kernel_rfl)
theorem g16 (hJ : Closed prog main J) {a0 a1 : Value} (hs : heapOk h → W prog J 34 h.length 16 (codeOf f16) (RG.mk (regs [a0,a1]) []) h (RetQ prog [.tmp 4] h.length K)) : Good prog J 16 [a0,a1] h K :=
 good_of_W hJ mixed at16 body16 (by kernel_rfl) (Nat.le_of_ble_eq_true rfl) hs
theorem a16_1 {f : RG} {fr : FuncId} {Q : QT} : W prog J 34 n0 fr (subC [1,0,1,1,1,0,1,0,0] (codeOf f16)) f h Q =
(aAlloc [(vint 0),(vint 0),(Value.bool false)] h fun v1 h2 =>
aStore 3 v1 (f.r 15) h2 fun h3 =>
Q .normal (RG.p (RG.p f 7 (f.r 14)) 8 v1) h3) := sub_eq pok16 ct16 (by kernel_rfl)
theorem b16_1 {f : RG} {fr : FuncId} {Q : QT} : W prog J 34 n0 fr (subC [1,0,1,1,1,0,1,0,1] (codeOf f16)) f h Q =
((∃ B,aOff (f.r 8) 0 fun v1 =>
aLoad false 1 v1 h fun v2 =>
RdOk (some B) (ptrBlk v1) ∧ (aLoad false 1 (f.r 3) h fun v3 =>
RdOk (some B) (ptrBlk (f.r 3)) ∧ (aLenS v3 fun v4 =>
RdOk (some B) (mapBlk v3) ∧ (aBin prog .rem 3 (f.r 7) v4 fun v5 =>
aFill [(vint 0),(vint 0)] [(0,1,v2),(1,1,v5)] fun c6 =>
aAlloc [(vint 0),(vint 0)] h fun v7 h8 =>
SameB (some B) h h8 ∧ (aStore 2 v7 (Value.agg ⟨c6⟩) h8 fun h9 =>
aOff (f.r 8) 2 fun v10 =>
aLoad false 1 v10 h9 fun v11 =>
cnd v11
(aStore 1 (f.r 6) (f.r 7) h9 fun h12 =>
Q (.exit 0) (RG.p (RG.p (RG.p (RG.p (RG.p (RG.p (RG.p (RG.p (RG.p (RG.p (RG.p (RG.p f 16 v1) 17 v2) 18 (f.r 7)) 19 v3) 20 v4) 21 v5) 22 (Value.agg ⟨c6⟩)) 9 v7) 24 v10) 25 v11) 23 v11) 26 (f.r 7)) h12)
(aLoad false 1 (f.r 5) h9 fun v13 =>
aLoad true 2 v7 h9 fun v14 =>
aLook prog 98 false v13 v14 h9 fun v15 =>
cnd v15
(Q (.exit 0) (RG.p (RG.p (RG.p (RG.p (RG.p (RG.p (RG.p (RG.p (RG.p (RG.p (RG.p (RG.p (RG.p (RG.p (RG.p f 16 v1) 17 v2) 18 (f.r 7)) 19 v3) 20 v4) 21 v5) 22 (Value.agg ⟨c6⟩)) 9 v7) 24 v10) 25 v11) 23 v11) 28 v13) 29 v14) 30 v15) 27 v15) h9)
(aLoad false 1 (f.r 5) h9 fun v16 =>
aLoad true 2 v7 h9 fun v17 =>
((VOk h9.length (Value.bool true) ∧ one (Value.bool true) = true) ∧ aUpdX prog 98 v16 v17 (Value.bool true) h9 fun h18 =>
Q .normal (RG.p (RG.p (RG.p (RG.p (RG.p (RG.p (RG.p (RG.p (RG.p (RG.p (RG.p (RG.p (RG.p (RG.p (RG.p (RG.p (RG.p f 16 v1) 17 v2) 18 (f.r 7)) 19 v3) 20 v4) 21 v5) 22 (Value.agg ⟨c6⟩)) 9 v7) 24 v10) 25 v11) 23 v11) 28 v13) 29 v14) 30 v15) 27 v15) 31 v16) 32 v17) h18))))))))) := sub_eq pok16 ct16 (by kernel_rfl)
theorem c16_1x0 {f : RG} : (contX pl16 prog J 34 n0 16 ct16 [1,0,1,1,1,0,1,0] (codeOf f16) [] (RetQ prog [.tmp 4] n0 K)) (.exit 0) f h =
(aLoad false 1 (f.r 6) h fun v1 =>
retL n0 K f.ds [v1] h) := by kernel_rfl
theorem l16_1 (hJ : Closed prog main J) {f : RG} {g : FuncId} {first cap : List Value} (hx : ev f.r ((Go.Operand.tmp 13)) = .func (.func g) ⟨first⟩ ⟨cap⟩) (hg : g < prog.funcs.size)
 (hs : Good prog J g (first ++ [.func (.yield (h.length + 1)) ⟨[]⟩ ⟨[]⟩] ++ cap) (h ++ [.deferred] ++ [.loop .ready none 16 f.r 34 #[14,15] (subC [1,0,1,1,1,0,1,0,0] (codeOf f16)) (subC [1,0,1,1,1,0,1,0,1] (codeOf f16)) h.length]) (endQ h.length f (contX pl16 prog J 34 n0 16 ct16 [1,0,1,1,1,0,1,0] (codeOf f16) [] (RetQ prog [.tmp 4] n0 K)))) (hcall : callable prog g = true := by kernel_rfl) : Sem J 34 n0 16 (subC [1,0,1,1,1,0,1,0] (codeOf f16)) f h (contX pl16 prog J 34 n0 16 ct16 [1,0,1,1,1,0,1,0] (codeOf f16) [] (RetQ prog [.tmp 4] n0 K)) :=
 Sem_range hJ (by decide) (fop := (Go.Operand.tmp 13)) (params := #[14,15]) (assign := subC [1,0,1,1,1,0,1,0,0] (codeOf f16)) (body := subC [1,0,1,1,1,0,1,0,1] (codeOf f16)) hx hg hs hcall
end
section
variable {main : Bool} {J : JT} {n0 : Nat} {h : List AObj} {K : Value → List AObj → Prop}
theorem at41 : prog.funcs[41]? = some f41 := by kernel_rfl
theorem body41 : f41.body = some (codeOf f41) := by kernel_rfl
def pl41 : Plans := []
def ct41 : Cuts := .go
theorem pok41 : plansOk prog pl41 (codeOf f41) = true := by kernel_rfl
theorem e41 {a0 a1 : Value} : W prog J 6 h.length 41 (codeOf f41) (RG.mk (regs [a0,a1]) []) h (RetQ prog [.tmp 4] h.length K) =
(aBox a0 h fun v1 h2 =>
aBox a1 h2 fun v3 h4 =>
aMkF 64 [] [v1,v3] fun v5 =>
retL h.length K [] [v5] h4) := top_eq pok41 ct41 (by kernel_rfl)
theorem g41 (hJ : Closed prog main J) {a0 a1 : Value} (hs : heapOk h → W prog J 6 h.length 41 (codeOf f41) (RG.mk (regs [a0,a1]) []) h (RetQ prog [.tmp 4] h.length K)) : Good prog J 41 [a0,a1] h K :=
 good_of_W hJ mixed at41 body41 (by kernel_rfl) (Nat.le_of_ble_eq_true rfl) hs
end
section
variable {main : Bool} {J : JT} {n0 : Nat} {h : List AObj} {K : Value → List AObj → Prop}
theorem at64 : prog.funcs[64]? = some f64 := by kernel_rfl
theorem body64 : f64.body = some (codeOf f64) := by kernel_rfl
def pl64 : Plans := [(4,true,.take 0 (.take 1 (.take 2 (.take 3 (.take 4 (.take 5 (.take 6 (.take 7 (.fin)))))))))]
def ct64 : Cuts := .bin (.go) (.bin (.go) (.un (.un (.bin (.un (.bin (.go) (.bin (.go) (.cut (.go))))) (.go)))))
theorem pok64 : plansOk prog pl64 (codeOf f64) = true := by kernel_rfl
theorem e64 {a0 a1 a2 : Value} : W prog J 55 h.length 64 (codeOf f64) (RG.mk (regs [a0,a1,a2]) []) h (RetQ prog [] h.length K) =
(aOff a1 0 fun v1 =>
aLoad true 3 v1 h fun v2 =>
aFill [(vint 0),(vint 0),(vint 0)] [(0,3,v2)] fun c3 =>
aAlloc [(vint 0),(vint 0),(vint 0)] h fun v4 h5 =>
aStore 3 v4 (Value.agg ⟨c3⟩) h5 fun h6 =>
Sem J 55 h.length 64 (subC [1,1,0] (codeOf f64)) (RG.p (RG.p (RG.p (RG.p (RG.p (RG.p (RG.p (RG.mk (regs [a0,a1,a2]) []) 11 v1) 12 v2) 13 (Value.agg ⟨c3⟩)) 4 v4) 5 (Value.func (.func 22) #[] #[])) 6 (Value.func (.func 19) #[] #[])) 7 (vint 0)) h6 (contX pl64 prog J 55 h.length 64 ct64 [1,1,0] (codeOf f64) [] (RetQ prog [] h.length K))) := top_eq pok64 ct64 (by kernel_rfl)
theorem g64 (hJ : Closed prog main J) {a0 a1 a2 : Value} (hs : heapOk h → W prog J 55 h.length 64 (codeOf f64) (RG.mk (regs [a0,a1,a2]) []) h (RetQ prog [] h.length K)) : Good prog J 64 [a0,a1,a2] h K :=
 good_of_W hJ mixed at64 body64 (by kernel_rfl) (Nat.le_of_ble_eq_true rfl) hs
theorem s64_1 {f : RG} {nx0 : RG → List AObj → Prop} : W prog J 55 n0 64 (subC [1,1,0,0] (codeOf f64)) f h (thenK nx0 (contX pl64 prog J 55 n0 64 ct64 [1,1,0] (codeOf f64) [] (RetQ prog [] n0 K))) =
(aLoad false 1 (f.r 2) h fun v1 =>
aLoad false 1 (f.r 2) h fun v2 =>
aLenS v2 fun v3 =>
aBin prog .rem 3 (f.r 7) v3 fun v4 =>
aIdx 1 v1 v4 fun v5 =>
aLoad false 1 v5 h fun v6 =>
aBin prog .geq 3 v6 (vint 0) fun v7 =>
cnd v7
(aOff (f.r 1) 3 fun v8 =>
aLoad false 1 v8 h fun v9 =>
aIdx 2 v9 v6 fun v10 =>
aOff v10 0 fun v11 =>
aLoad false 1 v11 h fun v12 =>
Hold (W prog J 55 n0 64 (subC [1,1,0,0,0,0,1,1] (codeOf f64)) (RG.p (RG.p (RG.p (RG.p (RG.p (RG.p (RG.p (RG.p (RG.p (RG.p (RG.p (RG.p (RG.p (RG.p (RG.p (RG.p (RG.p (RG.p f 8 (vint 0)) 16 v1) 17 (f.r 7)) 18 v2) 19 v3) 20 v4) 21 v5) 22 v6) 9 v6) 23 v6) 24 v7) 25 v8) 26 v9) 27 v6) 28 v10) 29 v11) 30 v12) 8 v12) h (contX pl64 prog J 55 n0 64 ct64 [1,1,0,0,0,0,1,1] (codeOf f64) [nx0] (RetQ prog [] n0 K))))
(Hold (W prog J 55 n0 64 (subC [1,1,0,0,0,0,1,1] (codeOf f64)) (RG.p (RG.p (RG.p (RG.p (RG.p (RG.p (RG.p (RG.p (RG.p (RG.p (RG.p f 8 (vint 0)) 16 v1) 17 (f.r 7)) 18 v2) 19 v3) 20 v4) 21 v5) 22 v6) 9 v6) 23 v6) 24 v7) h (contX pl64 prog J 55 n0 64 ct64 [1,1,0,0,0,0,1,1] (codeOf f64) [nx0] (RetQ prog [] n0 K))))) := sub_eq pok64 ct64 (by kernel_rfl)
theorem l64_1 (hJ : Closed prog main J) {S : Type} (μ : S → Nat) (I : S → RG → List AObj → Prop) (hI : ∀ s f h,I s f h → heapOk h → n0 ≤ h.length → W prog J 55 n0 64 (subC [1,1,0,0] (codeOf f64)) f h (thenK (Nx n0 μ I s) (contX pl64 prog J 55 n0 64 ct64 [1,1,0] (codeOf f64) [] (RetQ prog [] n0 K))))
 {s : S} {f : RG} (hi : Gets n0 I s f h) : Sem J 55 n0 64 (subC [1,1,0] (codeOf f64)) f h (contX pl64 prog J 55 n0 64 ct64 [1,1,0] (codeOf f64) [] (RetQ prog [] n0 K)) :=
 loop_rule hJ mixed (b := subC [1,1,0,0] (codeOf f64)) (by kernel_rfl) μ I hI hi
theorem s64_2 {f : RG} {nx0 : RG → List AObj → Prop} : W prog J 55 n0 64 (subC [1,1,0,0,0,0,1,1] (codeOf f64)) f h (contX pl64 prog J 55 n0 64 ct64 [1,1,0,0,0,0,1,1] (codeOf f64) [nx0] (RetQ prog [] n0 K)) =
(aOff (f.r 4) 0 fun v1 =>
aOff v1 0 fun v2 =>
aLoad false 1 v2 h fun v3 =>
aFill [(vint 0),(vint 0),(Value.bool false)] [(0,1,v3)] fun c4 =>
aAlloc [(vint 0),(vint 0),(Value.bool false)] h fun v5 h6 =>
aStore 3 v5 (Value.agg ⟨c4⟩) h6 fun h7 =>
aLoad true 3 (f.r 4) h7 fun v8 =>
callV prog (Good prog J) (f.r 5) [v8,(f.r 8)] h7 fun v9 h10 =>
aExt v9 0 fun v11 =>
aExt v9 1 fun v12 =>
aStore 3 (f.r 4) v11 h10 fun h13 =>
aOff v5 2 fun v14 =>
aStore 1 v14 v12 h13 fun h15 =>
aLoad true 3 (f.r 4) h15 fun v16 =>
callV prog (Good prog J) (f.r 6) [v16] h15 fun v17 h18 =>
aStore 3 (f.r 4) v17 h18 fun h19 =>
aOff (f.r 4) 0 fun v20 =>
aOff v20 0 fun v21 =>
aLoad false 1 v21 h19 fun v22 =>
aOff v5 1 fun v23 =>
aStore 1 v23 v22 h19 fun h24 =>
aLoad true 3 v5 h24 fun v25 =>
callV prog (Good prog J) (f.r 0) [(f.r 7),v25] h24 fun v26 h27 =>
aUn .not v26 fun v28 =>
cnd v28
(retL n0 K f.ds [] h27)
(aBin prog .add 3 (f.r 7) (vint 1) fun v29 =>
nx0 (RG.p (RG.p (RG.p (RG.p (RG.p (RG.p (RG.p (RG.p (RG.p (RG.p (RG.p (RG.p (RG.p (RG.p (RG.p (RG.p (RG.p (RG.p (RG.p (RG.p (RG.p (RG.p (RG.p (RG.p (RG.p (RG.p (RG.p (RG.p f 31 v1) 32 v2) 33 v3) 34 (Value.agg ⟨c4⟩)) 10 v5) 36 (f.r 5)) 37 v8) 38 (f.r 8)) 39 v9) 35 v9) 40 v11) 41 v12) 42 v14) 43 (f.r 6)) 44 v16) 45 v17) 46 v20) 47 v21) 48 v22) 49 v23) 50 (f.r 0)) 51 (f.r 7)) 52 v25) 53 v26) 54 v28) 14 (f.r 7)) 15 v29) 7 v29) h27)) := sub_eq pok64 ct64 (by kernel_rfl)
end
section
variable {main : Bool} {J : JT} {n0 : Nat} {h : List AObj} {K : Value → List AObj → Prop}
theorem at19 : prog.funcs[19]? = some f19 := by kernel_rfl
theorem body19 : f19.body = some (codeOf f19) := by kernel_rfl
def pl19 : Plans := []
def ct19 : Cuts := .go
theorem pok19 : plansOk prog pl19 (codeOf f19) = true := by kernel_rfl
theorem e19 {a0 : Value} : W prog J 17 h.length 19 (codeOf f19) (RG.mk (regs [a0]) []) h (RetQ prog [.cell 2 59] h.length K) =
(aBox a0 h fun v1 h2 =>
aAlloc [(vint 0),(vint 0),(vint 0)] h2 fun v3 h4 =>
aOff v1 0 fun v5 =>
aOff v5 1 fun v6 =>
aLoad false 1 v6 h4 fun v7 =>
aOff v1 0 fun v8 =>
aOff v8 0 fun v9 =>
aLoad false 1 v9 h4 fun v10 =>
aOff v1 0 fun v11 =>
aOff v11 2 fun v12 =>
aLoad false 1 v12 h4 fun v13 =>
aBin prog .add 3 v10 v13 fun v14 =>
aMin v7 [v14] fun v15 =>
aOff v1 0 fun v16 =>
aOff v16 0 fun v17 =>
aStore 1 v17 v15 h4 fun h18 =>
aLoad true 3 v1 h18 fun v19 =>
aStore 3 v3 v19 h18 fun h20 =>
RetQ prog [.cell 2 59] h.length K .ret (RG.p (RG.p (RG.p (RG.p (RG.p (RG.p (RG.p (RG.p (RG.p (RG.p (RG.p (RG.p (RG.p (RG.p (RG.p (RG.p (RG.mk (regs [a0]) []) 1 v1) 2 v3) 3 v5) 4 v6) 5 v7) 6 v8) 7 v9) 8 v10) 9 v11) 10 v12) 11 v13) 12 v14) 13 v15) 14 v16) 15 v17) 16 v19) h20) := top_eq pok19 ct19 (by kernel_rfl)
theorem g19 (hJ : Closed prog main J) {a0 : Value} (hs : heapOk h → W prog J 17 h.length 19 (codeOf f19) (RG.mk (regs [a0]) []) h (RetQ prog [.cell 2 59] h.length K)) : Good prog J 19 [a0] h K :=
 good_of_W hJ mixed at19 body19 (by kernel_rfl) (Nat.le_of_ble_eq_true rfl) hs
theorem at22 : prog.funcs[22]? = some f22 := by kernel_rfl
theorem body22 : f22.body = some (codeOf f22) := by kernel_rfl
def pl22 : Plans := []
def ct22 : Cuts := .go
theorem pok22 : plansOk prog pl22 (codeOf f22) = true := by kernel_rfl
theorem e22 {a0 a1 : Value} : W prog J 25 h.length 22 (codeOf f22) (RG.mk (regs [a0,a1]) []) h (RetQ prog [.cell 4 59,.tmp 5] h.length K) =
(aBox a0 h fun v1 h2 =>
aAlloc [(vint 0),(vint 0),(vint 0)] h2 fun v3 h4 =>
aOff v1 0 fun v5 =>
aOff v5 0 fun v6 =>
aLoad false 1 v6 h4 fun v7 =>
aBin prog .lss 3 v7 a1 fun v8 =>
aOff v1 0 fun v9 =>
aOff v9 0 fun v10 =>
aLoad false 1 v10 h4 fun v11 =>
aOff v1 0 fun v12 =>
aOff v12 0 fun v13 =>
aLoad false 1 v13 h4 fun v14 =>
aMin v14 [a1] fun v15 =>
aBin prog .sub 3 v11 v15 fun v16 =>
aOff v1 0 fun v17 =>
aOff v17 0 fun v18 =>
aStore 1 v18 v16 h4 fun h19 =>
aLoad true 3 v1 h19 fun v20 =>
aStore 3 v3 v20 h19 fun h21 =>
RetQ prog [.cell 4 59,.tmp 5] h.length K .ret (RG.p (RG.p (RG.p (RG.p (RG.p (RG.p (RG.p (RG.p (RG.p (RG.p (RG.p (RG.p (RG.p (RG.p (RG.p (RG.p (RG.p (RG.p (RG.p (RG.p (RG.p (RG.p (RG.p (RG.mk (regs [a0,a1]) []) 2 v1) 4 v3) 5 (Value.bool false)) 7 v5) 8 v6) 9 v7) 10 a1) 11 v8) 6 v8) 12 v9) 13 v10) 14 v11) 15 v12) 16 v13) 17 v14) 18 a1) 19 v15) 20 v16) 21 v17) 22 v18) 23 v20) 24 v8) 5 v8) h21) := top_eq pok22 ct22 (by kernel_rfl)
theorem g22 (hJ : Closed prog main J) {a0 a1 : Value} (hs : heapOk h → W prog J 25 h.length 22 (codeOf f22) (RG.mk (regs [a0,a1]) []) h (RetQ prog [.cell 4 59,.tmp 5] h.length K)) : Good prog J 22 [a0,a1] h K :=
 good_of_W hJ mixed at22 body22 (by kernel_rfl) (Nat.le_of_ble_eq_true rfl) hs
end
section
variable {main : Bool} {J : JT} {n0 : Nat} {h : List AObj} {K : Value → List AObj → Prop}
theorem at40 : prog.funcs[40]? = some f40 := by kernel_rfl
theorem body40 : f40.body = some (codeOf f40) := by kernel_rfl
def pl40 : Plans := []
def ct40 : Cuts := .go
theorem pok40 : plansOk prog pl40 (codeOf f40) = true := by kernel_rfl
theorem e40 {a0 a1 a2 : Value} : W prog J 15 h.length 40 (codeOf f40) (RG.mk (regs [a0,a1,a2]) []) h (RetQ prog [.tmp 6] h.length K) =
(aBin prog .leq 3 a1 a0 fun v1 =>
cnd v1
(aBin prog .leq 3 a0 a2 fun v2 =>
retL h.length K [] [v2] h)
(retL h.length K [] [(Value.bool false)] h)) := top_eq pok40 ct40 (by kernel_rfl)
theorem g40 (hJ : Closed prog main J) {a0 a1 a2 : Value} (hs : heapOk h → W prog J 15 h.length 40 (codeOf f40) (RG.mk (regs [a0,a1,a2]) []) h (RetQ prog [.tmp 6] h.length K)) : Good prog J 40 [a0,a1,a2] h K :=
 good_of_W hJ mixed at40 body40 (by kernel_rfl) (Nat.le_of_ble_eq_true rfl) hs
theorem at39 : prog.funcs[39]? = some f39 := by kernel_rfl
theorem body39 : f39.body = some (codeOf f39) := by kernel_rfl
def pl39 : Plans := []
def ct39 : Cuts := .go
theorem pok39 : plansOk prog pl39 (codeOf f39) = true := by kernel_rfl
theorem e39 {a0 a1 a2 : Value} : W prog J 15 h.length 39 (codeOf f39) (RG.mk (regs [a0,a1,a2]) []) h (RetQ prog [.tmp 6] h.length K) =
(aBin prog .lss 3 a0 a1 fun v1 =>
cnd v1
(retL h.length K [] [(vint 7)] h)
(aBin prog .gtr 3 a0 a2 fun v2 =>
cnd v2
(retL h.length K [] [(vint 6)] h)
(retL h.length K [] [(vint 0)] h))) := top_eq pok39 ct39 (by kernel_rfl)
theorem g39 (hJ : Closed prog main J) {a0 a1 a2 : Value} (hs : heapOk h → W prog J 15 h.length 39 (codeOf f39) (RG.mk (regs [a0,a1,a2]) []) h (RetQ prog [.tmp 6] h.length K)) : Good prog J 39 [a0,a1,a2] h K :=
 good_of_W hJ mixed at39 body39 (by kernel_rfl) (Nat.le_of_ble_eq_true rfl) hs
theorem at17 : prog.funcs[17]? = some f17 := by kernel_rfl
theorem body17 : f17.body = some (codeOf f17) := by kernel_rfl
def pl17 : Plans := []
def ct17 : Cuts := .bin (.go) (.bin (.bin (.go) (.cut (.go))) (.go))
theorem pok17 : plansOk prog pl17 (codeOf f17) = true := by kernel_rfl
theorem e17 {a0 : Value} : W prog J 18 h.length 17 (codeOf f17) (RG.mk (regs [a0]) []) h (RetQ prog [.tmp 2] h.length K) =
(aBox a0 h fun v1 h2 =>
aOff v1 1 fun v3 =>
aLoad false 1 v3 h2 fun v4 =>
Good prog J 40 [v4,(vint 1),(vint 40)] h2 fun v5 h6 =>
cnd v5
(aOff v1 0 fun v7 =>
aLoad false 1 v7 h6 fun v8 =>
aOff v1 1 fun v9 =>
aLoad false 1 v9 h6 fun v10 =>
Good prog J 40 [v8,(vint 0),v10] h6 fun v11 h12 =>
cnd v11
(aOff v1 2 fun v13 =>
aLoad false 1 v13 h12 fun v14 =>
Good prog J 40 [v14,(vint 0),(vint 20)] h12 fun v15 h16 =>
Hold (W prog J 18 h.length 17 (subC [1,0,1] (codeOf f17)) (RG.p (RG.p (RG.p (RG.p (RG.p (RG.p (RG.p (RG.p (RG.p (RG.p (RG.p (RG.p (RG.p (RG.p (RG.p (RG.p (RG.p (RG.p (RG.p (RG.mk (regs [a0]) []) 1 v1) 2 (vint 0)) 3 v3) 4 v4) 5 v5) 6 v5) 6 (Value.bool true)) 7 v7) 8 v8) 9 v9) 10 v10) 11 v11) 12 v11) 13 v11) 13 (Value.bool true)) 14 v13) 15 v14) 16 v15) 17 v15) h16 (contX pl17 prog J 18 h.length 17 ct17 [1,0,1] (codeOf f17) [] (RetQ prog [.tmp 2] h.length K))))
(Hold (W prog J 18 h.length 17 (subC [1,0,1] (codeOf f17)) (RG.p (RG.p (RG.p (RG.p (RG.p (RG.p (RG.p (RG.p (RG.p (RG.p (RG.p (RG.p (RG.p (RG.p (RG.p (RG.p (RG.p (RG.p (RG.p (RG.mk (regs [a0]) []) 1 v1) 2 (vint 0)) 3 v3) 4 v4) 5 v5) 6 v5) 6 (Value.bool true)) 7 v7) 8 v8) 9 v9) 10 v10) 11 v11) 12 v11) 13 v11) 13 (Value.bool false)) 14 undef) 15 undef) 16 undef) 17 (Value.bool false)) h12 (contX pl17 prog J 18 h.length 17 ct17 [1,0,1] (codeOf f17) [] (RetQ prog [.tmp 2] h.length K)))))
(Hold (W prog J 18 h.length 17 (subC [1,0,1] (codeOf f17)) (RG.p (RG.p (RG.p (RG.p (RG.p (RG.p (RG.p (RG.p (RG.p (RG.p (RG.p (RG.p (RG.p (RG.p (RG.p (RG.p (RG.p (RG.p (RG.p (RG.mk (regs [a0]) []) 1 v1) 2 (vint 0)) 3 v3) 4 v4) 5 v5) 6 v5) 6 (Value.bool false)) 7 undef) 8 undef) 9 undef) 10 undef) 11 undef) 12 (Value.bool false)) 13 (Value.bool false)) 13 (Value.bool false)) 14 undef) 15 undef) 16 undef) 17 (Value.bool false)) h6 (contX pl17 prog J 18 h.length 17 ct17 [1,0,1] (codeOf f17) [] (RetQ prog [.tmp 2] h.length K))))) := top_eq pok17 ct17 (by kernel_rfl)
theorem g17 (hJ : Closed prog main J) {a0 : Value} (hs : heapOk h → W prog J 18 h.length 17 (codeOf f17) (RG.mk (regs [a0]) []) h (RetQ prog [.tmp 2] h.length K)) : Good prog J 17 [a0] h K :=
 good_of_W hJ mixed at17 body17 (by kernel_rfl) (Nat.le_of_ble_eq_true rfl) hs
theorem s17_1 {f : RG} : W prog J 18 n0 17 (subC [1,0,1] (codeOf f17)) f h (contX pl17 prog J 18 n0 17 ct17 [1,0,1] (codeOf f17) [] (RetQ prog [.tmp 2] n0 K)) =
(cnd (f.r 17)
(retL n0 K f.ds [(vint 0)] h)
(retL n0 K f.ds [(vint 1)] h)) := sub_eq pok17 ct17 (by kernel_rfl)
theorem at38 : prog.funcs[38]? = some f38 := by kernel_rfl
theorem body38 : f38.body = some (codeOf f38) := by kernel_rfl
def pl38 : Plans := []
def ct38 : Cuts := .bin (.go) (.bin (.go) (.bin (.go) (.bin (.bin (.go) (.un (.un (.bin (.go) (.bin (.go) (.bin (.un (.bin (.go) (.bin (.go) (.cut (.go))))) (.go))))))) (.go))))
theorem pok38 : plansOk prog pl38 (codeOf f38) = true := by kernel_rfl
theorem e38 {a0 : Value} : W prog J 38 h.length 38 (codeOf f38) (RG.mk (regs [a0]) []) h (RetQ prog [.tmp 2] h.length K) =
(aBox a0 h fun v1 h2 =>
aOff v1 0 fun v3 =>
aLoad true 3 v3 h2 fun v4 =>
Good prog J 17 [v4] h2 fun v5 h6 =>
aBin prog .neq 36 v5 (vint 0) fun v7 =>
cnd v7
(retL h.length K [] [v5] h6)
(aOff v1 3 fun v8 =>
aLoad false 1 v8 h6 fun v9 =>
aLenS v9 fun v10 =>
Good prog J 39 [v10,(vint 1),(vint 3)] h6 fun v11 h12 =>
aBin prog .neq 36 v11 (vint 0) fun v13 =>
cnd v13
(retL h.length K [] [v11] h12)
(aOff v1 3 fun v14 =>
aLoad false 1 v14 h12 fun v15 =>
aLenS v15 fun v16 =>
Sem J 38 h.length 38 (subC [1,1,1,0,1,0] (codeOf f38)) (RG.p (RG.p (RG.p (RG.p (RG.p (RG.p (RG.p (RG.p (RG.p (RG.p (RG.p (RG.p (RG.p (RG.p (RG.p (RG.p (RG.p (RG.p (RG.p (RG.mk (regs [a0]) []) 1 v1) 2 (vint 0)) 7 v3) 8 v4) 9 v5) 3 v5) 10 v5) 11 v7) 13 v8) 14 v9) 15 v10) 16 v11) 4 v11) 17 v11) 18 v13) 20 v14) 21 v15) 22 v16) 23 (vint 0)) h12 (contX pl38 prog J 38 h.length 38 ct38 [1,1,1,0,1,0] (codeOf f38) [] (RetQ prog [.tmp 2] h.length K))))) := top_eq pok38 ct38 (by kernel_rfl)
theorem g38 (hJ : Closed prog main J) {a0 : Value} (hs : heapOk h → W prog J 38 h.length 38 (codeOf f38) (RG.mk (regs [a0]) []) h (RetQ prog [.tmp 2] h.length K)) : Good prog J 38 [a0] h K :=
 good_of_W hJ mixed at38 body38 (by kernel_rfl) (Nat.le_of_ble_eq_true rfl) hs
theorem s38_1 {f : RG} {nx0 : RG → List AObj → Prop} : W prog J 38 n0 38 (subC [1,1,1,0,1,0,0] (codeOf f38)) f h (thenK nx0 (contX pl38 prog J 38 n0 38 ct38 [1,1,1,0,1,0] (codeOf f38) [] (RetQ prog [.tmp 2] n0 K))) =
(aBin prog .lss 3 (f.r 23) (f.r 22) fun v1 =>
cnd v1
(aIdx 2 (f.r 21) (f.r 23) fun v2 =>
aLoad true 2 v2 h fun v3 =>
aAlloc [(vint 0),(vint 0)] h fun v4 h5 =>
aStore 2 v4 v3 h5 fun h6 =>
aOff v4 0 fun v7 =>
aLoad false 1 v7 h6 fun v8 =>
Good prog J 40 [v8,(vint 1),(vint 40)] h6 fun v9 h10 =>
aUn .not v9 fun v11 =>
cnd v11
(Hold (W prog J 38 n0 38 (subC [1,1,1,0,1,0,0,1,1,0,0,1,1] (codeOf f38)) (RG.p (RG.p (RG.p (RG.p (RG.p (RG.p (RG.p (RG.p (RG.p (RG.p (RG.p (RG.p (RG.p (RG.p (RG.p f 24 v1) 25 v2) 26 v3) 6 v4) 27 v7) 28 v8) 29 v9) 30 v11) 31 v11) 31 (Value.bool true)) 32 undef) 33 undef) 34 undef) 35 undef) 36 (Value.bool true)) h10 (contX pl38 prog J 38 n0 38 ct38 [1,1,1,0,1,0,0,1,1,0,0,1,1] (codeOf f38) [nx0] (RetQ prog [.tmp 2] n0 K))))
(aOff v4 1 fun v12 =>
aLoad false 1 v12 h10 fun v13 =>
Good prog J 40 [v13,(vint 1),(vint 8)] h10 fun v14 h15 =>
aUn .not v14 fun v16 =>
Hold (W prog J 38 n0 38 (subC [1,1,1,0,1,0,0,1,1,0,0,1,1] (codeOf f38)) (RG.p (RG.p (RG.p (RG.p (RG.p (RG.p (RG.p (RG.p (RG.p (RG.p (RG.p (RG.p (RG.p (RG.p (RG.p f 24 v1) 25 v2) 26 v3) 6 v4) 27 v7) 28 v8) 29 v9) 30 v11) 31 v11) 31 (Value.bool false)) 32 v12) 33 v13) 34 v14) 35 v16) 36 v16) h15 (contX pl38 prog J 38 n0 38 ct38 [1,1,1,0,1,0,0,1,1,0,0,1,1] (codeOf f38) [nx0] (RetQ prog [.tmp 2] n0 K)))))
(retL n0 K f.ds [(vint 0)] h)) := sub_eq pok38 ct38 (by kernel_rfl)
theorem l38_1 (hJ : Closed prog main J) {S : Type} (μ : S → Nat) (I : S → RG → List AObj → Prop) (hI : ∀ s f h,I s f h → heapOk h → n0 ≤ h.length → W prog J 38 n0 38 (subC [1,1,1,0,1,0,0] (codeOf f38)) f h (thenK (Nx n0 μ I s) (contX pl38 prog J 38 n0 38 ct38 [1,1,1,0,1,0] (codeOf f38) [] (RetQ prog [.tmp 2] n0 K))))
 {s : S} {f : RG} (hi : Gets n0 I s f h) : Sem J 38 n0 38 (subC [1,1,1,0,1,0] (codeOf f38)) f h (contX pl38 prog J 38 n0 38 ct38 [1,1,1,0,1,0] (codeOf f38) [] (RetQ prog [.tmp 2] n0 K)) :=
 loop_rule hJ mixed (b := subC [1,1,1,0,1,0,0] (codeOf f38)) (by kernel_rfl) μ I hI hi
theorem s38_2 {f : RG} {nx0 : RG → List AObj → Prop} : W prog J 38 n0 38 (subC [1,1,1,0,1,0,0,1,1,0,0,1,1] (codeOf f38)) f h (contX pl38 prog J 38 n0 38 ct38 [1,1,1,0,1,0,0,1,1,0,0,1,1] (codeOf f38) [nx0] (RetQ prog [.tmp 2] n0 K)) =
(cnd (f.r 36)
(retL n0 K f.ds [(vint 1)] h)
(aBin prog .add 3 (f.r 23) (vint 1) fun v1 =>
nx0 (RG.p (RG.p f 37 v1) 23 v1) h)) := sub_eq pok38 ct38 (by kernel_rfl)
end
end Go.Proofs.Yteoenhhmcpipoaa
namespace Go.Proofs.Yteoenhhmcpipoaa
open Go.Conc Go.Proofs.Try
set_option maxRecDepth 100000
structure Wel where
 now : Int
 holds : Int
 fill : Int
def Wel.cells (w : Wel) : List Value := [vint w.now,vint w.holds,vint w.fill]
def Wel.val (w : Wel) : Value := .agg ⟨w.cells⟩
structure Dro where
 drinks : Int
 every : Int
def Dro.cells (d : Dro) : List Value := [vint d.drinks,vint d.every]
structure Tro where
 well : Wel
 flocks : List Dro
def troCells (t : Tro) (fv : Value) : List Value := [vint t.well.now,vint t.well.holds,vint t.well.fill,fv]
theorem dro_len (d : Dro) : d.cells.length = 2 := rfl
structure TroAt (h : List AObj) (v : Value) (t : Tro) (fv : Value) : Prop where
 val : v = .agg ⟨troCells t fv⟩
 fl : SliE h fv 2 Dro.cells t.flocks
def fewE (n lo hi : Int) : Int := if n < lo then 7 else if n > hi then 6 else 0
def welE (w : Wel) : Int := if (1 ≤ w.holds ∧ w.holds ≤ 40) ∧ (0 ≤ w.now ∧ w.now ≤ w.holds) ∧ (0 ≤ w.fill ∧ w.fill ≤ 20) then 0 else 1
def droOk (d : Dro) : Prop := (1 ≤ d.drinks ∧ d.drinks ≤ 40) ∧ (1 ≤ d.every ∧ d.every ≤ 8)
instance (d : Dro) : Decidable (droOk d) := by unfold droOk; infer_instance
def troE (t : Tro) : Int := if welE t.well ≠ 0 then welE t.well else if fewE t.flocks.length 1 3 ≠ 0 then fewE t.flocks.length 1 3 else if ∀ d ∈ t.flocks,droOk d then 0 else 1
section
variable {main : Bool} {J : JT} {h H : List AObj} {K : Value → List AObj → Prop} {KV : Value → Prop}
theorem sli_val {v : Value} {s n : Nat} {cs : List Value} (hs : Sli h v s n cs) : v.cells = #[v] ∧ one v = true ∧ kn1 v = true := by
 obtain ⟨base,c,rfl,_⟩ := hs
 exact ⟨rfl,rfl,rfl⟩
theorem tro_one {v fv : Value} {t : Tro} (a : TroAt h v t fv) : (troCells t fv).all one = true := by
 have := (sli_val a.fl).2.1
 unfold troCells
 simp only [List.all_cons,List.all_nil,this]
 rfl
theorem tro_kn {v fv : Value} {t : Tro} (a : TroAt h v t fv) : kn (troCells t fv) = true := by
 have := (sli_val a.fl).2.2
 unfold troCells kn
 simp only [List.all_cons,List.all_nil,this]
 rfl
theorem good40 (hJ : Closed prog main J) {n lo hi : Int} (hK : K (.bool (decide (lo ≤ n ∧ n ≤ hi))) h) : Good prog J 40 [vint n,vint lo,vint hi] h K := by
 refine g40 hJ fun ok => ?_
 rw [e40]
 refine leqI (cndI (fun h1 => leqI (retL_same (by simp [unk]) ?_)) fun h1 => retL_same (by simp [unk]) ?_)
 ·simpa [pack,h1] using hK
 ·simpa [pack,h1] using hK
theorem good39 (hJ : Closed prog main J) {n lo hi : Int} (hK : K (vint (fewE n lo hi)) h) : Good prog J 39 [vint n,vint lo,vint hi] h K := by
 refine g39 hJ fun ok => ?_
 rw [e39]
 refine lssI (cndI (fun h1 => retL_same (by simp [unk]) ?_) fun h1 => gtrI (cndI (fun h2 => retL_same (by simp [unk]) ?_) fun h2 => retL_same (by simp [unk]) ?_))
 ·simpa [fewE,h1,pack] using hK
 ·simpa [fewE,h1,h2,pack] using hK
 ·simpa [fewE,h1,h2,pack] using hK
theorem good17 (hJ : Closed prog main J) {w : Wel} (hK : K (vint (welE w)) h) : Good prog J 17 [w.val] h K := by
 refine g17 hJ fun ok => ?_
 rw [e17]
 refine qBox (l := w.cells) rfl fun H1 p1 e1 S1 c1 l1 => ?_
 have fin : ∀ e : Int,welE w = e → retL h.length K [] [vint e] H1 := fun e he => by
  subst he
  exact retX ok (Nat.le_refl _) S1 (by simp) (by simp [unk]) (by simp [pack,VOk]) hK
 refine offI (ldI (v := vint w.holds) c1 rfl rfl (good40 hJ (cndI (fun h1 => ?_) fun h1 => hold.2 ?_)))
 ·refine offI (ldI (v := vint w.now) c1 rfl rfl (offI (ldI (v := vint w.holds) c1 rfl rfl (good40 hJ (cndI (fun h2 => ?_) fun h2 => hold.2 ?_)))))
  ·refine offI (ldI (v := vint w.fill) c1 rfl rfl (good40 hJ (hold.2 ?_)))
   rw [s17_1]
   refine cndI (fun h3 => fin 0 ?_) fun h3 => fin 1 ?_
   ·unfold welE; rw [if_pos ⟨h1,h2,h3⟩]
   ·unfold welE; rw [if_neg fun x => h3 x.2.2]
  ·rw [s17_1]
   exact cnd_false.2 (fin 1 (by unfold welE; rw [if_neg fun x => h2 x.2.1]))
 ·rw [s17_1]
  exact cnd_false.2 (fin 1 (by unfold welE; rw [if_neg fun x => h1 x.1]))
theorem good38 (hJ : Closed prog main J) {v fv : Value} {t : Tro} (ht : TroAt h v t fv) (hK : K (vint (troE t)) h) : Good prog J 38 [v] h K := by
 refine g38 hJ fun ok => ?_
 rw [e38,ht.val]
 refine qBox (tro_one ht) fun H1 p1 e1 S1 c1 l1 => ?_
 have t1 : TroAt H1 (.agg ⟨troCells t fv⟩) t fv := ⟨rfl,S1.sli ht.fl (by simp)⟩
 have kf := (sli_val ht.fl).2.2
 have fin : ∀ {n0 : Nat} {H : List AObj} (e : Int),n0 = h.length → SameX [] h H → heapOk H → troE t = e → retL n0 K [] [vint e] H := fun e hn S okH he => by
  subst he hn
  exact retX ok (Nat.le_refl _) S (by simp) (by simp [unk]) (by simp [pack,VOk]) hK
 have fin1 : ∀ {H : List AObj} (e : Int),SameX [] h H → troE t = e → retL h.length K [] [vint e] H := fun e S he => by
  subst he
  exact retX ok (Nat.le_refl _) S (by simp) (by simp [unk]) (by simp [pack,VOk]) hK
 refine offI (load_part (c := t.well.cells) c1 (by simp [troCells]) rfl rfl (good17 hJ ?_))
 refine neqI (cndI (fun h1 => fin1 _ S1 ?_) fun h1 => ?_)
 ·unfold troE; rw [if_pos h1]
 refine offI (ldI (v := fv) c1 rfl kf (lenI t1.fl (good39 hJ ?_)))
 refine neqI (cndI (fun h2 => fin1 _ S1 ?_) fun h2 => ?_)
 ·unfold troE; rw [if_neg h1,if_pos h2]
 refine offI (ldI (v := fv) c1 rfl kf (lenI t1.fl ?_))
 have hlen : t.flocks.length ≤ 3 := by
  have : fewE t.flocks.length 1 3 = 0 := by simpa using h2
  unfold fewE at this
  split at this
  ·cases this
  ·split at this
   ·cases this
   ·omega
 refine l38_1 hJ (fun i : Nat => t.flocks.length - i) (fun i f H => SameX [] h H ∧ H[p1]? = some (.cells (troCells t fv) true 0) ∧ i ≤ t.flocks.length ∧ (∀ d ∈ t.flocks.take i,droOk d) ∧ f.ds = [] ∧ f.r 21 = fv ∧ f.r 22 = vint t.flocks.length ∧ f.r 23 = vint (i : Nat)) ?_ (s := 0)
  (.inl ⟨S1,c1,by omega,by simp,rfl,rfl,rfl,rfl⟩)
 rintro i f H ⟨S,cp,hi,hd,hds,r21,r22,r23⟩ ok' hn'
 rw [s38_1,r21,r22,r23,hds]
 refine lssI (cndI (fun hlt => ?_) fun hge => fin1 0 S (by
  have : i = t.flocks.length := by omega
  subst this
  rw [List.take_length] at hd
  unfold troE
  rw [if_neg h1,if_neg h2,if_pos hd]))
 have hil : i < t.flocks.length := by omega
 have tS : SliE H fv 2 Dro.cells t.flocks := S.sli ht.fl (by simp)
 obtain ⟨b,o,cs,wr,sz,hidx,hb,hol,hft,hkn⟩ := sliE_elem dro_len (by omega) tS hil
 refine hidx _ (load_part hb hol hft hkn ?_)
 refine qAl fun H2 p2 e2 S2 c2 l2 => qStA (c := t.flocks[i].cells) c2 rfl rfl rfl fun H3 S3 c3 l3 => ?_
 have S13 : SameX [] H H3 := (SameX.refl.trans S2).thru S3 (by simp; omega)
 have hta : ∀ (x : droOk t.flocks[i]),∀ d ∈ t.flocks.take (i + 1),droOk d := fun x d hm => by
  rw [List.take_add_one,List.getElem?_eq_getElem hil] at hm
  rcases List.mem_append.1 hm with hm | hm
  ·exact hd d hm
  ·have : d = t.flocks[i] := by simpa using hm
   exact this ▸ x
 have hbad : ¬ droOk t.flocks[i] → troE t = 1 := fun x => by
  unfold troE
  rw [if_neg h1,if_neg h2,if_neg fun hall => x (hall _ (List.getElem_mem hil))]
 refine offI (ldI (v := vint t.flocks[i].drinks) c3 rfl rfl (good40 hJ (notI (cndN (fun g1 => hold.2 ?_) fun g1 => ?_))))
 ·rw [s38_2]
  exact cnd_true.2 (by show retL h.length K f.ds [vint 1] H3; rw [hds]; exact fin1 1 (S.trans S13) (hbad fun x => g1 x.1))
 ·refine offI (ldI (v := vint t.flocks[i].every) c3 rfl rfl (good40 hJ (notI (hold.2 ?_))))
  rw [s38_2]
  refine cndN (fun g2 => ?_) fun g2 => ?_
  ·show retL h.length K f.ds [vint 1] H3
   rw [hds]
   exact fin1 1 (S.trans S13) (hbad fun x => g2 x.2)
  ·show aBin prog .add 3 (f.r 23) (vint 1) _
   rw [r23]
   refine addI (by omega) ?_
   exact ⟨i + 1,by dsimp only; omega,.inl ⟨S.trans S13,S13.get cp (by simp),by omega,hta ⟨g1,g2⟩,hds,r21,r22,by show vint _ = vint _; congr 1⟩⟩
end
def Wel.filled (w : Wel) : Wel := { w with now := min w.holds (w.now + w.fill) }
def Wel.drunk (w : Wel) (n : Int) : Wel := { w with now := w.now - min w.now n }
def Wel.sm (w : Wel) : Prop := (-1000000 ≤ w.now ∧ w.now ≤ 1000000) ∧ (-1000000 ≤ w.holds ∧ w.holds ≤ 1000000) ∧ (-1000000 ≤ w.fill ∧ w.fill ≤ 1000000)
section
variable {main : Bool} {J : JT} {h H : List AObj} {K : Value → List AObj → Prop} {KV : Value → Prop}
theorem wel_ok {n : Nat} (w : Wel) : VOk n w.val := by simp [Wel.val,Wel.cells,VOk,AOk,LOk]
theorem good19 (hJ : Closed prog main J) {w : Wel} (hw : w.sm) (hK : K w.filled.val h) : Good prog J 19 [w.val] h K := by
 obtain ⟨_,_,_⟩ := hw
 refine g19 hJ fun ok => ?_
 rw [e19]
 refine qBox (l := w.cells) rfl fun H1 p1 e1 S1 c1 l1 => qAl fun H2 p2 e2 S2 c2 l2 => ?_
 have c1' := S2.get c1 (by simp)
 refine offI (offI (ldI (v := vint w.holds) c1' rfl rfl (offI (offI (ldI (v := vint w.now) c1' rfl rfl (offI (offI (ldI (v := vint w.fill) c1' rfl rfl (addI (by omega) (minI ?_))))))))))
 refine offI (offI (qSt c1' (by simp [Wel.cells]) rfl rfl fun H3 S3 c3 l3 => ?_))
 refine load_part (c := w.filled.cells) c3 (by simp [Wel.cells]) rfl rfl ?_
 have c2' := S3.get c2 (by simp; omega)
 refine qStA (c := w.filled.cells) c2' rfl rfl rfl fun H4 S4 c4 l4 => ?_
 have S : SameX [] h H4 := ((S1.trans S2).thru S3 (by simp; omega)).thru S4 (by simp; omega)
 obtain ⟨g,rfl⟩ := S.app0 (by simp)
 refine retQ_drop rfl ok (Nat.le_refl _) (resW_cell (gg := true) (s := 3) (by kernel_rfl) ?_)
 refine load_part (c := w.filled.cells) c4 (by simp [Wel.cells]) rfl rfl (resW_nil ⟨wel_ok _,hK⟩)
theorem good22 (hJ : Closed prog main J) {w : Wel} {n : Int} (hw : w.sm) (hn : -1000000 ≤ n ∧ n ≤ 1000000) (hK : K (.tuple ⟨[(w.drunk n).val,.bool (decide (w.now < n))]⟩) h) : Good prog J 22 [w.val,vint n] h K := by
 obtain ⟨_,_,_⟩ := hw
 refine g22 hJ fun ok => ?_
 rw [e22]
 refine qBox (l := w.cells) rfl fun H1 p1 e1 S1 c1 l1 => qAl fun H2 p2 e2 S2 c2 l2 => ?_
 have c1' := S2.get c1 (by simp)
 refine offI (offI (ldI (v := vint w.now) c1' rfl rfl (lssI (offI (offI (ldI (v := vint w.now) c1' rfl rfl (offI (offI (ldI (v := vint w.now) c1' rfl rfl (minI (subI (by omega) ?_)))))))))))
 refine offI (offI (qSt c1' (by simp [Wel.cells]) rfl rfl fun H3 S3 c3 l3 => ?_))
 refine load_part (c := (w.drunk n).cells) c3 (by simp [Wel.cells]) rfl rfl ?_
 have c2' := S3.get c2 (by simp; omega)
 refine qStA (c := (w.drunk n).cells) c2' rfl rfl rfl fun H4 S4 c4 l4 => ?_
 have S : SameX [] h H4 := ((S1.trans S2).thru S3 (by simp; omega)).thru S4 (by simp; omega)
 obtain ⟨g,rfl⟩ := S.app0 (by simp)
 refine retQ_drop rfl ok (Nat.le_refl _) (resW_cell (gg := true) (s := 3) (by kernel_rfl) ?_)
 refine load_part (c := (w.drunk n).cells) c4 (by simp [Wel.cells]) rfl rfl (resW_tmp (by intro e; cases e) (resW_nil ⟨?_,hK⟩))
 show VOk h.length (.tuple ⟨[(w.drunk n).val,.bool (decide (w.now < n))]⟩)
 simp [VOk,AOk,LOk,Wel.val,Wel.cells]
end
structure Srv where
 now : Int
 next : Nat
 hour : Nat
 wait : Int
def droAt (t : Tro) (i : Nat) : Dro := t.flocks.getD i ⟨0,0⟩
theorem troE_well {t : Tro} (h : troE t = 0) : ((1 ≤ t.well.holds ∧ t.well.holds ≤ 40) ∧ (0 ≤ t.well.now ∧ t.well.now ≤ t.well.holds) ∧ (0 ≤ t.well.fill ∧ t.well.fill ≤ 20)) ∧ (1 ≤ t.flocks.length ∧ t.flocks.length ≤ 3) ∧ ∀ d ∈ t.flocks,droOk d := by
 unfold troE at h
 split at h
 ·rename_i x
  exact absurd h x
 ·rename_i x
  split at h
  ·rename_i y
   exact absurd h y
  ·rename_i y
   split at h
   ·rename_i z
    refine ⟨?_,?_,z⟩
    ·unfold welE at x
     split at x
     ·assumption
     ·exact absurd (by decide) x
    ·unfold fewE at y
     split at y
     ·exact absurd (by decide) y
     ·split at y
      ·exact absurd (by decide) y
      ·omega
   ·cases h
section
variable {main : Bool} {J : JT} {h H : List AObj} {K : Value → List AObj → Prop} {KV : Value → Prop}
theorem sli_num {v : Value} {xs : List Int} (hs : Sli h v 1 xs.length (xs.map vint)) {i : Nat} {x : Int} (hx : xs[i]? = some x) (hk : ∀ p,KV p → True) {K2 : Value → Value → Prop} (hK : ∀ p,K2 p (vint x)) : aIdx 1 v (vint (i : Nat)) fun p => aLoad false 1 p h (K2 p) := by
 have hi : i < xs.length := (List.getElem?_eq_some_iff.1 hx).1
 exact idx_load hs ⟨by omega,by omega⟩ (by rw [Int.toNat_natCast,List.getElem?_map,hx]; rfl) hK
theorem sli_num' {v : Value} {xs : List Int} (hs : Sli h v 1 xs.length (xs.map vint)) {i : Nat} {x : Int} (hx : xs[i]? = some x) {K2 : Value → Value → Prop} (hK : ∀ p,K2 p (vint x)) : aIdx 1 v (vint (i : Nat)) fun p => aLoad false 1 p h (K2 p) :=
 sli_num hs (KV := fun _ => True) hx (fun _ _ => trivial) hK
theorem vext0 {a b : Value} (hk : KV a) : aExt (.tuple ⟨[a,b]⟩) 0 KV := hk
theorem vext1 {a b : Value} (hk : KV b) : aExt (.tuple ⟨[a,b]⟩) 1 KV := hk
end
section
variable {main : Bool} {J : JT} {h : List AObj} {K : Value → List AObj → Prop}
theorem fill_one {m : List Value} {o s : Nat} {v : Value} {l : List Value} {ps : List (Nat × Nat × Value)} {KL : List Value → Prop} (hv : v.cells.toList = l) (hs : l.length = s) (ho : l.all one = true) (hl : o + s ≤ m.length) (hk : aFill (wrAt m o l) ps KL) : aFill m ((o,s,v) :: ps) KL := by
 subst hv
 exact ⟨hs,ho,hl,hk⟩
theorem retQ_same {n0 : Nat} {rs : List ResultVar} {f : RG} (ds : f.ds = []) (hr : resW prog rs f.r h fun vs => K (pack vs) h) : RetQ prog rs n0 K .ret f h := by
 unfold RetQ
 rw [ds]
 exact resW_imp rs hr fun vs hk => .inl hk
end
def rotaE (t : Tro) (rota : List Int) : Int := if troE t ≠ 0 then troE t else if fewE rota.length 1 5 ≠ 0 then fewE rota.length 1 5 else if ∀ r ∈ rota,-1 ≤ r ∧ r ≤ (t.flocks.length : Int) - 1 then 0 else 3
section
variable {main : Bool} {J : JT} {h : List AObj} {K : Value → List AObj → Prop}
theorem good15 (hJ : Closed prog main J) {v fv rv : Value} {t : Tro} {rota : List Int} (ht : TroAt h v t fv) (hr : Sli h rv 1 rota.length (rota.map vint)) (hl : t.flocks.length ≤ 1000000) (hK : K (vint (rotaE t rota)) h) : Good prog J 15 [v,rv] h K := by
 refine g15 hJ fun ok => ?_
 rw [e15,ht.val]
 refine qBox (tro_one ht) fun H1 p2 e1 S1 c1 l1 => ?_
 have t1 : TroAt H1 (.agg ⟨troCells t fv⟩) t fv := ⟨rfl,S1.sli ht.fl (by simp)⟩
 have kf := (sli_val ht.fl).2.2
 have r1 : Sli H1 rv 1 rota.length (rota.map vint) := S1.sli hr (by simp)
 have fin : ∀ (e : Int) (n0 : Nat),n0 = h.length → rotaE t rota = e → retL n0 K [] [vint e] H1 := fun e n0 hn he => by
  subst he hn
  exact retX ok (Nat.le_refl _) S1 (by simp) (by simp [unk]) (by simp [pack,VOk]) hK
 refine load_part (c := troCells t fv) c1 (by simp [troCells]) rfl (by simp [kn,troCells,kf]; exact ⟨rfl,rfl,rfl⟩) (good38 hJ t1 ?_)
 refine neqI (cndI (fun g1 => fin _ _ rfl (by unfold rotaE; rw [if_pos g1])) fun g1 => ?_)
 refine lenI r1 (good39 hJ (neqI (cndI (fun g2 => fin _ _ rfl (by unfold rotaE; rw [if_neg g1,if_pos g2])) fun g2 => lenI r1 ?_)))
 have hlen : rota.length ≤ 5 := by
  have g2 : fewE rota.length 1 5 = 0 := by omega
  unfold fewE at g2
  split at g2
  ·cases g2
  ·split at g2
   ·cases g2
   ·omega
 refine l15_1 hJ (fun i : Nat => rota.length - i) (fun i f H => H1 = H ∧ i ≤ rota.length ∧ (∀ r ∈ rota.take i,-1 ≤ r ∧ r ≤ (t.flocks.length : Int) - 1) ∧ f.ds = [] ∧ f.r 2 = ptr p2 0 ∧ f.r 20 = rv ∧ f.r 21 = vint (rota.length : Nat) ∧ f.r 22 = vint (i : Nat)) ?_ (s := 0)
  (.inl ⟨rfl,by omega,by simp,rfl,rfl,rfl,rfl,rfl⟩)
 rintro i f H ⟨e,hi,hd,ds,r2,r20,r21,r22⟩ _ _
 subst e
 rw [s15_1,ds,r2,r20,r21,r22]
 refine lssI (cndI (fun g => ?_) fun g => fin 0 _ rfl ?_)
 ·have hil : i < rota.length := by omega
  have hx := List.getElem?_eq_getElem hil
  refine sli_num' r1 hx fun q => offI (ldI (v := fv) c1 rfl kf (lenI t1.fl (subI (by omega) (good40 hJ (notI (cndN (fun g3 => fin 3 _ rfl ?_) fun g3 => addI (by omega) ?_))))))
  ·unfold rotaE
   rw [if_neg g1,if_neg g2,if_neg fun y => g3 (y _ (List.getElem_mem hil))]
  ·refine ⟨i + 1,by show rota.length - (i + 1) < rota.length - i; omega,.inl ⟨rfl,by omega,?_,ds,r2,r20,r21,?_⟩⟩
   ·intro c hcm
    rw [List.take_add_one,hx] at hcm
    rcases List.mem_append.1 hcm with y | y
    ·exact hd c y
    ·simp at y
     subst y
     exact g3
   ·show vint _ = vint _
    congr 1
 ·have hin : i = rota.length := by omega
  subst hin
  rw [List.take_length] at hd
  unfold rotaE
  rw [if_neg g1,if_neg g2,if_pos hd]
end
end Go.Proofs.Yteoenhhmcpipoaa
namespace Go.Proofs.Yteoenhhmcpipoaa
open Go.Conc Go.Proofs.Try
set_option maxRecDepth 100000
set_option maxHeartbeats 4000000
set_option linter.unusedVariables false
section
variable {main : Bool} {J : JT} {n0 : Nat} {h : List AObj} {K : Value → List AObj → Prop}
theorem at8 : prog.funcs[8]? = some f8 := by kernel_rfl
theorem body8 : f8.body = some (codeOf f8) := by kernel_rfl
def pl8 : Plans := [(2,false,.take 0 (.take 1 (.take 2 (.take 3 (.take 4 (.take 5 (.take 9 (.take 10 (.last 6 true (.last 7 true (.last 8 true (.take 14 (.last 11 true (.last 12 true (.last 13 true (.last 15 false (.take 16 (.last 17 false (.fin)))))))))))))))))))]
def ct8 : Cuts := .go
theorem pok8 : plansOk prog pl8 (codeOf f8) = true := by kernel_rfl
theorem e8 {a0 a1 : Value} : W prog J 29 h.length 8 (codeOf f8) (RG.mk (regs [a0,a1]) []) h (RetQ prog [.cell 4 34] h.length K) =
(aAlloc [(vint 0),(vint 0),(vint 0)] h fun v1 h2 =>
aMin a1 [(vint 40)] fun v3 =>
aMax (vint 2) [v3] fun v4 =>
Good prog J 5 [a0,(vint 2),v4] h2 fun v5 h6 =>
aFill [(vint 0),(vint 0),(vint 0)] [(1,1,v5)] fun c7 =>
aAlloc [(vint 0),(vint 0),(vint 0)] h6 fun v8 h9 =>
aStore 3 v8 (Value.agg ⟨c7⟩) h9 fun h10 =>
(∃ B,aOff v8 1 fun v11 =>
aLoad false 1 v11 h10 fun v12 =>
RdOk (some B) (ptrBlk v11) ∧ (aOff v8 1 fun v13 =>
aLoad false 1 v13 h10 fun v14 =>
RdOk (some B) (ptrBlk v13) ∧ (Good prog J 13 [a0,v14] h10 fun v15 h16 =>
SameB (some B) h10 h16 ∧ ((((1 * 1 : Nat) ≤ 16777216 ∧ (1 : Nat) ≤ 16777216 ∧ List.length [(vint 0)] = 1) ∧ aFill (zrep [(vint 0)] 1) [(0,1,v15)] fun c17 =>
aNewS 1 c17 h16 fun v18 h19 =>
SameB (some B) h10 h19 ∧ (Good prog J 14 [a0,v12,v18] h19 fun v20 h21 =>
SameB (some B) h10 h21 ∧ (aOff v8 0 fun v22 =>
Good prog J 13 [a0,(vint 6)] h21 fun v23 h24 =>
SameB (some B) h10 h24 ∧ ((((3 * 1 : Nat) ≤ 16777216 ∧ (3 : Nat) ≤ 16777216 ∧ List.length [(vint 0)] = 1) ∧ aFill (zrep [(vint 0)] 3) [(0,1,(vint 2)),(1,1,(vint 3)),(2,1,v23)] fun c25 =>
aNewS 3 c25 h24 fun v26 h27 =>
SameB (some B) h10 h27 ∧ (Good prog J 14 [a0,(vint 1),v26] h27 fun v28 h29 =>
SameB (some B) h10 h29 ∧ (aStore 1 v22 v20 h29 fun h30 =>
aOff v8 2 fun v31 =>
aStore 1 v31 v28 h30 fun h32 =>
aLoad true 3 v8 h32 fun v33 =>
aStore 3 v1 v33 h32 fun h34 =>
RetQ prog [.cell 4 34] h.length K .ret (RG.p (RG.p (RG.p (RG.p (RG.p (RG.p (RG.p (RG.p (RG.p (RG.p (RG.p (RG.p (RG.p (RG.p (RG.p (RG.p (RG.p (RG.p (RG.p (RG.p (RG.p (RG.p (RG.p (RG.p (RG.p (RG.mk (regs [a0,a1]) []) 4 v1) 6 a0) 7 a1) 8 v3) 9 v4) 10 v5) 11 (Value.agg ⟨c7⟩)) 5 v8) 12 a0) 13 v11) 14 v12) 15 a0) 16 v13) 17 v14) 21 a0) 22 a0) 18 v15) 19 v18) 20 v20) 26 v22) 23 v23) 24 v26) 25 v28) 27 v31) 28 v33) h34)))))))))))) := top_eq pok8 ct8 (by kernel_rfl)
theorem g8 (hJ : Closed prog main J) {a0 a1 : Value} (hs : heapOk h → W prog J 29 h.length 8 (codeOf f8) (RG.mk (regs [a0,a1]) []) h (RetQ prog [.cell 4 34] h.length K)) : Good prog J 8 [a0,a1] h K :=
 good_of_W hJ mixed at8 body8 (by kernel_rfl) (Nat.le_of_ble_eq_true rfl) hs
end
end Go.Proofs.Yteoenhhmcpipoaa
namespace Go.Proofs.Yteoenhhmcpipoaa
open Go.Conc Go.Proofs.Try
def drinkOf (t : Tro) (who : Int) : Int := if 0 ≤ who then (droAt t who.toNat).drinks else 0
def nextL (t : Tro) (who now : Int) : Int := min t.well.holds (now - min now (drinkOf t who) + t.well.fill)
def turnOf (r : List Int) (h : Nat) : Int := r.getD (h % r.length) 0
def lvl (t : Tro) (r : List Int) : Nat → Int
 | 0 => t.well.now
 | h + 1 => nextL t (turnOf r h) (lvl t r h)
def dry (t : Tro) (r : List Int) (h : Nat) : Prop := lvl t r h < drinkOf t (turnOf r h)
instance (t : Tro) (r : List Int) (h : Nat) : Decidable (dry t r h) := by unfold dry; infer_instance
structure TroFine (t : Tro) : Prop where
 holds : 1 ≤ t.well.holds ∧ t.well.holds ≤ 40
 now : 0 ≤ t.well.now ∧ t.well.now ≤ t.well.holds
 fill : 0 ≤ t.well.fill ∧ t.well.fill ≤ 20
 len : 1 ≤ t.flocks.length ∧ t.flocks.length ≤ 3
 dro : ∀ d ∈ t.flocks,droOk d
theorem troE_fine {t : Tro} (h : troE t = 0) : TroFine t := by
 obtain ⟨⟨a,b,c⟩,d,e⟩ := troE_well h
 exact ⟨a,b,c,d,e⟩
structure RotaFine (t : Tro) (r : List Int) : Prop where
 len : 1 ≤ r.length ∧ r.length ≤ 5
 who : ∀ n ∈ r,-1 ≤ n ∧ n < t.flocks.length
section
variable {t x : Tro} {r : List Int} {h k a b : Nat}
theorem droAt_mem {i : Nat} (hi : i < t.flocks.length) : droAt t i = t.flocks[i] := by
 unfold droAt
 rw [List.getD_eq_getElem?_getD,List.getElem?_eq_getElem hi]
 rfl
theorem drink_bd (f : TroFine t) (who : Int) : 0 ≤ drinkOf t who ∧ drinkOf t who ≤ 40 := by
 unfold drinkOf
 split
 ·rcases Nat.lt_or_ge who.toNat t.flocks.length with hi | hi
  ·rw [droAt_mem hi]
   have := (f.dro _ (List.getElem_mem hi)).1
   omega
  ·unfold droAt
   rw [List.getD_eq_getElem?_getD,List.getElem?_eq_none hi]
   exact ⟨Int.le_refl _,by decide⟩
 ·omega
theorem turnOf_mem (hr : r ≠ []) (h : Nat) : turnOf r h ∈ r := by
 have hp : 0 < r.length := by cases r <;> simp at hr ⊢
 have := Nat.mod_lt h hp
 unfold turnOf
 rw [List.getD_eq_getElem?_getD,List.getElem?_eq_getElem this]
 exact List.getElem_mem this
theorem nextL_bd (f : TroFine t) {who now : Int} (h0 : 0 ≤ now) (h1 : now ≤ t.well.holds) : 0 ≤ nextL t who now ∧ nextL t who now ≤ t.well.holds := by
 have := drink_bd f who
 have := f.holds
 have := f.fill
 unfold nextL
 omega
theorem lvl_bd (f : TroFine t) : ∀ h : Nat,0 ≤ lvl t r h ∧ lvl t r h ≤ t.well.holds
 | 0 => f.now
 | h + 1 => nextL_bd f (lvl_bd f h).1 (lvl_bd f h).2
theorem turnOf_congr (hm : a % r.length = b % r.length) (k : Nat) : turnOf r (a + k) = turnOf r (b + k) := by
 unfold turnOf
 rw [Nat.add_mod a,Nat.add_mod b,hm]
theorem lvl_congr (hl : lvl t r a = lvl t r b) (hm : a % r.length = b % r.length) : ∀ k : Nat,lvl t r (a + k) = lvl t r (b + k)
 | 0 => hl
 | k + 1 => by
  show nextL t (turnOf r (a + k)) (lvl t r (a + k)) = nextL t (turnOf r (b + k)) (lvl t r (b + k))
  rw [lvl_congr hl hm k,turnOf_congr hm k]
theorem dry_congr (hl : lvl t r a = lvl t r b) (hm : a % r.length = b % r.length) (k : Nat) : dry t r (a + k) ↔ dry t r (b + k) := by
 unfold dry
 rw [lvl_congr hl hm k,turnOf_congr hm k]
theorem dry_back {i j : Nat} (hij : i < j) (hl : lvl t r i = lvl t r j) (hm : i % r.length = j % r.length) (hn : ∀ h,h < j → ¬ dry t r h) : ∀ h,¬ dry t r h := by
 intro h
 induction h using Nat.strongRecOn with
 | ind h ih =>
  rcases Nat.lt_or_ge h j with x | x
  ·exact hn h x
  ·have := dry_congr hl hm (h - j)
   rw [show j + (h - j) = h from by omega] at this
   rw [← this]
   exact ih _ (by omega)
theorem pigeon : ∀ (N : Nat) (f : Nat → Nat),(∀ i,i ≤ N → f i < N) → ∃ i j,i < j ∧ j ≤ N ∧ f i = f j
 | 0,f,hf => absurd (hf 0 (Nat.le_refl _)) (Nat.not_lt_zero _)
 | N + 1,f,hf => by
  by_cases hx : ∃ i,i ≤ N ∧ f i = f (N + 1)
  ·obtain ⟨i,hi,e⟩ := hx
   exact ⟨i,N + 1,by omega,Nat.le_refl _,e⟩
  ·obtain ⟨i,j,h1,h2,h3⟩ := pigeon N (fun i => if f i > f (N + 1) then f i - 1 else f i) (fun i hi => by
    have h1 := hf i (by omega)
    have h2 := hf (N + 1) (Nat.le_refl _)
    have h3 : f i ≠ f (N + 1) := fun e => hx ⟨i,hi,e⟩
    split <;> omega)
   refine ⟨i,j,h1,by omega,?_⟩
   have n1 : f i ≠ f (N + 1) := fun e => hx ⟨i,by omega,e⟩
   have n2 : f j ≠ f (N + 1) := fun e => hx ⟨j,h2,e⟩
   split at h3 <;> split at h3 <;> omega
theorem code_inj {n a b c d : Nat} (hb : b < n) (hd : d < n) (h : a * n + b = c * n + d) : a = c ∧ b = d := by
 have h1 : (a * n + b) / n = (c * n + d) / n := by rw [h]
 have h2 : (a * n + b) % n = (c * n + d) % n := by rw [h]
 rw [Nat.mul_comm a,Nat.mul_comm c,Nat.mul_add_div (by omega),Nat.mul_add_div (by omega),Nat.div_eq_of_lt hb,Nat.div_eq_of_lt hd] at h1
 rw [Nat.mul_comm a,Nat.mul_comm c,Nat.mul_add_mod,Nat.mul_add_mod,Nat.mod_eq_of_lt hb,Nat.mod_eq_of_lt hd] at h2
 omega
theorem code_lt {n H a b : Nat} (hb : b < n) (ha : a ≤ H) : a * n + b < (H + 1) * n := by
 have := Nat.mul_le_mul_right n ha
 rw [Nat.succ_mul]
 omega
def bound (t : Tro) (r : List Int) : Nat := (t.well.holds.toNat + 1) * r.length
theorem never (f : TroFine t) (hr : r ≠ []) (hn : ∀ h,h < bound t r → ¬ dry t r h) : ∀ h,¬ dry t r h := by
 have hp : 0 < r.length := by cases r <;> simp at hr ⊢
 obtain ⟨i,j,hij,hj,e⟩ := pigeon (bound t r) (fun h => (lvl t r h).toNat * r.length + h % r.length) (fun h _ => by
  have := lvl_bd (r := r) f h
  exact code_lt (Nat.mod_lt h hp) (by omega))
 obtain ⟨e1,e2⟩ := code_inj (Nat.mod_lt i hp) (Nat.mod_lt j hp) e
 have b1 := lvl_bd (r := r) f i
 have b2 := lvl_bd (r := r) f j
 exact dry_back hij (by omega) e2 fun h hh => hn h (by omega)
theorem bound_le (f : TroFine t) (g : r.length ≤ 5) : bound t r ≤ 205 := by
 have := f.holds
 have h2 : t.well.holds.toNat + 1 ≤ 41 := by omega
 exact Nat.mul_le_mul h2 g
def firstH (p : Nat → Prop) [DecidablePred p] : Nat → Int
 | 0 => -1
 | n + 1 => if firstH p n < 0 then (if p n then n else -1) else firstH p n
theorem firstH_neg {p : Nat → Prop} [DecidablePred p] : ∀ {n : Nat},firstH p n < 0 → firstH p n = -1 ∧ ∀ h,h < n → ¬ p h
 | 0,_ => ⟨rfl,fun h hh => absurd hh (Nat.not_lt_zero _)⟩
 | n + 1,hl => by
  unfold firstH at hl ⊢
  split at hl
  ·rename_i hx
   rw [if_pos hx]
   split at hl
   ·omega
   ·rename_i hp
    rw [if_neg hp]
    refine ⟨rfl,fun h hh => ?_⟩
    rcases Nat.lt_or_ge h n with y | y
    ·exact (firstH_neg hx).2 h y
    ·rwa [show h = n from by omega]
  ·omega
theorem firstH_pos {p : Nat → Prop} [DecidablePred p] : ∀ {n : Nat},0 ≤ firstH p n → ∃ k : Nat,firstH p n = k ∧ k < n ∧ p k ∧ ∀ h,h < k → ¬ p h
 | 0,hl => by simp [firstH] at hl
 | n + 1,hl => by
  unfold firstH at hl ⊢
  split at hl
  ·rename_i hx
   rw [if_pos hx]
   split at hl
   ·rename_i hp
    rw [if_pos hp]
    exact ⟨n,rfl,by omega,hp,(firstH_neg hx).2⟩
   ·simp at hl
  ·rename_i hx
   rw [if_neg hx]
   obtain ⟨k,a,b,c,d⟩ := firstH_pos (p := p) (n := n) (by omega)
   exact ⟨k,a,by omega,c,d⟩
theorem firstH_at {p : Nat → Prop} [DecidablePred p] {n k : Nat} (hk : k < n) (hp : p k) (hn : ∀ h,h < k → ¬ p h) : firstH p n = k := by
 rcases Int.lt_or_le (firstH p n) 0 with x | x
 ·exact absurd hp ((firstH_neg x).2 k hk)
 ·obtain ⟨j,e,a,b,c⟩ := firstH_pos x
  rw [e]
  rcases Nat.lt_trichotomy j k with y | y | y
  ·exact absurd b (hn j y)
  ·rw [y]
  ·exact absurd hp (c k y)
theorem firstH_none {p : Nat → Prop} [DecidablePred p] {n : Nat} (hn : ∀ h,h < n → ¬ p h) : firstH p n = -1 := by
 rcases Int.lt_or_le (firstH p n) 0 with x | x
 ·exact (firstH_neg x).1
 ·obtain ⟨j,e,a,b,c⟩ := firstH_pos x
  exact absurd b (hn j a)
def lastsR (t : Tro) (r : List Int) : Int := firstH (dry t r) (bound t r)
theorem lasts_at (f : TroFine t) (hr : r ≠ []) {k : Nat} (hp : dry t r k) (hn : ∀ h,h < k → ¬ dry t r h) : lastsR t r = k := by
 refine firstH_at ?_ hp hn
 rcases Nat.lt_or_ge k (bound t r) with x | x
 ·exact x
 ·exact absurd hp (never f hr (fun h hh => hn h (by omega)) k)
theorem lasts_none (hn : ∀ h,¬ dry t r h) : lastsR t r = -1 := firstH_none fun h _ => hn h
theorem lasts_neg (f : TroFine t) (hr : r ≠ []) (h : lastsR t r < 0) : lastsR t r = -1 ∧ ∀ h,¬ dry t r h :=
 ⟨(firstH_neg h).1,never f hr (firstH_neg h).2⟩
theorem lasts_pos (h : 0 ≤ lastsR t r) : ∃ k : Nat,lastsR t r = k ∧ k < bound t r ∧ dry t r k ∧ ∀ h,h < k → ¬ dry t r h := firstH_pos h
def occ (r : List Int) (f : Int) (i : Nat) : Prop := turnOf r i = f
instance (r : List Int) (f : Int) (i : Nat) : Decidable (occ r f i) := by unfold occ; infer_instance
end
end Go.Proofs.Yteoenhhmcpipoaa
namespace Go.Proofs.Yteoenhhmcpipoaa
open Go.Conc Go.Proofs.Try
set_option maxRecDepth 100000
section
variable {main : Bool} {J : JT} {h H : List AObj} {K : Value → List AObj → Prop} {KV : Value → Prop} {HL : List AObj → Prop} {n0 : Nat} {ns : List Int} {k : Nat}
theorem HX.lt (a : HX h H ns k) : h.length < H.length := by
 obtain ⟨nv,k1,s,rest,rfl,_⟩ := a
 rw [hf_len]
 omega
theorem sb1 {X : List Nat} {p : Nat} {H H' : List AObj} (S : SameX X H H') (hp : p < H.length) (hX : p ∉ X) : SameB (some [p]) H H' := fun b hb => by
 simp at hb
 subst hb
 exact S.2 _ hp hX
theorem ofX (hJ : Closed prog main J) (a : HX h H ns k) (hk : k < 1000000) {x : Int} {others : List Int} {p n c : Nat} (hp : H[p]? = some (.cells (others.map vint) true 0)) (hne : p ≠ h.length) (hn : others.length = n) (hl : n < 1000)
  (hK : ∀ y H',(y = x ∨ y ∈ others) → SameX [h.length] H H' → H'.length = H.length → HX h H' ns (k + 1) → K (vint y) H') : Good prog J 14 [ptr h.length 0,vint x,.slice (some ⟨p,0,none⟩) n c] H K := by
 subst hn
 obtain ⟨nv,k1,s,rest,rfl,b1,b2,b3⟩ := a
 refine good14 hJ (hf_hand b3.list b3.sane (by omega) b2.1 b2.2) (others := others) (fun h' hd => ?_) (by omega) fun y h1 hy hd => ?_
 ·obtain ⟨k',s',c1,c2,c3,rfl⟩ := hf_dealt hd
  have S := hf_same (h := h) (nv := nv) (k1 := k1) (k2 := k') (s1 := s) (s2 := s') (rest := rest) (g := [])
  rw [List.append_nil] at S
  exact sli_new (wr := true) (sz := 0) (S.get hp (by simpa using hne)) (by simp) (kn_ints _)
 ·obtain ⟨k',s',c1,c2,c3,rfl⟩ := hf_dealt hd
  have S := hf_same (h := h) (nv := nv) (k1 := k1) (k2 := k') (s1 := s) (s2 := s') (rest := rest) (g := [])
  rw [List.append_nil] at S
  exact hK y _ hy S (by simp [hf_len]) ⟨nv,k',s',rest,rfl,by omega,⟨c2,c3⟩,b3⟩
structure WelOk (B : Int) (w : Wel) : Prop where
 holds : 2 ≤ w.holds ∧ w.holds ≤ B ∧ w.holds ≤ 40
 now : 0 ≤ w.now ∧ w.now ≤ w.holds
 fill : 0 ≤ w.fill ∧ w.fill ≤ 6
theorem good8 (hJ : Closed prog main J) (a : HX h H ns k) (hk : k < 500000) {B : Int} (hB : 2 ≤ B ∧ B ≤ 1000)
  (hK : ∀ w H',WelOk B w → SameX [h.length] H H' → HX h H' ns (k + 5) → K w.val H') : Good prog J 8 [ptr h.length 0,vint B] H K := by
 refine g8 hJ fun ok => ?_
 rw [e8]
 have hlt := a.lt
 refine qAl fun H1 p1 e1 S1 c1 l1 => minI (maxI ?_)
 have a1 := a.same S1 (by simp)
 refine amX hJ a1 (by omega) (by omega) (by omega) fun hd H2 b1 b2 S2 l2 a2 => ?_
 refine fill_one rfl rfl rfl (by decide) (fillI ?_)
 refine qAl fun H3 p3 e3 S3 c3 l3 => qStA (c := [vint 0,vint hd,vint 0]) c3 rfl rfl rfl fun H4 S4 c4 l4 => ?_
 have a4 := (a2.same S3 (by simp)).same S4 (by simp; omega)
 refine ⟨[p3],offI (ldI (v := vint hd) c4 rfl rfl ⟨by simp [RdOk,ptrBlk,ptr],offI (ldI (v := vint hd) c4 rfl rfl ⟨by simp [RdOk,ptrBlk,ptr],?_⟩)⟩)⟩
 have hp4 : p3 < H4.length := lt_of_get c4
 refine upX hJ a4 (by omega) (by omega) fun now H5 d1 d2 S5 l5 a5 => ⟨sb1 S5 hp4 (by simp; omega),⟨by decide,fill_one rfl rfl rfl (by decide) (fillI (qNew fun H6 p6 e6 S6 c6 l6 => ?_))⟩⟩
 have c6 : H6[p6]? = some (.cells ([now].map vint) true 0) := c6
 have T6 : SameX [h.length] H4 H6 := S5.trans S6.weak0
 refine ⟨sb1 T6 hp4 (by simp; omega),?_⟩
 have a6 := a5.same S6 (by simp)
 refine ofX hJ a6 (by omega) c6 (by omega) rfl (by simp) fun nw H7 m7 S7 l7 a7 => ?_
 have T7 : SameX [h.length] H4 H7 := T6.trans S7
 refine ⟨sb1 T7 hp4 (by simp; omega),offI ?_⟩
 refine upX hJ a7 (by omega) (by omega) fun f0 H8 g1 g2 S8 l8 a8 => ?_
 have T8 : SameX [h.length] H4 H8 := T7.trans S8
 refine ⟨sb1 T8 hp4 (by simp; omega),⟨by decide,fill_one rfl rfl rfl (by decide) (fill_one rfl rfl rfl (by decide) (fill_one rfl rfl rfl (by decide) (fillI (qNew fun H9 p9 e9 S9 c9 l9 => ?_))))⟩⟩
 have c9 : H9[p9]? = some (.cells ([2,3,f0].map vint) true 0) := c9
 have T9 : SameX [h.length] H4 H9 := T8.trans S9.weak0
 refine ⟨sb1 T9 hp4 (by simp; omega),?_⟩
 have hh := a8.lt
 have a9 := a8.same S9 (by simp)
 refine ofX hJ a9 (by omega) c9 (by omega) rfl (by simp) fun fl H10 m10 S10 l10 a10 => ?_
 have T10 : SameX [h.length] H4 H10 := T9.trans S10
 refine ⟨sb1 T10 hp4 (by simp; omega),?_⟩
 refine qSt (T10.get c4 (by simp; omega)) (by simp) rfl rfl fun H11 S11 c11 l11 => offI (qSt c11 (by simp) rfl rfl fun H12 S12 c12 l12 => ?_)
 refine load_part (c := [vint nw,vint hd,vint fl]) c12 (by simp) rfl rfl ?_
 have T1 : SameX [h.length] H H1 := S1.weak0
 have T4 : SameX [h.length] H H4 := ((T1.trans S2).trans S3.weak0).thru S4 (by simp; omega)
 have T12 : SameX [h.length] H H12 := ((T4.trans T10).thru S11 (by simp; omega)).thru S12 (by simp; omega)
 have c1' : H12[p1]? = some (.cells [vint 0,vint 0,vint 0] true 0) := S12.get (S11.get (T10.get (S4.get (S3.get (S2.get c1 (by simp; omega)) (by simp)) (by simp; omega)) (by simp; omega)) (by simp; omega)) (by simp; omega)
 refine qStA (c := [vint nw,vint hd,vint fl]) c1' rfl rfl rfl fun H13 S13 c13 l13 => ?_
 refine retQ_same rfl (resW_cell (gg := true) (s := 3) (by kernel_rfl) (load_part (c := [vint nw,vint hd,vint fl]) c13 (by simp) rfl rfl (resW_nil ?_)))
 refine hK ⟨nw,hd,fl⟩ H13 ⟨?_,?_,?_⟩ (T12.thru S13 (by simp; omega)) (((a10.same S11 (by simp; omega)).same S12 (by simp; omega)).same S13 (by simp; omega))
 ·show 2 ≤ hd ∧ hd ≤ B ∧ hd ≤ 40
  omega
 ·show 0 ≤ nw ∧ nw ≤ hd
  rcases m7 with rfl | m7
  ·omega
  ·simp at m7
   omega
 ·show 0 ≤ fl ∧ fl ≤ 6
  rcases m10 with rfl | m10
  ·omega
  ·simp at m10
   omega
end
def welAt (t : Tro) (r : List Int) (k : Nat) : Wel := { t.well with now := lvl t r k }
def hourC (t : Tro) (r : List Int) (k : Nat) : List Value := [vint (lvl t r k),vint (lvl t r (k + 1)),.bool (decide (dry t r k))]
def hourV (t : Tro) (r : List Int) (k : Nat) : Value := .agg ⟨hourC t r k⟩
def Till (n : Nat) (O : List Nat) (h H : List AObj) : Prop := h.length ≤ H.length ∧ ∀ i,i < n ∨ i ∈ O → H[i]? = h[i]?
section
variable {main : Bool} {J : JT} {h H : List AObj} {K : Value → List AObj → Prop} {KV : Value → Prop} {HL : List AObj → Prop} {n0 : Nat}
theorem callF {g : FuncId} {args : List Value} (hg : Nat.blt g prog.funcs.size = true) (hk : Good prog J g args H K) : callV prog (Good prog J) (.func (.func g) #[] #[]) args H K := by
 show (bif Nat.blt g prog.funcs.size then Good prog J g ([] ++ args ++ []) H K else False)
 rw [hg,cond_true,List.nil_append,List.append_nil]
 exact hk
theorem remI {t : TypeId} {a b : Nat} (ha : a < 1000000) (hb : 0 < b) (hk : KV (vint (a % b : Nat))) : aBin prog .rem t (vint (a : Nat)) (vint (b : Nat)) KV := by
 have h1 : Int.tmod (a : Int) (b : Int) = ((a % b : Nat) : Int) := by
  rw [Int.tmod_eq_emod_of_nonneg (by omega)]
  rfl
 simp only [aBin,aInt,true_and]
 rw [h1]
 exact ⟨by omega,hk⟩
theorem good41 (hJ : Closed prog main J) {t : Tro} {fv rv : Value} (ho : (troCells t fv).all one = true) (hr : rv.cells = #[rv] ∧ one rv = true)
  (hK : ∀ H' pt pr,SameX [] H H' → H'[pt]? = some (.cells (troCells t fv) true 0) → H'[pr]? = some (.cells [rv] true 0) → H.length ≤ pt → H.length ≤ pr → K (.func (.func 64) ⟨[]⟩ ⟨[ptr pt 0,ptr pr 0]⟩) H') : Good prog J 41 [.agg ⟨troCells t fv⟩,rv] H K := by
 refine g41 hJ fun ok => ?_
 rw [e41]
 refine qBox ho fun H1 p1 e1 S1 c1 l1 => qBox1 hr.1 hr.2 fun H2 p2 e2 S2 c2 l2 => ?_
 refine ⟨rfl,retL_same (by simp [unk]) (hK H2 p1 p2 (S1.trans S2) (S2.get c1 (by simp)) c2 (by omega) (by omega))⟩
theorem welAt_sm {t : Tro} {r : List Int} (f : TroFine t) (k : Nat) : (welAt t r k).sm := by
 have := lvl_bd (r := r) f k
 have := f.holds
 have := f.fill
 exact ⟨by show -1000000 ≤ lvl t r k ∧ lvl t r k ≤ 1000000; omega,by show -1000000 ≤ t.well.holds ∧ t.well.holds ≤ 1000000; omega,by show -1000000 ≤ t.well.fill ∧ t.well.fill ≤ 1000000; omega⟩
theorem welAt_step {t : Tro} {r : List Int} (k : Nat) : ((welAt t r k).drunk (drinkOf t (turnOf r k))).filled = welAt t r (k + 1) := by
 unfold Wel.drunk Wel.filled welAt
 simp only [Wel.mk.injEq,and_true]
 rfl
theorem good64 (hJ : Closed prog main J) {pt pr : Nat} {t : Tro} {r : List Int} {fv rv y : Value} (X : List Nat) (hX : ∀ x ∈ X,x < H.length) (ct : H[pt]? = some (.cells (troCells t fv) true 0)) (cr : H[pr]? = some (.cells [rv] true 0)) (nt : pt ∉ X) (nr : pr ∉ X)
  (hF : ∀ {H'},SameX X H H' → SliE H' fv 2 Dro.cells t.flocks) (hR : ∀ {H'},SameX X H H' → Sli H' rv 1 r.length (r.map vint)) (f : TroFine t) (g : RotaFine t r)
  {I : Nat → List Nat → List AObj → Prop} {St : List AObj → Prop} {N : Nat} (hN : N < 1000) (hlt : ∀ {k O H'},I k O H' → k < N) (hO : ∀ {k O H'},I k O H' → ∀ x ∈ O,x < H'.length) (hI : ∀ {k O H1 H2},Till H.length O H1 H2 → I k O H1 → I k O H2) (h0 : I 0 [] H)
  (round : ∀ (k : Nat) (O : List Nat) (H1 : List AObj) (Q : Value → List AObj → Prop),SameX X H H1 → (∀ x ∈ O,H.length ≤ x) → I k O H1 → (∀ O' H2,SameX (X ++ O) H1 H2 → (∀ x ∈ O',x ∈ O ∨ H1.length ≤ x) → I (k + 1) O' H2 → Q (.bool true) H2) → (∀ H2,SameX (X ++ O) H1 H2 → St H2 → Q (.bool false) H2) → callV prog (Good prog J) y [vint (k : Nat),hourV t r k] H1 Q)
  (hK : ∀ H2,SameX X H H2 → St H2 → K (.tuple ⟨[]⟩) H2) : Good prog J 64 [y,ptr pt 0,ptr pr 0] H K := by
 refine g64 hJ fun ok => ?_
 rw [e64]
 have kn4 : kn1 fv = true := (sli_val (hF SameX.refl)).2.2
 have knr : kn1 rv = true := (sli_val (hR SameX.refl)).2.2
 refine offI (load_part (c := t.well.cells) ct (by simp [troCells]) rfl rfl ?_)
 refine fill_one (l := t.well.cells) rfl rfl rfl (by simp) (fillI ?_)
 refine qAl fun H1 p4 e4 S1 c1 l1 => qStA (c := (welAt t r 0).cells) c1 rfl rfl rfl fun H2 S2 c2 l2 => ?_
 have T2 : SameX X H H2 := S1.weak0.thru S2 (by simp; omega)
 have hlen := g.len
 have hrne : r ≠ [] := by intro e; rw [e] at hlen; simp at hlen
 refine l64_1 hJ (fun k : Nat => N - k) (fun k F H' => ∃ O,SameX X H H' ∧ I k O H' ∧ (∀ x ∈ O,H.length ≤ x ∧ x < H'.length ∧ x ≠ p4) ∧ H'[p4]? = some (.cells (welAt t r k).cells true 0) ∧ F.ds = [] ∧ F.r 0 = y ∧ F.r 1 = ptr pt 0 ∧ F.r 2 = ptr pr 0 ∧ F.r 4 = ptr p4 0 ∧ F.r 5 = .func (.func 22) #[] #[] ∧ F.r 6 = .func (.func 19) #[] #[] ∧ F.r 7 = vint (k : Nat)) ?_ (s := 0)
  (.inl ⟨[],T2,hI ⟨T2.1,fun i hi => by have hi : i < H.length := hi.resolve_right (by simp); rw [S2.2 i (by omega) (by simp; omega),S1.2 i hi (by simp)]⟩ h0,by simp,c2,rfl,rfl,rfl,rfl,rfl,rfl,rfl,rfl⟩)
 rintro k F Hc ⟨O,Sc,ik,iO,cp,ds,r0,r1,r2,r4,r5,r6,r7⟩ okc hnc
 have hkN := hlt ik
 have cpt := Sc.get ct nt
 have cpr := Sc.get cr nr
 have hlc := Sc.1
 have hpc := lt_of_get cp
 rw [s64_1,r1,r2,r7]
 have hmod := Nat.mod_lt k (by omega : 0 < r.length)
 have hturn : r[k % r.length]? = some (turnOf r k) := by
  unfold turnOf
  rw [List.getD_eq_getElem?_getD,List.getElem?_eq_getElem hmod]
  rfl
 have hw := g.who _ (turnOf_mem hrne k)
 -- behind the drinking
 have post : ∀ {F' : RG},F'.ds = [] → F'.r 0 = y → F'.r 1 = ptr pt 0 → F'.r 2 = ptr pr 0 → F'.r 4 = ptr p4 0 → F'.r 5 = .func (.func 22) #[] #[] → F'.r 6 = .func (.func 19) #[] #[] → F'.r 7 = vint (k : Nat) → F'.r 8 = vint (drinkOf t (turnOf r k)) →
   W prog J 55 H.length 64 (subC [1,1,0,0,0,0,1,1] (codeOf f64)) F' Hc (contX pl64 prog J 55 H.length 64 ct64 [1,1,0,0,0,0,1,1] (codeOf f64) [Nx H.length (fun k : Nat => N - k) (fun k F H' => ∃ O,SameX X H H' ∧ I k O H' ∧ (∀ x ∈ O,H.length ≤ x ∧ x < H'.length ∧ x ≠ p4) ∧ H'[p4]? = some (.cells (welAt t r k).cells true 0) ∧ F.ds = [] ∧ F.r 0 = y ∧ F.r 1 = ptr pt 0 ∧ F.r 2 = ptr pr 0 ∧ F.r 4 = ptr p4 0 ∧ F.r 5 = .func (.func 22) #[] #[] ∧ F.r 6 = .func (.func 19) #[] #[] ∧ F.r 7 = vint (k : Nat)) k] (RetQ prog [] H.length K)) := by
  intro F' ds r0 r1 r2 r4 r5 r6 r7 r8
  rw [s64_2,r0,r4,r5,r6,r7,r8]
  refine offI (offI (ldI (v := vint (lvl t r k)) cp rfl rfl ?_))
  refine fill_one rfl rfl rfl (by decide) (fillI ?_)
  refine qAl fun H3 p5 e5 S3 c3 l3 => qStA (c := [vint (lvl t r k),vint 0,.bool false]) c3 rfl rfl rfl fun H4 S4 c4 l4 => ?_
  have cp4 := S4.get (S3.get cp (by simp)) (by simp; omega)
  refine load_part (c := (welAt t r k).cells) cp4 (by simp [Wel.cells]) rfl rfl ?_
  have hdb := drink_bd f (turnOf r k)
  refine callF (by kernel_rfl) (good22 hJ (w := welAt t r k) (welAt_sm f k) (by omega) (vext0 (vext1 ?_)))
  refine qStA (c := ((welAt t r k).drunk (drinkOf t (turnOf r k))).cells) cp4 rfl rfl rfl fun H5 S5 c5 l5 => offI ?_
  have hdry : Value.bool (decide ((welAt t r k).now < drinkOf t (turnOf r k))) = Value.bool (decide (dry t r k)) := rfl
  rw [hdry]
  refine qSt (S5.get c4 (by simp; omega)) (by simp) rfl rfl fun H6 S6 c6 l6 => ?_
  have c56 := S6.get c5 (by simp; omega)
  refine load_part (c := ((welAt t r k).drunk (drinkOf t (turnOf r k))).cells) c56 (by simp [Wel.cells]) rfl rfl ?_
  refine callF (by kernel_rfl) (good19 hJ (w := (welAt t r k).drunk (drinkOf t (turnOf r k))) ?_ ?_)
  ·obtain ⟨a,b,c⟩ := welAt_sm (r := r) f k
   have := lvl_bd (r := r) f k
   refine ⟨?_,b,c⟩
   show -1000000 ≤ lvl t r k - min (lvl t r k) (drinkOf t (turnOf r k)) ∧ lvl t r k - min (lvl t r k) (drinkOf t (turnOf r k)) ≤ 1000000
   have := f.holds
   omega
  rw [welAt_step]
  refine qStA (c := (welAt t r (k + 1)).cells) c56 rfl rfl rfl fun H7 S7 c7 l7 => offI (offI (ldI (v := vint (lvl t r (k + 1))) c7 rfl rfl (offI ?_)))
  refine qSt (S7.get c6 (by simp; omega)) (by simp) rfl rfl fun H8 S8 c8 l8 => ?_
  refine load_part (c := hourC t r k) c8 (by simp [hourC]) rfl rfl ?_
  have T8 : SameX [p4] Hc H8 := (((((SameX.refl (X := [p4])).trans S3.weak0).thru S4 (by simp; omega)).trans S5).thru S6 (by simp; omega)).trans S7 |>.thru S8 (by simp; omega)
  have S8' : SameX X H H8 := Sc.thru T8 (by simp; omega)
  have c78 := S8.get c7 (by simp; omega)
  have nO : p4 ∉ X ++ O := by
   intro hm
   rcases List.mem_append.1 hm with hm | hm
   ·have := hX _ hm
    omega
   ·exact (iO _ hm).2.2 rfl
  have hY : ∀ y ∈ X ++ O,y ∈ X ∨ H.length ≤ y := fun y hm => (List.mem_append.1 hm).imp id fun hm => (iO y hm).1
  have hl8 := T8.1
  refine round k O H8 _ S8' (fun x hx => (iO x hx).1) (hI ⟨T8.1,fun i hi => T8.2 i (by rcases hi with hi | hi; omega; exact (iO i hi).2.1) (by
   rcases hi with hi | hi
   ·simp
    omega
   ·simpa using (iO i hi).2.2)⟩ ik) (fun O' H9 S9 hO' i9 => notI (cnd_false.2 (addI (by omega) ?_))) fun H9 S9 st => notI (cnd_true.2 ?_)
  ·refine ⟨k + 1,by dsimp only; omega,.inl ⟨O',S8'.thru S9 hY,i9,fun x hx => ?_,S9.get c78 nO,ds,r0,r1,r2,r4,r5,r6,by show vint _ = vint _; congr 1⟩⟩
   have h9 := hO i9 x hx
   rcases hO' x hx with hm | hm
   ·exact ⟨(iO x hm).1,h9,(iO x hm).2.2⟩
   ·exact ⟨by omega,h9,by omega⟩
  ·rw [ds]
   exact retL_same (by simp) (hK H9 (S8'.thru S9 hY) st)
 refine ldI (v := rv) cpr rfl knr (ldI (v := rv) cpr rfl knr (lenI (hR Sc) (remI (by omega) (by omega) ?_)))
 refine sli_num' (hR Sc) hturn fun q => geqI (cndI (fun hge => ?_) fun hlt0 => hold.2 ?_)
 ·have hwl : (turnOf r k).toNat < t.flocks.length := by omega
  refine offI (ldI (v := fv) cpt rfl kn4 ?_)
  obtain ⟨b,o,cs,wr,sz,hidx,hb,hol,hft,hkn⟩ := sliE_elem dro_len (by omega) (hF Sc) hwl
  have e : vint (turnOf r k) = vint ((turnOf r k).toNat : Nat) := by congr 1; omega
  rw [e]
  have hd : drinkOf t (turnOf r k) = t.flocks[(turnOf r k).toNat].drinks := by
   unfold drinkOf
   rw [if_pos hge,droAt_mem hwl]
  refine hidx _ (offI (ldI (v := vint (drinkOf t (turnOf r k))) hb (part_get hft (by rw [hd]; rfl)) rfl (hold.2 ?_)))
  exact post ds r0 r1 r2 r4 r5 r6 r7 rfl
 ·refine post ds r0 r1 r2 r4 r5 r6 r7 ?_
  show vint 0 = vint _
  unfold drinkOf
  rw [if_neg hlt0]
theorem hour_one {t : Tro} {r : List Int} {k : Nat} : (hourC t r k).all one = true ∧ kn (hourC t r k) = true := ⟨rfl,rfl⟩
theorem retL_def {n0 n : Nat} {vs : List Value} (hd : h[n]? = some .deferred) (hv : ∀ v ∈ vs,v ≠ unk) (hk : K (pack vs) (h.set n .dead)) : retL n0 K [n] vs h := by
 have := retL_same (n0 := n0) (H := K) hv hk
 unfold retL at *
 exact ⟨hd,this⟩
end
theorem rotaE_fine {t : Tro} {r : List Int} (h : rotaE t r = 0) : TroFine t ∧ RotaFine t r := by
 unfold rotaE at h
 split at h
 ·rename_i x
  exact absurd h x
 ·rename_i x
  split at h
  ·rename_i y
   exact absurd h y
  ·rename_i y
   split at h
   ·rename_i z
    refine ⟨troE_fine (by omega),?_,fun k hk => by have := z k hk; omega⟩
    unfold fewE at y
    split at y
    ·exact absurd (by decide) y
    ·split at y
     ·exact absurd (by decide) y
     ·omega
   ·cases h
def metP (t : Tro) (r : List Int) (k : Nat) : Int × Int := (lvl t r k,((k % r.length : Nat) : Int))
def metV (p : Int × Int) : Value := .agg ⟨[vint p.1,vint p.2]⟩
def metL (t : Tro) (r : List Int) (k : Nat) : List (Int × Int) := (List.range k).map (metP t r)
def metE (l : List (Int × Int)) : List (Value × Value) := l.map fun p => (metV p,.bool true)
theorem metL_succ {t : Tro} {r : List Int} {k : Nat} : metL t r (k + 1) = metL t r k ++ [metP t r k] := by simp [metL,List.range_succ]
theorem teqM (a b c d : Int) : teq prog 10000 105 (.agg ⟨[vint a,vint b]⟩) (.agg ⟨[vint c,vint d]⟩) =
 (match some (a == c) with
 | some true => (match some (b == d) with
  | some true => some true
  | some false => some false
  | none => none)
 | some false => some false
 | none => none) := by kernel_rfl
theorem teqM2 (p q : Int × Int) : teq prog 10000 105 (metV p) (metV q) = some (decide (p = q)) := by
 obtain ⟨a,b⟩ := p
 obtain ⟨c,d⟩ := q
 unfold metV
 rw [teqM]
 by_cases e1 : a = c
 ·by_cases e2 : b = d
  ·simp [e1,e2]
  ·rw [beq_eq_false_iff_ne.2 e2,beq_iff_eq.2 e1]
   simp [e2]
 ·rw [beq_eq_false_iff_ne.2 e1]
  simp [e1]
theorem met_find (p : Int × Int) : ∀ l : List (Int × Int),mfind prog 105 (metV p) (metE l) = if p ∈ l then some (some (.bool true)) else some none
 | [] => rfl
 | q :: l => by
  have ih := met_find p l
  show (match teq prog 10000 105 (metV p) (metV q) with
   | some true => some (some (Value.bool true))
   | some false => mfind prog 105 (metV p) (metE l)
   | none => none) = _
  rw [teqM2]
  by_cases h : p = q
  ·simp [h]
  ·rw [decide_eq_false h]
   simp only [ih,List.mem_cons,h,false_or]
theorem met_key (p : Int × Int) : kOk prog 10000 105 (metV p) = true := by kernel_rfl
section
variable {main : Bool} {J : JT} {h H : List AObj} {K : Value → List AObj → Prop} {KV : Value → Prop} {HL : List AObj → Prop} {n0 : Nat}
theorem met_look {b : Nat} {l : List (Int × Int)} {wr : Bool} {p : Int × Int} (hb : h[b]? = some (.map (metE l) wr)) (hk : KV (.bool (decide (p ∈ l)))) : aLook prog 98 false (.map (some b)) (metV p) h KV := by
 have e1 : prog.underlying 98 = some (.map 105 4) := by kernel_rfl
 have e2 : zv1 prog 4 = some (.bool false) := by kernel_rfl
 unfold aLook
 rw [e1]
 simp only
 rw [hb,e2]
 simp only
 rw [met_find]
 by_cases hm : p ∈ l
 ·rw [if_pos hm]
  rw [decide_eq_true hm] at hk
  exact ⟨met_key p,hk⟩
 ·rw [if_neg hm]
  rw [decide_eq_false hm] at hk
  exact ⟨met_key p,hk⟩
theorem met_ne {p : Int × Int} {l : List (Int × Int)} (hm : p ∉ l) : ∀ e ∈ metE l,metV p ≠ e.1 := fun e he h => by
 obtain ⟨q,hq,rfl⟩ := List.mem_map.1 he
 have h : metV p = metV q := h
 have : p = q := by
  obtain ⟨a,b⟩ := p
  obtain ⟨c,d⟩ := q
  simpa [metV,vint] using h
 exact hm (this ▸ hq)
theorem met_updL {p : Int × Int} : ∀ {l : List (Value × Value)},(∀ e ∈ l,metV p ≠ e.1) → updL (metV p) (.bool true) l = l ++ [(metV p,.bool true)]
 | [],_ => rfl
 | (a,u) :: es,h => by
  have hk : metV p ≠ a := h (a,u) (by simp)
  simp only [updL,if_neg hk,List.cons_append]
  rw [met_updL fun e he => h e (by simp [he])]
theorem met_same (p : Int × Int) : Instr.sameBits 10000 (metV p) (metV p) = true := by simp [Instr.sameBits,metV,vint]
theorem met_upd {b : Nat} {l : List (Int × Int)} {p : Int × Int} (hb : h[b]? = some (.map (metE l) true)) (hm : p ∉ l) (hk : HL (h.set b (.map (metE (l ++ [p])) true))) : aUpdX prog 98 (.map (some b)) (metV p) (.bool true) h HL := by
 have e1 : prog.underlying 98 = some (.map 105 4) := by kernel_rfl
 unfold aUpdX
 rw [e1]
 simp only
 rw [hb]
 have e : metE (l ++ [p]) = metE l ++ [(metV p,.bool true)] := by simp [metE]
 rw [e] at hk
 have hne := met_ne hm
 refine ⟨met_key p,by simp [metV,VOk,AOk,LOk],met_same p,fun e he => ?_,?_⟩
 ·obtain ⟨q,hq,rfl⟩ := List.mem_map.1 he
  show teq prog 10000 105 (metV p) (metV q) = _
  rw [teqM2]
  have h1 : p ≠ q := fun h => hm (h ▸ hq)
  rw [decide_eq_false h1]
  exact congrArg some (@decide_eq_false _ (Classical.propDecidable _) (hne _ he)).symm
 ·rw [met_updL hne]
  exact hk
theorem endQ_exit {n id : Nat} {f : RG} {Q : QT} {v : Value} {st : LoopState} {fn : FuncId} {r : Nat → Value} {size : Nat} {params : Array Tmp} {assign body : Code} {dfr : Nat} (hl : h[n + 1]? = some (.loop st (some (.exit id)) fn r size params assign body dfr)) (hs : st ≠ .busy) (hq : Q (.exit id) ⟨f.r,n :: f.ds⟩ (h.set (n + 1) .dead)) : endQ n f Q v h :=
 ⟨st,some (.exit id),_,_,_,_,_,_,_,hl,hs,hq⟩
noncomputable abbrev lp16 (st : LoopState) (pend : Option Code) (r : Nat → Value) (d : Nat) : AObj := .loop st pend 16 r 34 #[14,15] (subC [1,0,1,1,1,0,1,0,0] (codeOf f16)) (subC [1,0,1,1,1,0,1,0,1] (codeOf f16)) d
theorem round89 (hJ : Closed prog main J) {l p3 p5 p6 pm d k : Nat} {R : Nat → Value} {rv : Value} {t : Tro} {r : List Int} {L : List (Int × Int)} {Q : Value → List AObj → Prop} (hl : H[l]? = some (lp16 .ready none R d))
  (r3 : R 3 = ptr p3 0) (r5 : R 5 = ptr p5 0) (r6 : R 6 = ptr p6 0) (c3 : H[p3]? = some (.cells [rv] true 0)) (c5 : H[p5]? = some (.cells [.map (some pm)] true 0)) (cm : H[pm]? = some (.map (metE L) true)) (c6 : H[p6]? = some (.cells [vint (-1)] true 0))
  (hr : Sli H rv 1 r.length (r.map vint)) (hlen : 0 < r.length) (hk : k < 1000000)
  (n3 : p3 ≠ l) (n5 : p5 ≠ l) (nm : pm ≠ l) (n6 : p6 ≠ l) (n36 : p3 ≠ p6) (nm6 : pm ≠ p6)
  (k1 : ∀ H',¬ dry t r k → metP t r k ∉ L → SameX [l,pm] H H' → H'[l]? = some (lp16 .ready none R d) → H'[pm]? = some (.map (metE (L ++ [metP t r k])) true) → Q (.bool true) H')
  (k2 : ∀ H',¬ dry t r k → metP t r k ∈ L → SameX [l] H H' → H'[l]? = some (lp16 .done (some (.exit 0)) R d) → Q (.bool false) H')
  (k3 : ∀ H',dry t r k → SameX [l,p6] H H' → H'[l]? = some (lp16 .done (some (.exit 0)) R d) → H'[p6]? = some (.cells [vint (k : Nat)] true 0) → Q (.bool false) H') :
  callV prog (Good prog J) (.func (.yield l) ⟨[]⟩ ⟨[]⟩) [vint (k : Nat),hourV t r k] H Q := by
 show Good prog J (yid prog l) [vint (k : Nat),hourV t r k] H Q
 have hll := lt_of_get hl
 have kr := (sli_val hr).2.2
 have hmb : mapBlk rv = none := by
  obtain ⟨base,c,hrv,_⟩ := id hr
  rw [hrv]
  rfl
 have h3l := lt_of_get c3
 have h5l := lt_of_get c5
 have h6l := lt_of_get c6
 have hml := lt_of_get cm
 refine good_round hJ hl rfl (by decide) fun ok => W_sound hJ mixed _ ?_
 rw [a16_1]
 refine qAl fun H1 p1 e1 S1 c1 l1 => qStA (c := hourC t r k) c1 rfl rfl hour_one.1 fun H2 S2 c2 l2 => ?_
 have hl2 : H2[l]? = some (lp16 .ready none R d) := S2.get (S1.get hl (by simp)) (by simp; omega)
 refine ⟨rfl,none,_,_,_,_,_,_,_,hl2,W_sound hJ mixed _ ?_⟩
 rw [b16_1]
 have S02 : SameX [] H H2 := S1.thru S2 (by simp; omega)
 have hl3 : (H2.set l (lp16 .busy none R d))[l]? = some (lp16 .busy none R d) := List.getElem?_set_self (lt_of_get hl2)
 have S3 : SameX [l] H (H2.set l (lp16 .busy none R d)) := (S02.weak0).set (.inl (by simp))
 have cx3 : (H2.set l (lp16 .busy none R d))[p1]? = some (.cells (hourC t r k) true 0) := get_set c2 (by omega)
 generalize H2.set l (lp16 .busy none R d) = H3 at hl3 S3 cx3
 have hs3 := S3.1
 have hx3 := lt_of_get cx3
 refine ⟨[p1,p3],?_⟩
 show aOff (ptr p1 0) 0 _
 refine offI (ldI (v := vint (lvl t r k)) cx3 rfl rfl ⟨by simp [RdOk,ptrBlk,ptr],?_⟩)
 show aLoad false 1 (R 3) _ _
 rw [r3]
 have hr3 : Sli H3 rv 1 r.length (r.map vint) := by
  obtain ⟨base,c,hrv,hc,hb⟩ := id hr
  refine ⟨base,c,hrv,hc,?_⟩
  rcases hb with hb | ⟨b,o,hb,hb2 | ⟨cs,wr,sz,hb2,hb3⟩⟩
  ·exact .inl hb
  ·exact .inr ⟨b,o,hb,.inl hb2⟩
  ·refine .inr ⟨b,o,hb,.inr ⟨cs,wr,sz,S3.get hb2 ?_,hb3⟩⟩
   simp only [List.mem_singleton]
   intro e
   subst e
   rw [hl] at hb2
   cases hb2
 refine ldI (v := rv) (S3.get c3 (by simpa using n3)) rfl kr ⟨?_,lenI hr3 ⟨by rw [hmb]; trivial,?_⟩⟩
 ·show RdOk (some [p1,p3]) (ptrBlk (R 3))
  rw [r3]
  simp [RdOk,ptrBlk,ptr]
 show aBin prog .rem 3 (vint (k : Nat)) (vint (r.length : Nat)) _
 refine remI hk hlen ?_
 refine fill_one rfl rfl rfl (by decide) (fill_one rfl rfl rfl (Nat.le_of_ble_eq_true rfl) (fillI ?_))
 refine qAl fun H4 p7 e7 S4 c4 l4 => ⟨fun b hb => S4.2 b (by simp at hb; omega) (by simp),?_⟩
 refine qStA (c := [vint (metP t r k).1,vint (metP t r k).2]) c4 rfl rfl rfl fun H5 S5 c5' l5 => ?_
 have S35 : SameX [] H3 H5 := S4.thru S5 (by simp; omega)
 have S05 : SameX [l] H H5 := S3.trans S35.weak0
 have hl5 := S35.get hl3 (by simp)
 refine offI (ldI (v := .bool (decide (dry t r k))) (S35.get cx3 (by simp)) rfl rfl ?_)
 refine cndI (fun hd => ?_) fun hd => ?_
 ·show aStore 1 (R 6) (vint (k : Nat)) _ _
  rw [r6]
  refine qSt (S05.get c6 (by simpa using n6)) (by simp) rfl rfl fun H6 S6 c6' l6 => ?_
  have hl6 := S6.get hl5 (by simpa using n6.symm)
  have hl66 := lt_of_get hl6
  refine ⟨.busy,none,_,_,_,_,_,_,_,hl6,.inl (k3 _ hd ?_ (List.getElem?_set_self hl66) (get_set c6' n6))⟩
  exact ((S05.weak (by simp)).trans (S6.weak (by simp))).set (.inl (by simp))
 ·show aLoad false 1 (R 5) _ _
  rw [r5]
  refine ldI (v := .map (some pm)) (S05.get c5 (by simpa using n5)) rfl rfl ?_
  refine load_part (c := [vint (metP t r k).1,vint (metP t r k).2]) c5' (by simp) rfl rfl ?_
  have cm5 := S05.get cm (by simpa using nm)
  refine met_look (p := metP t r k) cm5 (cndI (fun hm => ?_) fun hm => ?_)
  ·have hl55 := lt_of_get hl5
   refine ⟨.busy,none,_,_,_,_,_,_,_,hl5,.inl (k2 _ hd hm (S05.set (.inl (by simp))) (List.getElem?_set_self hl55))⟩
  ·show aLoad false 1 (R 5) _ _
   rw [r5]
   refine ldI (v := .map (some pm)) (S05.get c5 (by simpa using n5)) rfl rfl ?_
   refine load_part (c := [vint (metP t r k).1,vint (metP t r k).2]) c5' (by simp) rfl rfl ⟨⟨by simp [VOk],rfl⟩,?_⟩
   refine met_upd (p := metP t r k) cm5 hm ?_
   have hm5 := lt_of_get cm5
   have hl6 : (H5.set pm (.map (metE (L ++ [metP t r k])) true))[l]? = some (lp16 .busy none R d) := get_set hl5 nm.symm
   have hl66 := lt_of_get hl6
   refine ⟨.busy,none,_,_,_,_,_,_,_,hl6,.inl (k1 _ hd hm ?_ (List.getElem?_set_self hl66) (get_set (List.getElem?_set_self hm5) nm))⟩
   exact ((S05.weak (Y := [l,pm]) (by simp)).set (.inl (by simp))).set (.inl (by simp))
theorem met_bound {t : Tro} {r : List Int} (f : TroFine t) (hp : 0 < r.length) {k : Nat} (hd : ∀ i j,i < j → j < k → metP t r i ≠ metP t r j) : k ≤ bound t r := by
 rcases Nat.lt_or_ge (bound t r) k with hk | hk
 ·obtain ⟨i,j,hij,hj,e⟩ := pigeon (bound t r) (fun h => (lvl t r h).toNat * r.length + h % r.length) (fun h _ => by
   have := lvl_bd (r := r) f h
   exact code_lt (Nat.mod_lt h hp) (by omega))
  obtain ⟨e1,e2⟩ := code_inj (Nat.mod_lt i hp) (Nat.mod_lt j hp) e
  have b1 := lvl_bd (r := r) f i
  have b2 := lvl_bd (r := r) f j
  refine absurd ?_ (hd i j hij (by omega))
  unfold metP
  rw [e2,show lvl t r i = lvl t r j from by omega]
 ·exact hk
theorem met_mem {t : Tro} {r : List Int} {k : Nat} {p : Int × Int} : p ∈ metL t r k ↔ ∃ i,i < k ∧ metP t r i = p := by
 simp [metL]
theorem good16 (hJ : Closed prog main J) {v fv rv : Value} {t : Tro} {r : List Int} (ht : TroAt H v t fv) (hr : Sli H rv 1 r.length (r.map vint)) (f : TroFine t) (g : RotaFine t r)
  (hK : ∀ H',SameX [] H H' → K (vint (lastsR t r)) H') : Good prog J 16 [v,rv] H K := by
 refine g16 hJ fun ok => ?_
 rw [e16,ht.val]
 have rvo := sli_val hr
 have hlen := g.len
 have hrne : r ≠ [] := by intro e; rw [e] at hlen; simp at hlen
 refine qBox (tro_one ht) fun H1 p2 e2 S1 c2 l1 => qBox1 rvo.1 rvo.2.1 fun H2 p3 e3 S2 c3 l2 => qNewM fun H3 pm em S3 cm l3 => qAl fun H4 p5 e5 S4 c5 l4 => ?_
 refine qSt c5 (by simp) rfl rfl fun H5 S5 c5 l5 => qAl fun H6 p6 e6 S6 c6 l6 => qSt c6 (by simp) rfl rfl fun H7 S7 c6 l7 => ?_
 have c5 : H5[p5]? = some (.cells [.map (some pm)] true 0) := c5
 have c6 : H7[p6]? = some (.cells [vint (-1)] true 0) := c6
 have T4 : SameX [] H H4 := ((S1.trans S2).trans S3).trans S4
 have T7 : SameX [] H H7 := (((T4.thru S5 (by have := T4.1; simp; omega)).trans S6).thru S7 (by have := T4.1; simp; omega))
 have U7 : SameX [p5,p6] H4 H7 := ((S5.weak (by simp)).trans S6.weak0).trans (S7.weak (by simp))
 have c27 : H7[p2]? = some (.cells (troCells t fv) true 0) := U7.get (S4.get (S3.get (S2.get c2 (by simp)) (by simp)) (by simp)) (by simp; omega)
 have c37 : H7[p3]? = some (.cells [rv] true 0) := U7.get (S4.get (S3.get c3 (by simp)) (by simp)) (by simp; omega)
 have cm7 : H7[pm]? = some (.map [] true) := U7.get (S4.get cm (by simp)) (by simp; omega)
 have c57 : H7[p5]? = some (.cells [.map (some pm)] true 0) := S7.get (S6.get c5 (by simp)) (by simp; omega)
 have hS1 := S1.1
 refine load_part (c := troCells t fv) c27 (by simp [troCells]) rfl (tro_kn ht) (ldI (v := rv) c37 rfl rvo.2.2 ?_)
 refine good41 hJ (tro_one ht) ⟨rvo.1,rvo.2.1⟩ fun H8 pt pr S8 ct cr gt gr => ?_
 have T8 : SameX [] H H8 := T7.trans S8
 have hT8 := S8.1
 have hT7 := T7.1
 refine l16_1 hJ (first := []) (cap := [ptr pt 0,ptr pr 0]) rfl (by decide) ?_
 obtain ⟨R,hRe⟩ : ∃ R : Nat → Value,R = (RG.p (RG.p (RG.p (RG.p (RG.p (RG.p (RG.p (RG.p (RG.p (RG.mk (regs [Value.agg ⟨troCells t fv⟩,rv]) []) 2 (ptr p2 0)) 3 (ptr p3 0)) 4 (vint 0)) 10 (.map (some pm))) 5 (ptr p5 0)) 6 (ptr p6 0)) 11 (Value.agg ⟨troCells t fv⟩)) 12 rv) 13 (Value.func (.func 64) ⟨[]⟩ ⟨[ptr pt 0,ptr pr 0]⟩)).r := ⟨_,rfl⟩
 have hl9 : (H8 ++ [AObj.deferred] ++ [lp16 .ready none R H8.length])[H8.length + 1]? = some (lp16 .ready none R H8.length) := by
  rw [List.append_assoc]
  simp
 have hd9 : (H8 ++ [AObj.deferred] ++ [lp16 .ready none R H8.length])[H8.length]? = some .deferred := by
  rw [List.append_assoc]
  simp
 have hln : (H8 ++ [AObj.deferred] ++ [lp16 .ready none R H8.length]).length = H8.length + 2 := by simp
 have S9 : SameX [] H8 (H8 ++ [AObj.deferred] ++ [lp16 .ready none R H8.length]) := SameX.refl.app.app
 have r3 : R 3 = ptr p3 0 := by subst hRe; rfl
 have r5 : R 5 = ptr p5 0 := by subst hRe; rfl
 have r6 : R 6 = ptr p6 0 := by subst hRe; rfl
 generalize hH9 : H8 ++ [AObj.deferred] ++ [lp16 .ready none R H8.length] = H9 at hl9 hd9 hln S9
 have T9 : SameX [] H H9 := T8.trans S9
 have S79 : SameX [] H7 H9 := S8.trans S9
 have cx3 := S79.get c37 (by simp)
 have cx5 := S79.get c57 (by simp)
 have cx6 := S79.get c6 (by simp)
 have cxm := S79.get cm7 (by simp)
 have q2 := lt_of_get c2
 have q3 := lt_of_get c3
 have qm := lt_of_get cm
 have q6 := lt_of_get c6
 have q5 := lt_of_get c57
 have hlp : H.length ≤ p2 := by omega
 have hY : ∀ {H'},SameX [H8.length + 1,pm,p6] H9 H' → SameX [] H H' := fun S => T9.thru S (by simp; omega)
 have fin : ∀ {H'},SameX [H8.length + 1,pm,p6] H9 H' → H'[p6]? = some (.cells [vint (lastsR t r)] true 0) → H'[H8.length + 1]? = some (lp16 .done (some (.exit 0)) R H8.length) → ∀ v,endQ H8.length ⟨R,[]⟩ (contX pl16 prog J 34 H.length 16 ct16 [1,0,1,1,1,0,1,0] (codeOf f16) [] (RetQ prog [.tmp 4] H.length K)) v H' := by
  intro H' S h6 hl v
  refine endQ_exit hl (by simp) ?_
  rw [c16_1x0]
  show aLoad false 1 (R 6) _ _
  rw [r6]
  refine ldI (v := vint (lastsR t r)) (get_set h6 (by omega)) rfl rfl ?_
  have hd' := S.get hd9 (by simp; omega)
  refine retL_def (get_set hd' (by omega)) (by simp [unk]) ?_
  exact hK _ (((hY S).set (.inr (by omega))).set (.inr (by omega)))
 have main131 : Good prog J 64 [.func (.yield (H8.length + 1)) ⟨[]⟩ ⟨[]⟩,ptr pt 0,ptr pr 0] H9 (endQ H8.length ⟨R,[]⟩ (contX pl16 prog J 34 H.length 16 ct16 [1,0,1,1,1,0,1,0] (codeOf f16) [] (RetQ prog [.tmp 4] H.length K))) := by
  have lpt := lt_of_get ct
  have lpr := lt_of_get cr
  refine good64 hJ [H8.length + 1,pm,p6] (by simp; omega) (S9.get ct (by simp)) (S9.get cr (by simp)) (by simp; omega) (by simp; omega) (fun S => (hY S).sli ht.fl (by simp)) (fun S => (hY S).sli hr (by simp)) f g
   (I := fun k O H' => O = [] ∧ H'[H8.length + 1]? = some (lp16 .ready none R H8.length) ∧ H'[pm]? = some (.map (metE (metL t r k)) true) ∧ H'[p6]? = some (.cells [vint (-1)] true 0) ∧ (∀ i,i < k → ¬ dry t r i) ∧ (∀ i j,i < j → j < k → metP t r i ≠ metP t r j))
   (St := fun H' => H'[H8.length + 1]? = some (lp16 .done (some (.exit 0)) R H8.length) ∧ H'[p6]? = some (.cells [vint (lastsR t r)] true 0)) (N := bound t r + 1) (by have := bound_le f g.len.2; omega) (fun hi => Nat.lt_succ_of_le (met_bound f (by omega) hi.2.2.2.2.2)) (fun hi => by rw [hi.1]; simp)
   (fun T hi => ⟨hi.1,by rw [T.2 _ (.inl (by omega))]; exact hi.2.1,by rw [T.2 _ (.inl (by omega))]; exact hi.2.2.1,by rw [T.2 _ (.inl (by omega))]; exact hi.2.2.2.1,hi.2.2.2.2⟩)
   ⟨rfl,hl9,cxm,cx6,by simp,by simp⟩ (fun k O Ha Q Sa _ hi k1 k2 => ?_) fun H' S' st => fin S' st.2 st.1 _
  obtain ⟨rfl,i1,i2,i3,i4,i5⟩ := hi
  have hkb := met_bound f (by omega) i5
  have hbl := bound_le f g.len.2
  refine round89 hJ (t := t) i1 r3 r5 r6 (Sa.get cx3 (by simp; omega)) (Sa.get cx5 (by simp; omega)) i2 i3 ((hY Sa).sli hr (by simp)) (by omega) (by omega) (by omega) (by omega) (by omega) (by omega) (by omega) (by omega) (fun Hb nd nm Sb hb1 hb2 => ?_) (fun Hb nd hm Sb hb1 => ?_) fun Hb hd Sb hb1 hb2 => ?_
  ·refine k1 [] Hb (Sb.weak (by simp)) (by simp) ⟨rfl,hb1,by rw [metL_succ]; exact hb2,Sb.get i3 (by simp; omega),fun i hi => ?_,fun i j hij hj => ?_⟩
   ·rcases Nat.lt_or_ge i k with x | x
    ·exact i4 i x
    ·rwa [show i = k from by omega]
   ·rcases Nat.lt_or_ge j k with x | x
    ·exact i5 i j hij x
    ·have : j = k := by omega
     subst this
     intro e
     exact nm (met_mem.2 ⟨i,hij,e⟩)
  ·obtain ⟨i,hik,e⟩ := met_mem.1 hm
   have hlst : lastsR t r = -1 := by
    refine lasts_none (dry_back hik ?_ ?_ i4)
    ·have := congrArg Prod.fst e
     exact this
    ·have := congrArg Prod.snd e
     have : ((i % r.length : Nat) : Int) = ((k % r.length : Nat) : Int) := this
     omega
   exact k2 Hb (Sb.weak (by simp)) ⟨hb1,by rw [hlst]; exact Sb.get i3 (by simp; omega)⟩
  ·have hlst : lastsR t r = k := lasts_at f hrne hd i4
   exact k2 Hb (Sb.weak (by simp)) ⟨hb1,by rw [hlst]; exact hb2⟩
 subst hRe
 rw [← hH9] at main131
 exact main131
def lastA (t : Tro) (r : List Int) : Int := if rotaE t r = 0 ∧ 0 ≤ lastsR t r then lastsR t r else 0
def lastE (t : Tro) (r : List Int) : Int := if rotaE t r ≠ 0 then rotaE t r else if lastsR t r < 0 then 11 else 0
theorem good9 (hJ : Closed prog main J) {v fv rv : Value} {t : Tro} {r : List Int} (ht : TroAt H v t fv) (hr : Sli H rv 1 r.length (r.map vint)) (hl : t.flocks.length ≤ 1000000)
  (hK : ∀ H',SameX [] H H' → K (.tuple ⟨[vint (lastA t r),vint (lastE t r)]⟩) H') : Good prog J 9 [v,rv] H K := by
 refine g9 hJ fun ok => ?_
 rw [e9,ht.val]
 refine qBox (tro_one ht) fun H1 p1 e1 S1 c1 l1 => ?_
 have tk := tro_kn ht
 refine load_part (c := troCells t fv) c1 (by simp [troCells]) rfl tk (good15 hJ ⟨rfl,S1.sli ht.fl (by simp)⟩ (S1.sli hr (by simp)) hl (neqI (cndI (fun g1 => ?_) fun g1 => ?_)))
 ·have e : lastE t r = rotaE t r := by unfold lastE; rw [if_pos g1]
  have e' : lastA t r = 0 := by unfold lastA; rw [if_neg fun x => g1 x.1]
  refine retL_same (by simp [unk]) ?_
  have := hK H1 S1
  rw [e,e'] at this
  exact this
 ·obtain ⟨f,g⟩ := rotaE_fine (by omega : rotaE t r = 0)
  refine load_part (c := troCells t fv) c1 (by simp [troCells]) rfl tk (good16 hJ ⟨rfl,S1.sli ht.fl (by simp)⟩ (S1.sli hr (by simp)) f g fun H2 S2 => ?_)
  have T2 := S1.trans S2
  refine lssI (cndI (fun g2 => ?_) fun g2 => ?_)
  ·have e : lastE t r = 11 := by unfold lastE; rw [if_neg g1,if_pos g2]
   have e' : lastA t r = 0 := by unfold lastA; rw [if_neg fun x => by have := x.2; omega]
   refine retL_same (by simp [unk]) ?_
   have := hK H2 T2
   rw [e,e'] at this
   exact this
  ·have e : lastE t r = 0 := by unfold lastE; rw [if_neg g1,if_neg g2]
   have e' : lastA t r = lastsR t r := by unfold lastA; rw [if_pos ⟨by omega,by omega⟩]
   refine retL_same (by simp [unk]) ?_
   have := hK H2 T2
   rw [e,e'] at this
   exact this
end
end Go.Proofs.Yteoenhhmcpipoaa
namespace Go.Proofs.Yteoenhhmcpipoaa
open Go.Conc Go.Proofs.Try
set_option maxRecDepth 100000
set_option maxHeartbeats 4000000
set_option linter.unusedVariables false
section
variable {main : Bool} {J : JT} {n0 : Nat} {h : List AObj} {K : Value → List AObj → Prop}
theorem at20 : prog.funcs[20]? = some f20 := by kernel_rfl
theorem body20 : f20.body = some (codeOf f20) := by kernel_rfl
def pl20 : Plans := []
def ct20 : Cuts := .go
theorem pok20 : plansOk prog pl20 (codeOf f20) = true := by kernel_rfl
theorem e20 {a0 a1 a2 : Value} : W prog J 19 h.length 20 (codeOf f20) (RG.mk (regs [a0,a1,a2]) []) h (RetQ prog [.tmp 6,.tmp 7] h.length K) =
(Sem J 19 h.length 20 (subC [1,0,1,0] (codeOf f20)) (RG.p (RG.p (RG.p (RG.p (RG.mk (regs [a0,a1,a2]) []) 6 (vint 0)) 7 (Value.bool false)) 9 a0) 8 a0) h (contX pl20 prog J 19 h.length 20 ct20 [1,0,1,0] (codeOf f20) [] (RetQ prog [.tmp 6,.tmp 7] h.length K))) := top_eq pok20 ct20 (by kernel_rfl)
theorem g20 (hJ : Closed prog main J) {a0 a1 a2 : Value} (hs : heapOk h → W prog J 19 h.length 20 (codeOf f20) (RG.mk (regs [a0,a1,a2]) []) h (RetQ prog [.tmp 6,.tmp 7] h.length K)) : Good prog J 20 [a0,a1,a2] h K :=
 good_of_W hJ mixed at20 body20 (by kernel_rfl) (Nat.le_of_ble_eq_true rfl) hs
theorem s20_1 {f : RG} {nx0 : RG → List AObj → Prop} : W prog J 19 n0 20 (subC [1,0,1,0,0] (codeOf f20)) f h (thenK nx0 (contX pl20 prog J 19 n0 20 ct20 [1,0,1,0] (codeOf f20) [] (RetQ prog [.tmp 6,.tmp 7] n0 K))) =
(aBin prog .leq 3 (f.r 8) (f.r 1) fun v1 =>
cnd v1
(callV prog (Good prog J) (f.r 2) [(f.r 8)] h fun v2 h3 =>
cnd v2
(retL n0 K f.ds [(f.r 8),(Value.bool true)] h3)
(aBin prog .add 3 (f.r 8) (vint 1) fun v4 =>
nx0 (RG.p (RG.p (RG.p (RG.p (RG.p (RG.p (RG.p (RG.p (RG.p f 10 (f.r 8)) 11 (f.r 1)) 12 v1) 15 (f.r 2)) 16 (f.r 8)) 17 v2) 13 (f.r 8)) 14 v4) 8 v4) h3))
(retL n0 K f.ds [(vint 0),(Value.bool false)] h)) := sub_eq pok20 ct20 (by kernel_rfl)
theorem l20_1 (hJ : Closed prog main J) {S : Type} (μ : S → Nat) (I : S → RG → List AObj → Prop) (hI : ∀ s f h,I s f h → heapOk h → n0 ≤ h.length → W prog J 19 n0 20 (subC [1,0,1,0,0] (codeOf f20)) f h (thenK (Nx n0 μ I s) (contX pl20 prog J 19 n0 20 ct20 [1,0,1,0] (codeOf f20) [] (RetQ prog [.tmp 6,.tmp 7] n0 K))))
 {s : S} {f : RG} (hi : Gets n0 I s f h) : Sem J 19 n0 20 (subC [1,0,1,0] (codeOf f20)) f h (contX pl20 prog J 19 n0 20 ct20 [1,0,1,0] (codeOf f20) [] (RetQ prog [.tmp 6,.tmp 7] n0 K)) :=
 loop_rule hJ mixed (b := subC [1,0,1,0,0] (codeOf f20)) (by kernel_rfl) μ I hI hi
end
end Go.Proofs.Yteoenhhmcpipoaa
namespace Go.Proofs.Yteoenhhmcpipoaa
open Go.Conc Go.Proofs.Try
set_option maxRecDepth 100000
def firstN {α : Type} (f : Nat → Option α) : Nat → Option α
 | 0 => none
 | n + 1 => (firstN f n).or (f n)
theorem firstN_none {α : Type} {f : Nat → Option α} : ∀ {n : Nat},(∀ i,i < n → f i = none) → firstN f n = none
 | 0,_ => rfl
 | n + 1,h => by
  unfold firstN
  rw [firstN_none fun i hi => h i (by omega),h n (by omega)]
  rfl
theorem firstN_some {α : Type} {f : Nat → Option α} {k : Nat} {r : α} : ∀ {n : Nat},k < n → (∀ i,i < k → f i = none) → f k = some r → firstN f n = some r
 | 0,h,_,_ => absurd h (Nat.not_lt_zero _)
 | n + 1,h,h0,hr => by
  unfold firstN
  by_cases e : k = n
  ·subst e
   rw [firstN_none h0,hr]
   rfl
  ·rw [firstN_some (by omega) h0 hr]
   rfl
def leastR (P : Int → Bool) (lo hi : Int) : Option Int := firstN (fun i => bif P (lo + i) then some (lo + (i : Int)) else none) (hi + 1 - lo).toNat
theorem leastR_some {P : Int → Bool} {lo hi n : Int} (h1 : lo ≤ n) (h2 : n ≤ hi) (hp : P n = true) (hn : ∀ m,lo ≤ m → m < n → P m = false) : leastR P lo hi = some n := by
 refine firstN_some (k := (n - lo).toNat) (by omega) (fun i hi => ?_) ?_
 ·rw [hn (lo + i) (by omega) (by omega)]
  rfl
 ·have e : lo + ((n - lo).toNat : Int) = n := by omega
  rw [e,hp]
  rfl
theorem leastR_none {P : Int → Bool} {lo hi : Int} (hn : ∀ m,lo ≤ m → m ≤ hi → P m = false) : leastR P lo hi = none := by
 refine firstN_none fun i hi => ?_
 rw [hn (lo + i) (by omega) (by omega)]
 rfl
section
variable {main : Bool} {J : JT} {h H : List AObj} {K : Value → List AObj → Prop} {KV : Value → Prop} {HL : List AObj → Prop} {n0 : Nat}
theorem good20 (hJ : Closed prog main J) {P : Int → Bool} {lo hi : Int} {fv : Value} (hb : -1000000 ≤ lo ∧ hi ≤ 1000000)
  (hf : ∀ {H' : List AObj} {n : Int} {Kf : Value → List AObj → Prop},SameX [] H H' → lo ≤ n → n ≤ hi → (∀ H'',SameX [] H' H'' → Kf (.bool (P n)) H'') → callV prog (Good prog J) fv [vint n] H' Kf)
  (hK : ∀ H',SameX [] H H' → K (.tuple ⟨[vint ((leastR P lo hi).getD 0),.bool (!(leastR P lo hi).isNone)]⟩) H') : Good prog J 20 [vint lo,vint hi,fv] H K := by
 refine g20 hJ fun ok => ?_
 rw [e20]
 refine l20_1 hJ (fun n : Int => (hi + 1 - n).toNat) (fun n F H' => SameX [] H H' ∧ lo ≤ n ∧ (∀ m,lo ≤ m → m < n → P m = false) ∧ F.ds = [] ∧ F.r 1 = vint hi ∧ F.r 2 = fv ∧ F.r 8 = vint n) ?_ (s := lo)
  (.inl ⟨SameX.refl,Int.le_refl _,fun m h1 h2 => absurd h2 (by omega),rfl,rfl,rfl,rfl⟩)
 rintro n F H' ⟨S,hn,hm,ds,r1,r2,r8⟩ okc hnc
 rw [s20_1,r1,r2,r8,ds]
 refine leqI (cndI (fun hle => ?_) fun hgt => ?_)
 ·refine hf S hn hle fun H2 S2 => cnd_bool.2 ⟨fun hp => ?_,fun hp => ?_⟩
  ·have e := leastR_some hn hle hp hm
   have := hK H2 (S.trans S2)
   rw [e] at this
   exact retL_same (by simp [unk]) this
  ·refine addI (by omega) ⟨n + 1,by dsimp only; omega,.inl ⟨S.trans S2,by omega,fun m h1 h2 => ?_,ds,r1,r2,rfl⟩⟩
   by_cases e : m = n
   ·rw [e,hp]
   ·exact hm m h1 (by omega)
 ·have e := leastR_none (P := P) (lo := lo) (hi := hi) fun m h1 h2 => hm m h1 (by omega)
  have := hK H' S
  rw [e] at this
  exact retL_same (by simp [unk]) this
end
end Go.Proofs.Yteoenhhmcpipoaa
