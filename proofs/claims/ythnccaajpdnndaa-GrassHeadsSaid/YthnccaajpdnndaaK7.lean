/- GrassHeads answers true at every input, and its arguments read behind the call as they read before. No conditions. -/
import Derived.Test.YthnccaajpdnndaaK2
import Derived.Test.YthnccaajpdnndaaK6
import Derived.Test.YthnccaajpdnndaaK5
import Derived.Test.YthnccaajpdnndaaK3
import Derived.Deep.Slices
set_option linter.unusedSimpArgs false
set_option linter.unusedVariables false
namespace Go.Proofs.Ythnccaajpdnndaa
open Go.Conc
abbrev OpIs (P : Program) (J : JT) (ops : Array Oper) (i d N : Nat) (X : RG → List AObj → (Value → List AObj → Prop) → Prop) : Prop :=
 ops[i]? = some (opGet ops i) ∧ (opGet ops i).dst = some d ∧ dstOk N (opGet ops i) = true ∧ (∀ r, gd ops (opGet ops i) r = some true) ∧ ∀ (f : RG) (h : List AObj) (H : Value → List AObj → Prop), opW P (Good P J) (opGet ops i) f.r h H = X f h H
end Go.Proofs.Ythnccaajpdnndaa
namespace Go.Proofs.Ythnccaajpdnndaa
open Go.Conc Go.Proofs.Try
set_option maxRecDepth 100000
set_option maxHeartbeats 4000000
set_option linter.unusedVariables false
section
variable {main : Bool} {J : JT} {n0 : Nat} {h : List AObj} {K : Value → List AObj → Prop}
section
variable {Sx : RG → List AObj → Prop}
theorem at10 : prog.funcs[10]? = some f10 := by kernel_rfl
theorem body10 : f10.body = some (codeOf f10) := by kernel_rfl
def pl10 : Plans := []
def ct10 : Cuts := .go
theorem pok10 : plansOk prog pl10 (trunc 4 (codeOf f10)) = true := by kernel_rfl
theorem e10 {a0 a1 a2 a3 a4 a5 : Value} : W prog J 173 h.length 10 (trunc 4 (codeOf f10)) (RG.mk (regs [a0, a1, a2, a3, a4, a5]) []) h (thenK Sx (RetQ prog [.tmp 12] h.length K)) =
(aBox a0 h fun v1 h2 =>
 aBox a1 h2 fun v3 h4 =>
 Good prog J 22 [a5] h4 fun v5 h6 =>
 Good prog J 24 [v5] h6 fun v7 h8 =>
 Good prog J 25 [v5, (vint 6)] h8 fun v9 h10 =>
 aAlloc [(vint 0), (vint 0), (vint 0), (vint 0), (vint 0), (vint 0)] h10 fun v11 h12 =>
 aAlloc [(vint 0), (vint 0), (vint 0)] h12 fun v13 h14 =>
 aStore 6 v11 v7 h14 fun h15 =>
 aStore 3 v13 v9 h15 fun h16 =>
 aOff v13 0 fun v17 =>
 aLoad false 1 v17 h16 fun v18 =>
 aBin prog .sub 3 v18 (vint 1) fun v19 =>
 Good prog J 26 [v5, v19] h16 fun v20 h21 =>
 Sx (RG.p (RG.p (RG.p (RG.p (RG.p (RG.p (RG.p (RG.p (RG.p (RG.p (RG.p (RG.p (RG.p (RG.p (RG.p (RG.p (RG.p (RG.p (RG.mk (regs [a0, a1, a2, a3, a4, a5]) []) 6 v1) 7 v3) 12 (Value.bool false)) 31 a5) 32 v5) 13 v5) 33 v5) 34 v7) 35 v5) 36 v9) 14 v11) 15 v13) 37 v5) 38 v17) 39 v18) 40 v19) 41 v20) 16 v20) h21) := top_eq pok10 ct10 (by kernel_rfl)
end
noncomputable def ops10_1 : Array Oper := opsAt [1, 1, 1, 1, 0] (codeOf f10)
theorem r10_1 : subC [1, 1, 1, 1, 0] (codeOf f10) = .region 4 ops10_1 true := by kernel_rfl
theorem z10_1 : ops10_1.size = 31 := by kernel_rfl
theorem o10_1_0 {J : JT} : OpIs prog J ops10_1 0 42 173 fun f h H => (aLoad true 6 (f.r 6) h fun v1 =>
 H v1 h) := ⟨by kernel_rfl, by kernel_rfl, by kernel_rfl, fun _ => by kernel_rfl, fun _ _ _ => by kernel_rfl⟩
theorem o10_1_1 {J : JT} : OpIs prog J ops10_1 1 43 173 fun f h H => (aLoad true 6 (f.r 14) h fun v1 =>
 H v1 h) := ⟨by kernel_rfl, by kernel_rfl, by kernel_rfl, fun _ => by kernel_rfl, fun _ _ _ => by kernel_rfl⟩
theorem o10_1_2 {J : JT} : OpIs prog J ops10_1 2 44 173 fun f h H => (aLoad true 6 (f.r 14) h fun v1 =>
 H v1 h) := ⟨by kernel_rfl, by kernel_rfl, by kernel_rfl, fun _ => by kernel_rfl, fun _ _ _ => by kernel_rfl⟩
theorem o10_1_3 {J : JT} : OpIs prog J ops10_1 3 45 173 fun f h H => ((((3 * 6 : Nat) ≤ 16777216 ∧ (3 : Nat) ≤ 16777216 ∧ List.length [(vint 0), (vint 0), (vint 0), (vint 0), (vint 0), (vint 0)] = 6) ∧ aFill (zrep [(vint 0), (vint 0), (vint 0), (vint 0), (vint 0), (vint 0)] 3) [(0, 6, (f.r 42)), (6, 6, (f.r 43)), (12, 6, (f.r 44))] fun c1 =>
 aNewS 3 c1 h fun v2 h3 =>
 H v2 h3)) := ⟨by kernel_rfl, by kernel_rfl, by kernel_rfl, fun _ => by kernel_rfl, fun _ _ _ => by kernel_rfl⟩
theorem o10_1_4 {J : JT} : OpIs prog J ops10_1 4 46 173 fun f h H => (aLoad true 3 (f.r 7) h fun v1 =>
 H v1 h) := ⟨by kernel_rfl, by kernel_rfl, by kernel_rfl, fun _ => by kernel_rfl, fun _ _ _ => by kernel_rfl⟩
theorem o10_1_5 {J : JT} : OpIs prog J ops10_1 5 47 173 fun f h H => (aLoad true 3 (f.r 15) h fun v1 =>
 H v1 h) := ⟨by kernel_rfl, by kernel_rfl, by kernel_rfl, fun _ => by kernel_rfl, fun _ _ _ => by kernel_rfl⟩
theorem o10_1_6 {J : JT} : OpIs prog J ops10_1 6 48 173 fun f h H => (aLoad true 3 (f.r 15) h fun v1 =>
 H v1 h) := ⟨by kernel_rfl, by kernel_rfl, by kernel_rfl, fun _ => by kernel_rfl, fun _ _ _ => by kernel_rfl⟩
theorem o10_1_7 {J : JT} : OpIs prog J ops10_1 7 49 173 fun f h H => ((((3 * 3 : Nat) ≤ 16777216 ∧ (3 : Nat) ≤ 16777216 ∧ List.length [(vint 0), (vint 0), (vint 0)] = 3) ∧ aFill (zrep [(vint 0), (vint 0), (vint 0)] 3) [(0, 3, (f.r 46)), (3, 3, (f.r 47)), (6, 3, (f.r 48))] fun c1 =>
 aNewS 3 c1 h fun v2 h3 =>
 H v2 h3)) := ⟨by kernel_rfl, by kernel_rfl, by kernel_rfl, fun _ => by kernel_rfl, fun _ _ _ => by kernel_rfl⟩
theorem o10_1_8 {J : JT} : OpIs prog J ops10_1 8 50 173 fun f h H => (H (f.r 2) h) := ⟨by kernel_rfl, by kernel_rfl, by kernel_rfl, fun _ => by kernel_rfl, fun _ _ _ => by kernel_rfl⟩
theorem o10_1_9 {J : JT} : OpIs prog J ops10_1 9 51 173 fun f h H => (H (f.r 16) h) := ⟨by kernel_rfl, by kernel_rfl, by kernel_rfl, fun _ => by kernel_rfl, fun _ _ _ => by kernel_rfl⟩
theorem o10_1_10 {J : JT} : OpIs prog J ops10_1 10 52 173 fun f h H => (H (f.r 2) h) := ⟨by kernel_rfl, by kernel_rfl, by kernel_rfl, fun _ => by kernel_rfl, fun _ _ _ => by kernel_rfl⟩
theorem o10_1_11 {J : JT} : OpIs prog J ops10_1 11 53 173 fun f h H => ((((3 * 1 : Nat) ≤ 16777216 ∧ (3 : Nat) ≤ 16777216 ∧ List.length [(vint 0)] = 1) ∧ aFill (zrep [(vint 0)] 3) [(0, 1, (f.r 50)), (1, 1, (f.r 51)), (2, 1, (f.r 52))] fun c1 =>
 aNewS 3 c1 h fun v2 h3 =>
 H v2 h3)) := ⟨by kernel_rfl, by kernel_rfl, by kernel_rfl, fun _ => by kernel_rfl, fun _ _ _ => by kernel_rfl⟩
theorem o10_1_12 {J : JT} : OpIs prog J ops10_1 12 54 173 fun f h H => (H (f.r 3) h) := ⟨by kernel_rfl, by kernel_rfl, by kernel_rfl, fun _ => by kernel_rfl, fun _ _ _ => by kernel_rfl⟩
theorem o10_1_13 {J : JT} : OpIs prog J ops10_1 13 55 173 fun f h H => (H (f.r 13) h) := ⟨by kernel_rfl, by kernel_rfl, by kernel_rfl, fun _ => by kernel_rfl, fun _ _ _ => by kernel_rfl⟩
theorem o10_1_14 {J : JT} : OpIs prog J ops10_1 14 56 173 fun f h H => (aOff (f.r 15) 0 fun v1 =>
 H v1 h) := ⟨by kernel_rfl, by kernel_rfl, by kernel_rfl, fun _ => by kernel_rfl, fun _ _ _ => by kernel_rfl⟩
theorem o10_1_15 {J : JT} : OpIs prog J ops10_1 15 57 173 fun f h H => (aLoad false 1 (f.r 56) h fun v1 =>
 H v1 h) := ⟨by kernel_rfl, by kernel_rfl, by kernel_rfl, fun _ => by kernel_rfl, fun _ _ _ => by kernel_rfl⟩
theorem o10_1_16 {J : JT} : OpIs prog J ops10_1 16 58 173 fun f h H => (H (f.r 16) h) := ⟨by kernel_rfl, by kernel_rfl, by kernel_rfl, fun _ => by kernel_rfl, fun _ _ _ => by kernel_rfl⟩
theorem o10_1_17 {J : JT} : OpIs prog J ops10_1 17 59 173 fun f h H => (aBin prog .sub 3 (f.r 57) (f.r 58) fun v1 =>
 H v1 h) := ⟨by kernel_rfl, by kernel_rfl, by kernel_rfl, fun _ => by kernel_rfl, fun _ _ _ => by kernel_rfl⟩
theorem o10_1_18 {J : JT} : OpIs prog J ops10_1 18 60 173 fun f h H => (Good prog J 23 [(f.r 55), (vint 1), (f.r 59)] h fun v1 h2 =>
 H v1 h2) := ⟨by kernel_rfl, by kernel_rfl, by kernel_rfl, fun _ => by kernel_rfl, fun _ _ _ => by kernel_rfl⟩
theorem o10_1_19 {J : JT} : OpIs prog J ops10_1 19 61 173 fun f h H => (H (f.r 3) h) := ⟨by kernel_rfl, by kernel_rfl, by kernel_rfl, fun _ => by kernel_rfl, fun _ _ _ => by kernel_rfl⟩
theorem o10_1_20 {J : JT} : OpIs prog J ops10_1 20 62 173 fun f h H => ((((3 * 1 : Nat) ≤ 16777216 ∧ (3 : Nat) ≤ 16777216 ∧ List.length [(vint 0)] = 1) ∧ aFill (zrep [(vint 0)] 3) [(0, 1, (f.r 54)), (1, 1, (f.r 60)), (2, 1, (f.r 61))] fun c1 =>
 aNewS 3 c1 h fun v2 h3 =>
 H v2 h3)) := ⟨by kernel_rfl, by kernel_rfl, by kernel_rfl, fun _ => by kernel_rfl, fun _ _ _ => by kernel_rfl⟩
theorem o10_1_21 {J : JT} : OpIs prog J ops10_1 21 63 173 fun f h H => (H (f.r 4) h) := ⟨by kernel_rfl, by kernel_rfl, by kernel_rfl, fun _ => by kernel_rfl, fun _ _ _ => by kernel_rfl⟩
theorem o10_1_22 {J : JT} : OpIs prog J ops10_1 22 64 173 fun f h H => (H (f.r 13) h) := ⟨by kernel_rfl, by kernel_rfl, by kernel_rfl, fun _ => by kernel_rfl, fun _ _ _ => by kernel_rfl⟩
theorem o10_1_23 {J : JT} : OpIs prog J ops10_1 23 65 173 fun f h H => (Good prog J 26 [(f.r 64), (vint 15)] h fun v1 h2 =>
 H v1 h2) := ⟨by kernel_rfl, by kernel_rfl, by kernel_rfl, fun _ => by kernel_rfl, fun _ _ _ => by kernel_rfl⟩
theorem o10_1_24 {J : JT} : OpIs prog J ops10_1 24 66 173 fun f h H => (H (f.r 4) h) := ⟨by kernel_rfl, by kernel_rfl, by kernel_rfl, fun _ => by kernel_rfl, fun _ _ _ => by kernel_rfl⟩
theorem o10_1_25 {J : JT} : OpIs prog J ops10_1 25 67 173 fun f h H => ((((3 * 1 : Nat) ≤ 16777216 ∧ (3 : Nat) ≤ 16777216 ∧ List.length [(vint 0)] = 1) ∧ aFill (zrep [(vint 0)] 3) [(0, 1, (f.r 63)), (1, 1, (f.r 65)), (2, 1, (f.r 66))] fun c1 =>
 aNewS 3 c1 h fun v2 h3 =>
 H v2 h3)) := ⟨by kernel_rfl, by kernel_rfl, by kernel_rfl, fun _ => by kernel_rfl, fun _ _ _ => by kernel_rfl⟩
theorem o10_1_26 {J : JT} : OpIs prog J ops10_1 26 17 173 fun f h H => (H (f.r 45) h) := ⟨by kernel_rfl, by kernel_rfl, by kernel_rfl, fun _ => by kernel_rfl, fun _ _ _ => by kernel_rfl⟩
theorem o10_1_27 {J : JT} : OpIs prog J ops10_1 27 18 173 fun f h H => (H (f.r 49) h) := ⟨by kernel_rfl, by kernel_rfl, by kernel_rfl, fun _ => by kernel_rfl, fun _ _ _ => by kernel_rfl⟩
theorem o10_1_28 {J : JT} : OpIs prog J ops10_1 28 19 173 fun f h H => (H (f.r 53) h) := ⟨by kernel_rfl, by kernel_rfl, by kernel_rfl, fun _ => by kernel_rfl, fun _ _ _ => by kernel_rfl⟩
theorem o10_1_29 {J : JT} : OpIs prog J ops10_1 29 20 173 fun f h H => (H (f.r 62) h) := ⟨by kernel_rfl, by kernel_rfl, by kernel_rfl, fun _ => by kernel_rfl, fun _ _ _ => by kernel_rfl⟩
theorem o10_1_30 {J : JT} : OpIs prog J ops10_1 30 21 173 fun f h H => (H (f.r 67) h) := ⟨by kernel_rfl, by kernel_rfl, by kernel_rfl, fun _ => by kernel_rfl, fun _ _ _ => by kernel_rfl⟩
def pl10t : Plans := [(8, true, .take 0 (.take 1 (.take 2 (.take 3 (.take 4 (.take 5 (.take 6 (.take 7 (.take 8 (.take 9 (.take 10 (.take 11 (.take 12 (.take 13 (.take 14 (.take 15 (.last 16 false (.take 17 (.take 18 (.take 19 (.take 20 (.take 21 (.fin))))))))))))))))))))))),
 (9, true, .take 0 (.take 1 (.take 2 (.take 3 (.take 4 (.take 5 (.take 6 (.take 7 (.take 8 (.take 9 (.take 10 (.take 11 (.take 12 (.take 13 (.take 14 (.take 15 (.last 16 false (.take 17 (.take 18 (.take 19 (.take 20 (.take 21 (.fin))))))))))))))))))))))),
 (10, true, .take 0 (.take 1 (.take 2 (.take 3 (.take 4 (.take 5 (.take 6 (.take 7 (.take 8 (.take 9 (.take 10 (.take 11 (.take 12 (.take 13 (.take 14 (.take 15 (.last 16 false (.take 17 (.take 18 (.take 19 (.take 20 (.take 21 (.fin))))))))))))))))))))))),
 (11, true, .take 0 (.take 1 (.take 2 (.take 3 (.take 4 (.take 5 (.take 6 (.take 7 (.take 8 (.take 9 (.take 10 (.take 11 (.take 12 (.take 13 (.take 14 (.take 15 (.last 16 false (.take 17 (.take 18 (.take 19 (.take 20 (.take 21 (.fin)))))))))))))))))))))))]
def ct10t : Cuts := .bin (.go) (.bin (.go) (.bin (.go) (.bin (.go) (.bin (.go) (.cut (.bin (.bin (.go) (.un (.un (.bin (.go) (.bin (.un (.bin (.go) (.bin (.go) (.cut (.bin (.go) (.bin (.go) (.cut (.bin (.go) (.cut (.go)))))))))) (.go)))))) (.go)))))))
theorem pok10t : plansOk prog pl10t (codeOf f10) = true := by kernel_rfl
theorem s10t_1 {f : RG} : W prog J 173 n0 10 (subC [1, 1, 1, 1, 1] (codeOf f10)) f h (contX pl10t prog J 173 n0 10 ct10t [1, 1, 1, 1, 1] (codeOf f10) [] (RetQ prog [.tmp 12] n0 K)) =
(Sem J 173 n0 10 (subC [1, 1, 1, 1, 1, 0, 1, 0] (codeOf f10)) (RG.p f 22 (vint 0)) h (contX pl10t prog J 173 n0 10 ct10t [1, 1, 1, 1, 1, 0, 1, 0] (codeOf f10) [] (RetQ prog [.tmp 12] n0 K))) := sub_eq pok10t ct10t (by kernel_rfl)
theorem s10t_2 {f : RG} {nx0 : RG → List AObj → Prop} : W prog J 173 n0 10 (subC [1, 1, 1, 1, 1, 0, 1, 0, 0] (codeOf f10)) f h (thenK nx0 (contX pl10t prog J 173 n0 10 ct10t [1, 1, 1, 1, 1, 0, 1, 0] (codeOf f10) [] (RetQ prog [.tmp 12] n0 K))) =
(aLenS (f.r 17) fun v1 =>
 aBin prog .lss 3 (f.r 22) v1 fun v2 =>
 cnd v2
(aIdx 6 (f.r 17) (f.r 22) fun v3 =>
 aLoad true 6 v3 h fun v4 =>
 aIdx 3 (f.r 18) (f.r 22) fun v5 =>
 aLoad true 3 v5 h fun v6 =>
 aIdx 1 (f.r 19) (f.r 22) fun v7 =>
 aLoad false 1 v7 h fun v8 =>
 aIdx 1 (f.r 20) (f.r 22) fun v9 =>
 aLoad false 1 v9 h fun v10 =>
 Good prog J 33 [v4, v6, v8, v10] h fun v11 h12 =>
 aExt v11 0 fun v13 =>
 aExt v11 1 fun v14 =>
 aIdx 6 (f.r 17) (f.r 22) fun v15 =>
 aLoad true 6 v15 h12 fun v16 =>
 aIdx 3 (f.r 18) (f.r 22) fun v17 =>
 aLoad true 3 v17 h12 fun v18 =>
 aIdx 1 (f.r 19) (f.r 22) fun v19 =>
 aLoad false 1 v19 h12 fun v20 =>
 aIdx 1 (f.r 20) (f.r 22) fun v21 =>
 aLoad false 1 v21 h12 fun v22 =>
 Good prog J 44 [v16, v18, v20, v22] h12 fun v23 h24 =>
 aExt v23 0 fun v25 =>
 aExt v23 1 fun v26 =>
 Hold (W prog J 173 n0 10 (subC [1, 1, 1, 1, 1, 0, 1, 0, 0, 1, 0, 0, 1, 1] (codeOf f10)) (RG.p (RG.p (RG.p (RG.p (RG.p (RG.p (RG.p (RG.p (RG.p (RG.p (RG.p (RG.p (RG.p (RG.p (RG.p (RG.p (RG.p (RG.p (RG.p (RG.p (RG.p (RG.p (RG.p (RG.p (RG.p (RG.p (RG.p (RG.p (RG.p (RG.p (RG.p (RG.p (RG.p (RG.p (RG.p (RG.p (RG.p (RG.p (RG.p (RG.p (RG.p (RG.p (RG.p (RG.p (RG.p (RG.p (RG.p (RG.p f 68 (f.r 22)) 69 (f.r 17)) 70 v1) 71 v2) 75 (f.r 17)) 76 (f.r 22)) 77 v3) 78 v4) 79 (f.r 18)) 80 (f.r 22)) 81 v5) 82 v6) 83 (f.r 19)) 84 (f.r 22)) 85 v7) 86 v8) 87 (f.r 20)) 88 (f.r 22)) 89 v9) 90 v10) 91 v11) 74 v11) 92 v13) 93 v14) 23 v13) 24 v14) 95 (f.r 17)) 96 (f.r 22)) 97 v15) 98 v16) 99 (f.r 18)) 100 (f.r 22)) 101 v17) 102 v18) 103 (f.r 19)) 104 (f.r 22)) 105 v19) 106 v20) 107 (f.r 20)) 108 (f.r 22)) 109 v21) 110 v22) 111 v23) 94 v23) 112 v25) 113 v26) 25 v25) 26 v26) h24 (contX pl10t prog J 173 n0 10 ct10t [1, 1, 1, 1, 1, 0, 1, 0, 0, 1, 0, 0, 1, 1] (codeOf f10) [nx0] (RetQ prog [.tmp 12] n0 K))))
(Good prog J 21 [] h fun v27 h28 =>
 retL n0 K f.ds [v27] h28)) := sub_eq pok10t ct10t (by kernel_rfl)
theorem l10t_2 (hJ : Closed prog main J) {S : Type} (μ : S → Nat) (I : S → RG → List AObj → Prop) (hI : ∀ s f h, I s f h → heapOk h → n0 ≤ h.length → W prog J 173 n0 10 (subC [1, 1, 1, 1, 1, 0, 1, 0, 0] (codeOf f10)) f h (thenK (Nx n0 μ I s) (contX pl10t prog J 173 n0 10 ct10t [1, 1, 1, 1, 1, 0, 1, 0] (codeOf f10) [] (RetQ prog [.tmp 12] n0 K))))
 {s : S} {f : RG} (hi : Gets n0 I s f h) : Sem J 173 n0 10 (subC [1, 1, 1, 1, 1, 0, 1, 0] (codeOf f10)) f h (contX pl10t prog J 173 n0 10 ct10t [1, 1, 1, 1, 1, 0, 1, 0] (codeOf f10) [] (RetQ prog [.tmp 12] n0 K)) :=
 loop_rule hJ mixed (b := subC [1, 1, 1, 1, 1, 0, 1, 0, 0] (codeOf f10)) (by kernel_rfl) μ I hI hi
theorem s10t_3 {f : RG} {nx0 : RG → List AObj → Prop} : W prog J 173 n0 10 (subC [1, 1, 1, 1, 1, 0, 1, 0, 0, 1, 0, 0, 1, 1] (codeOf f10)) f h (contX pl10t prog J 173 n0 10 ct10t [1, 1, 1, 1, 1, 0, 1, 0, 0, 1, 0, 0, 1, 1] (codeOf f10) [nx0] (RetQ prog [.tmp 12] n0 K)) =
(aIdx 6 (f.r 17) (f.r 22) fun v1 =>
 aLoad true 6 v1 h fun v2 =>
 aIdx 3 (f.r 18) (f.r 22) fun v3 =>
 aLoad true 3 v3 h fun v4 =>
 aIdx 1 (f.r 21) (f.r 22) fun v5 =>
 aLoad false 1 v5 h fun v6 =>
 aIdx 1 (f.r 19) (f.r 22) fun v7 =>
 aLoad false 1 v7 h fun v8 =>
 Good prog J 45 [v2, v4, v6, v8] h fun v9 h10 =>
 aExt v9 0 fun v11 =>
 aExt v9 1 fun v12 =>
 aIdx 6 (f.r 17) (f.r 22) fun v13 =>
 aLoad true 6 v13 h10 fun v14 =>
 aIdx 3 (f.r 18) (f.r 22) fun v15 =>
 aLoad true 3 v15 h10 fun v16 =>
 aIdx 1 (f.r 21) (f.r 22) fun v17 =>
 aLoad false 1 v17 h10 fun v18 =>
 aIdx 1 (f.r 19) (f.r 22) fun v19 =>
 aLoad false 1 v19 h10 fun v20 =>
 Good prog J 46 [v14, v16, v18, v20] h10 fun v21 h22 =>
 aExt v21 0 fun v23 =>
 aExt v21 1 fun v24 =>
 Hold (W prog J 173 n0 10 (subC [1, 1, 1, 1, 1, 0, 1, 0, 0, 1, 0, 0, 1, 1, 1, 1] (codeOf f10)) (RG.p (RG.p (RG.p (RG.p (RG.p (RG.p (RG.p (RG.p (RG.p (RG.p (RG.p (RG.p (RG.p (RG.p (RG.p (RG.p (RG.p (RG.p (RG.p (RG.p (RG.p (RG.p (RG.p (RG.p (RG.p (RG.p (RG.p (RG.p (RG.p (RG.p (RG.p (RG.p (RG.p (RG.p (RG.p (RG.p (RG.p (RG.p (RG.p (RG.p (RG.p (RG.p (RG.p (RG.p f 115 (f.r 17)) 116 (f.r 22)) 117 v1) 118 v2) 119 (f.r 18)) 120 (f.r 22)) 121 v3) 122 v4) 123 (f.r 21)) 124 (f.r 22)) 125 v5) 126 v6) 127 (f.r 19)) 128 (f.r 22)) 129 v7) 130 v8) 131 v9) 114 v9) 132 v11) 133 v12) 27 v11) 28 v12) 135 (f.r 17)) 136 (f.r 22)) 137 v13) 138 v14) 139 (f.r 18)) 140 (f.r 22)) 141 v15) 142 v16) 143 (f.r 21)) 144 (f.r 22)) 145 v17) 146 v18) 147 (f.r 19)) 148 (f.r 22)) 149 v19) 150 v20) 151 v21) 134 v21) 152 v23) 153 v24) 29 v23) 30 v24) h22 (contX pl10t prog J 173 n0 10 ct10t [1, 1, 1, 1, 1, 0, 1, 0, 0, 1, 0, 0, 1, 1, 1, 1] (codeOf f10) [nx0] (RetQ prog [.tmp 12] n0 K)))) := sub_eq pok10t ct10t (by kernel_rfl)
theorem s10t_4 {f : RG} {nx0 : RG → List AObj → Prop} : W prog J 173 n0 10 (subC [1, 1, 1, 1, 1, 0, 1, 0, 0, 1, 0, 0, 1, 1, 1, 1] (codeOf f10)) f h (contX pl10t prog J 173 n0 10 ct10t [1, 1, 1, 1, 1, 0, 1, 0, 0, 1, 0, 0, 1, 1, 1, 1] (codeOf f10) [nx0] (RetQ prog [.tmp 12] n0 K)) =
(aBin prog .neq 3 (f.r 23) (f.r 25) fun v1 =>
 cnd v1
(Hold (W prog J 173 n0 10 (subC [1, 1, 1, 1, 1, 0, 1, 0, 0, 1, 0, 0, 1, 1, 1, 1, 1] (codeOf f10)) (RG.p (RG.p (RG.p (RG.p (RG.p (RG.p (RG.p (RG.p (RG.p (RG.p (RG.p (RG.p (RG.p (RG.p (RG.p (RG.p (RG.p (RG.p (RG.p (RG.p (RG.p f 154 (f.r 23)) 155 (f.r 25)) 156 v1) 157 v1) 157 (Value.bool true)) 158 undef) 159 undef) 160 undef) 161 (Value.bool true)) 162 (Value.bool true)) 162 (Value.bool true)) 163 undef) 164 undef) 165 undef) 166 (Value.bool true)) 167 (Value.bool true)) 167 (Value.bool true)) 168 undef) 169 undef) 170 undef) 171 (Value.bool true)) h (contX pl10t prog J 173 n0 10 ct10t [1, 1, 1, 1, 1, 0, 1, 0, 0, 1, 0, 0, 1, 1, 1, 1, 1] (codeOf f10) [nx0] (RetQ prog [.tmp 12] n0 K))))
(aBin prog .neq 37 (f.r 24) (f.r 26) fun v2 =>
 cnd v2
(Hold (W prog J 173 n0 10 (subC [1, 1, 1, 1, 1, 0, 1, 0, 0, 1, 0, 0, 1, 1, 1, 1, 1] (codeOf f10)) (RG.p (RG.p (RG.p (RG.p (RG.p (RG.p (RG.p (RG.p (RG.p (RG.p (RG.p (RG.p (RG.p (RG.p (RG.p (RG.p (RG.p (RG.p (RG.p (RG.p (RG.p f 154 (f.r 23)) 155 (f.r 25)) 156 v1) 157 v1) 157 (Value.bool false)) 158 (f.r 24)) 159 (f.r 26)) 160 v2) 161 v2) 162 v2) 162 (Value.bool true)) 163 undef) 164 undef) 165 undef) 166 (Value.bool true)) 167 (Value.bool true)) 167 (Value.bool true)) 168 undef) 169 undef) 170 undef) 171 (Value.bool true)) h (contX pl10t prog J 173 n0 10 ct10t [1, 1, 1, 1, 1, 0, 1, 0, 0, 1, 0, 0, 1, 1, 1, 1, 1] (codeOf f10) [nx0] (RetQ prog [.tmp 12] n0 K))))
(aBin prog .neq 3 (f.r 27) (f.r 29) fun v3 =>
 cnd v3
(Hold (W prog J 173 n0 10 (subC [1, 1, 1, 1, 1, 0, 1, 0, 0, 1, 0, 0, 1, 1, 1, 1, 1] (codeOf f10)) (RG.p (RG.p (RG.p (RG.p (RG.p (RG.p (RG.p (RG.p (RG.p (RG.p (RG.p (RG.p (RG.p (RG.p (RG.p (RG.p (RG.p (RG.p (RG.p (RG.p (RG.p f 154 (f.r 23)) 155 (f.r 25)) 156 v1) 157 v1) 157 (Value.bool false)) 158 (f.r 24)) 159 (f.r 26)) 160 v2) 161 v2) 162 v2) 162 (Value.bool false)) 163 (f.r 27)) 164 (f.r 29)) 165 v3) 166 v3) 167 v3) 167 (Value.bool true)) 168 undef) 169 undef) 170 undef) 171 (Value.bool true)) h (contX pl10t prog J 173 n0 10 ct10t [1, 1, 1, 1, 1, 0, 1, 0, 0, 1, 0, 0, 1, 1, 1, 1, 1] (codeOf f10) [nx0] (RetQ prog [.tmp 12] n0 K))))
(aBin prog .neq 37 (f.r 28) (f.r 30) fun v4 =>
 Hold (W prog J 173 n0 10 (subC [1, 1, 1, 1, 1, 0, 1, 0, 0, 1, 0, 0, 1, 1, 1, 1, 1] (codeOf f10)) (RG.p (RG.p (RG.p (RG.p (RG.p (RG.p (RG.p (RG.p (RG.p (RG.p (RG.p (RG.p (RG.p (RG.p (RG.p (RG.p (RG.p (RG.p (RG.p (RG.p (RG.p f 154 (f.r 23)) 155 (f.r 25)) 156 v1) 157 v1) 157 (Value.bool false)) 158 (f.r 24)) 159 (f.r 26)) 160 v2) 161 v2) 162 v2) 162 (Value.bool false)) 163 (f.r 27)) 164 (f.r 29)) 165 v3) 166 v3) 167 v3) 167 (Value.bool false)) 168 (f.r 28)) 169 (f.r 30)) 170 v4) 171 v4) h (contX pl10t prog J 173 n0 10 ct10t [1, 1, 1, 1, 1, 0, 1, 0, 0, 1, 0, 0, 1, 1, 1, 1, 1] (codeOf f10) [nx0] (RetQ prog [.tmp 12] n0 K))))))) := sub_eq pok10t ct10t (by kernel_rfl)
theorem s10t_5 {f : RG} {nx0 : RG → List AObj → Prop} : W prog J 173 n0 10 (subC [1, 1, 1, 1, 1, 0, 1, 0, 0, 1, 0, 0, 1, 1, 1, 1, 1] (codeOf f10)) f h (contX pl10t prog J 173 n0 10 ct10t [1, 1, 1, 1, 1, 0, 1, 0, 0, 1, 0, 0, 1, 1, 1, 1, 1] (codeOf f10) [nx0] (RetQ prog [.tmp 12] n0 K)) =
(cnd (f.r 171)
(retL n0 K f.ds [(Value.bool false)] h)
(aBin prog .add 3 (f.r 22) (vint 1) fun v1 =>
 nx0 (RG.p (RG.p (RG.p f 72 (f.r 22)) 73 v1) 22 v1) h)) := sub_eq pok10t ct10t (by kernel_rfl)
end
end Go.Proofs.Ythnccaajpdnndaa
namespace Go.Proofs.Ythnccaajpdnndaa
open Go.Conc Go.Proofs.Try
set_option maxRecDepth 100000
def B3s (hb : Nat) (H : List AObj) (v : Value) (c : List Value) : Prop := ∃ p, v = .slice (some ⟨p, 0, none⟩) 3 3 ∧ p ≠ hb ∧ H[p]? = some (.cells c true 0)
theorem B3s.same {hb : Nat} {H H' : List AObj} {v : Value} {c : List Value} (a : B3s hb H v c) (S : SameX [hb] H H') : B3s hb H' v c := by
 obtain ⟨p, h1, h2, h3⟩ := a
 exact ⟨p, h1, h2, S.get h3 (by simpa using h2)⟩
structure Vals (hb : Nat) (F : Nat → Option Value) (G : Nat → Option (Int → List Value)) (j : Nat) (v : Value) (H : List AObj) : Prop where
 f : ∀ x, F j = some x → v = x
 g : ∀ c, G j = some c → ∃ y, B3s hb H v (c y)
 y : F j = none → G j = none → ∃ y : Int, v = vint y
section
variable {hb : Nat} {F : Nat → Option Value} {G : Nat → Option (Int → List Value)} {j : Nat} {v x : Value} {H H' : List AObj} {c : Int → List Value} {y : Int}
theorem Vals.same (a : Vals hb F G j v H) (S : SameX [hb] H H') : Vals hb F G j v H' := ⟨a.f, fun c e => let ⟨y, b⟩ := a.g c e; ⟨y, b.same S⟩, a.y⟩
theorem vals_f (e : F j = some x) (e2 : G j = none) : Vals hb F G j x H := ⟨fun z h => Option.some.inj (e.symm.trans h), fun c h => (by rw [e2] at h; cases h), fun h => (by rw [e] at h; cases h)⟩
theorem vals_g (e : G j = some c) (e2 : F j = none) (b : B3s hb H v (c y)) : Vals hb F G j v H := ⟨fun z h => (by rw [e2] at h; cases h), fun c' h => ⟨y, by rw [← Option.some.inj (e.symm.trans h)]; exact b⟩, fun _ h => (by rw [e] at h; cases h)⟩
theorem vals_y (e : F j = none) (e2 : G j = none) : Vals hb F G j (vint y) H := ⟨fun z h => (by rw [e] at h; cases h), fun c' h => (by rw [e2] at h; cases h), fun _ _ => ⟨y, rfl⟩⟩
end
def vf10 (p p2 : Pas) (s s2 : SkyR) (fr x dy hd : Int) (hb p15 : Nat) : Nat → Option Value
 | 0 => some (.agg ⟨p.cells⟩)
 | 1 => some (.agg ⟨p2.cells⟩)
 | 2 => some (.agg ⟨p2.cells⟩)
 | 4 => some (.agg ⟨s.cells⟩)
 | 5 => some (.agg ⟨s2.cells⟩)
 | 6 => some (.agg ⟨s2.cells⟩)
 | 8 => some (vint fr)
 | 9 => some (vint x)
 | 10 => some (vint fr)
 | 12 => some (vint dy)
 | 13 => some (ptr hb 0)
 | 14 => some (ptr p15 0)
 | 15 => some (vint s2.days)
 | 16 => some (vint x)
 | 17 => some (vint (s2.days - x))
 | 19 => some (vint dy)
 | 21 => some (vint hd)
 | 22 => some (ptr hb 0)
 | 24 => some (vint hd)
 | _ => none
def vs10 (p p2 : Pas) (s s2 : SkyR) (fr x dy hd : Int) : Nat → Option (Int → List Value)
 | 3 => some fun _ => [p, p2, p2].flatMap Pas.cells
 | 26 => some fun _ => [p, p2, p2].flatMap Pas.cells
 | 7 => some fun _ => [s, s2, s2].flatMap SkyR.cells
 | 27 => some fun _ => [s, s2, s2].flatMap SkyR.cells
 | 11 => some fun _ => [fr, x, fr].map vint
 | 28 => some fun _ => [fr, x, fr].map vint
 | 20 => some fun y => [dy, y, dy].map vint
 | 29 => some fun y => [dy, y, dy].map vint
 | 25 => some fun y => [hd, y, hd].map vint
 | 30 => some fun y => [hd, y, hd].map vint
 | _ => none
section
variable {main : Bool} {J : JT} {h H H0 : List AObj} {K : Value → List AObj → Prop} {n0 : Nat}
structure M10 (Hb : List AObj) (ns : List Int) (H : List AObj) (f : RG) (p p2 : Pas) (s s2 : SkyR) (fr x dy hd : Int) (p6 p7 p14 p15 : Nat) : Prop where
 ds : f.ds = []
 hx : HX Hb H ns 199
 r2 : f.r 2 = vint fr
 r3 : f.r 3 = vint dy
 r4 : f.r 4 = vint hd
 r6 : f.r 6 = ptr p6 0
 r7 : f.r 7 = ptr p7 0
 r13 : f.r 13 = ptr Hb.length 0
 r14 : f.r 14 = ptr p14 0
 r15 : f.r 15 = ptr p15 0
 r16 : f.r 16 = vint x
 n6 : p6 ≠ Hb.length
 n7 : p7 ≠ Hb.length
 n14 : p14 ≠ Hb.length
 n15 : p15 ≠ Hb.length
 c6 : H[p6]? = some (.cells p.cells true 0)
 c7 : H[p7]? = some (.cells s.cells true 0)
 c14 : H[p14]? = some (.cells p2.cells true 0)
 c15 : H[p15]? = some (.cells s2.cells true 0)
 x0 : 0 ≤ x ∧ x ≤ 100
 d0 : 0 ≤ s2.days ∧ s2.days ≤ 100
theorem front10 (hJ : Closed prog main J) {p : Pas} {s : SkyR} {fr dy hd : Int} {nv : Value} {ns : List Int} {Sx : RG → List AObj → Prop} (sn : Sli h nv 1 ns.length (ns.map vint)) (hln : ns.length < 4611686018427387904)
  (hS : ∀ Hb H f p2 s2 x p6 p7 p14 p15, M10 Hb ns H f p p2 s s2 fr x dy hd p6 p7 p14 p15 → Sx f H) :
  W prog J 173 h.length 10 (trunc 4 (codeOf f10)) (RG.mk (regs [.agg ⟨p.cells⟩, .agg ⟨s.cells⟩, vint fr, vint dy, vint hd, nv]) []) h (thenK Sx (RetQ prog [.tmp 12] h.length K)) := by
 rw [e10]
 refine qBox (l := p.cells) rfl fun H1 p6 e1 S1 c1 l1 => qBox (l := s.cells) rfl fun H3 p7 e3 S3 c3 l3 => ?_
 refine newX hJ ((S1.trans S3).sli sn (by simp)) hln fun H4 a4 => ?_
 refine good24 hJ a4 (by omega) fun p2 H6 ok6 b6 S6 a6 => ?_
 refine good25 hJ a6 (by omega) (by decide) fun s2 H7 ok7 d7 S7 a7 => ?_
 have lt7 := hxLt a7
 refine qAl fun H9 p14 e9 S9 c9 l9 => qAl fun H10 p15 e10 S10 c10 l10 => ?_
 refine qStA (c := p2.cells) (S10.get c9 (by simp)) rfl rfl rfl fun H12 S12 c12 l12 => ?_
 refine qStA (c := s2.cells) (S12.get c10 (by simp; omega)) rfl rfl rfl fun H13 S13 c13 l13 => ?_
 have a13 := (((a7.same S9 (by simp)).same S10 (by simp)).same S12 (by simp; omega)).same S13 (by simp; omega)
 obtain ⟨q1, q2, q3⟩ := ok7
 refine offI (ldI (v := vint s2.days) c13 rfl rfl (subI (by omega) ?_))
 refine upX hJ a13 (by omega) (by omega) fun x H14 x1 x2 S14 l14 a14 => ?_
 have P : SameX [] H3 H14 := by
  obtain ⟨nv', k', s', rest, rfl, _⟩ := a14
  exact ⟨by rw [hf_len]; omega, fun i hi _ => by unfold HF; rw [List.getElem?_append_left hi]⟩
 have d14 := S14.get (S13.get c12 (by simp; omega)) (by simp; omega)
 have d15 := S14.get c13 (by simp; omega)
 have i1 := lt_of_get (S3.get c1 (by simp))
 have i3 := lt_of_get c3
 exact hS H3 H14 _ p2 s2 x p6 p7 p14 p15 ⟨rfl, a14.mono (by omega), rfl, rfl, rfl, rfl, rfl, rfl, rfl, rfl, rfl, by omega, by omega, by omega, by omega,
  P.get (S3.get c1 (by simp)) (by simp), P.get c3 (by simp), d14, d15, by omega, by omega⟩
set_option maxHeartbeats 4000000 in
theorem region10 (hJ : Closed prog main J) {Hb H : List AObj} {ns : List Int} {f : RG} {p p2 : Pas} {s s2 : SkyR} {fr x dy hd : Int} {p6 p7 p14 p15 : Nat} {Q : QT} (M : M10 Hb ns H f p p2 s s2 fr x dy hd p6 p7 p14 p15)
  (hS : ∀ f' H' y z, f'.ds = [] → B3s Hb.length H' (f'.r 17) ([p, p2, p2].flatMap Pas.cells) → B3s Hb.length H' (f'.r 18) ([s, s2, s2].flatMap SkyR.cells) → B3s Hb.length H' (f'.r 19) ([fr, x, fr].map vint) → B3s Hb.length H' (f'.r 20) ([dy, y, dy].map vint) → B3s Hb.length H' (f'.r 21) ([hd, z, hd].map vint) → Q .normal f' H') :
  Sem J 173 n0 10 (subC [1, 1, 1, 1, 0] (codeOf f10)) f H Q := by
 rw [r10_1]
 have z := z10_1
 refine Sem_vals hJ mixed (by kernel_rfl) (by kernel_rfl) (Vals Hb.length (vf10 p p2 s s2 fr x dy hd Hb.length p15) (vs10 p p2 s s2 fr x dy hd)) (fun d H' => HX Hb H' ns (199 + (bif d 18 then 1 else 0) + (bif d 23 then 1 else 0)) ∧ SameX [Hb.length] H H') (SameX [Hb.length]) (fun j v h h' S a => a.same S) ⟨M.hx, SameX.refl⟩ ?_ ?_
 ·intro d i o f1 h1 ho hd2 hB hout hdep
  obtain ⟨hx, S⟩ := hB
  have out : ∀ {t}, noDst ops10_1 t = true → f1.r t = f.r t := fun hn => hout _ (noDst_spec hn)
  have hi : i < 31 := by
   have := (Array.getElem?_eq_some_iff.1 ho).1
   omega
  have dep : ∀ {j pj t}, needs ops10_1 i j = true → (ops10_1[j]? = some pj ∧ pj.dst = some t) → Vals Hb.length (vf10 p p2 s s2 fr x dy hd Hb.length p15) (vs10 p p2 s s2 fr x dy hd) j (f1.r t) h1 := fun hn e => needs_spec (A := fun j t => Vals Hb.length _ _ j (f1.r t) h1) hn ho e.1 e.2 hdep
  have same : ∀ {v}, (18 == i) = false → (23 == i) = false → Vals Hb.length (vf10 p p2 s s2 fr x dy hd Hb.length p15) (vs10 p p2 s s2 fr x dy hd) i v h1 → Vals Hb.length (vf10 p p2 s s2 fr x dy hd Hb.length p15) (vs10 p p2 s s2 fr x dy hd) i v h1 ∧ (HX Hb h1 ns (199 + (bif (18 == i || d 18) then 1 else 0) + (bif (23 == i || d 23) then 1 else 0)) ∧ SameX [Hb.length] H h1) ∧ SameX [Hb.length] h1 h1 := fun {v} e1 e2 q => by
   rw [e1, e2, Bool.false_or, Bool.false_or]
   exact ⟨q, ⟨hx, S⟩, SameX.refl⟩
  have made : ∀ {c g} {y : Int} {h2 : List AObj} {q : Nat}, (18 == i) = false → (23 == i) = false → vs10 p p2 s s2 fr x dy hd i = some g → vf10 p p2 s s2 fr x dy hd Hb.length p15 i = none → g y = c → q = h1.length → SameX [] h1 h2 → h2[q]? = some (.cells c true 0) → Vals Hb.length (vf10 p p2 s s2 fr x dy hd Hb.length p15) (vs10 p p2 s s2 fr x dy hd) i (.slice (some ⟨q, 0, none⟩) 3 3) h2 ∧ (HX Hb h2 ns (199 + (bif (18 == i || d 18) then 1 else 0) + (bif (23 == i || d 23) then 1 else 0)) ∧ SameX [Hb.length] H h2) ∧ SameX [Hb.length] h1 h2 := fun {c g y h2 q} b1 b2 e1 e2 e3 eq S2 c2 => by
   have := hxLt hx
   rw [b1, b2, Bool.false_or, Bool.false_or]
   exact ⟨vals_g e1 e2 (y := y) ⟨q, rfl, by omega, by rw [e3]; exact c2⟩, ⟨hx.same S2 (by simp), S.trans S2.weak0⟩, S2.weak0⟩
  match i, hi with
  | 0, _ =>
   refine op_step o10_1_0 ho ?_
   rw [out (t := 6) (by kernel_rfl), M.r6]
   exact load_part (c := p.cells) (S.get M.c6 (by simpa using M.n6)) (by simp [Pas.cells]) rfl rfl (same rfl rfl (vals_f rfl rfl))
  | 1, _ =>
   refine op_step o10_1_1 ho ?_
   rw [out (t := 14) (by kernel_rfl), M.r14]
   exact load_part (c := p2.cells) (S.get M.c14 (by simpa using M.n14)) (by simp [Pas.cells]) rfl rfl (same rfl rfl (vals_f rfl rfl))
  | 2, _ =>
   refine op_step o10_1_2 ho ?_
   rw [out (t := 14) (by kernel_rfl), M.r14]
   exact load_part (c := p2.cells) (S.get M.c14 (by simpa using M.n14)) (by simp [Pas.cells]) rfl rfl (same rfl rfl (vals_f rfl rfl))
  | 3, _ =>
   refine op_step o10_1_3 ho ?_
   have u0 := (dep (j := 0) (t := 42) (by kernel_rfl) ⟨o10_1_0 (J := J).1, o10_1_0 (J := J).2.1⟩).f _ rfl
   have u1 := (dep (j := 1) (t := 43) (by kernel_rfl) ⟨o10_1_1 (J := J).1, o10_1_1 (J := J).2.1⟩).f _ rfl
   have u2 := (dep (j := 2) (t := 44) (by kernel_rfl) ⟨o10_1_2 (J := J).1, o10_1_2 (J := J).2.1⟩).f _ rfl
   rw [u0, u1, u2]
   refine ⟨by decide, fillO (l := p.cells) rfl rfl rfl (Nat.le_of_ble_eq_true rfl) (fillO (l := p2.cells) rfl rfl rfl (Nat.le_of_ble_eq_true rfl) (fillO (l := p2.cells) rfl rfl rfl (Nat.le_of_ble_eq_true rfl) (fillI (qNew fun h2 q eq S2 c2 l2 => ?_))))⟩
   exact made rfl rfl rfl rfl (y := 0) rfl eq S2 c2
  | 4, _ =>
   refine op_step o10_1_4 ho ?_
   rw [out (t := 7) (by kernel_rfl), M.r7]
   exact load_part (c := s.cells) (S.get M.c7 (by simpa using M.n7)) (by simp [SkyR.cells]) rfl rfl (same rfl rfl (vals_f rfl rfl))
  | 5, _ =>
   refine op_step o10_1_5 ho ?_
   rw [out (t := 15) (by kernel_rfl), M.r15]
   exact load_part (c := s2.cells) (S.get M.c15 (by simpa using M.n15)) (by simp [SkyR.cells]) rfl rfl (same rfl rfl (vals_f rfl rfl))
  | 6, _ =>
   refine op_step o10_1_6 ho ?_
   rw [out (t := 15) (by kernel_rfl), M.r15]
   exact load_part (c := s2.cells) (S.get M.c15 (by simpa using M.n15)) (by simp [SkyR.cells]) rfl rfl (same rfl rfl (vals_f rfl rfl))
  | 7, _ =>
   refine op_step o10_1_7 ho ?_
   have u4 := (dep (j := 4) (t := 46) (by kernel_rfl) ⟨o10_1_4 (J := J).1, o10_1_4 (J := J).2.1⟩).f _ rfl
   have u5 := (dep (j := 5) (t := 47) (by kernel_rfl) ⟨o10_1_5 (J := J).1, o10_1_5 (J := J).2.1⟩).f _ rfl
   have u6 := (dep (j := 6) (t := 48) (by kernel_rfl) ⟨o10_1_6 (J := J).1, o10_1_6 (J := J).2.1⟩).f _ rfl
   rw [u4, u5, u6]
   refine ⟨by decide, fillO (l := s.cells) rfl rfl rfl (Nat.le_of_ble_eq_true rfl) (fillO (l := s2.cells) rfl rfl rfl (Nat.le_of_ble_eq_true rfl) (fillO (l := s2.cells) rfl rfl rfl (Nat.le_of_ble_eq_true rfl) (fillI (qNew fun h2 q eq S2 c2 l2 => ?_))))⟩
   exact made rfl rfl rfl rfl (y := 0) rfl eq S2 c2
  | 8, _ =>
   refine op_step o10_1_8 ho ?_
   rw [out (t := 2) (by kernel_rfl), M.r2]
   exact same rfl rfl (vals_f rfl rfl)
  | 9, _ =>
   refine op_step o10_1_9 ho ?_
   rw [out (t := 16) (by kernel_rfl), M.r16]
   exact same rfl rfl (vals_f rfl rfl)
  | 10, _ =>
   refine op_step o10_1_10 ho ?_
   rw [out (t := 2) (by kernel_rfl), M.r2]
   exact same rfl rfl (vals_f rfl rfl)
  | 11, _ =>
   refine op_step o10_1_11 ho ?_
   have u8 := (dep (j := 8) (t := 50) (by kernel_rfl) ⟨o10_1_8 (J := J).1, o10_1_8 (J := J).2.1⟩).f _ rfl
   have u9 := (dep (j := 9) (t := 51) (by kernel_rfl) ⟨o10_1_9 (J := J).1, o10_1_9 (J := J).2.1⟩).f _ rfl
   have u10 := (dep (j := 10) (t := 52) (by kernel_rfl) ⟨o10_1_10 (J := J).1, o10_1_10 (J := J).2.1⟩).f _ rfl
   rw [u8, u9, u10]
   refine ⟨by decide, fillO (l := [vint fr]) rfl rfl rfl (Nat.le_of_ble_eq_true rfl) (fillO (l := [vint x]) rfl rfl rfl (Nat.le_of_ble_eq_true rfl) (fillO (l := [vint fr]) rfl rfl rfl (Nat.le_of_ble_eq_true rfl) (fillI (qNew fun h2 q eq S2 c2 l2 => ?_))))⟩
   exact made rfl rfl rfl rfl (y := 0) rfl eq S2 c2
  | 12, _ =>
   refine op_step o10_1_12 ho ?_
   rw [out (t := 3) (by kernel_rfl), M.r3]
   exact same rfl rfl (vals_f rfl rfl)
  | 13, _ =>
   refine op_step o10_1_13 ho ?_
   rw [out (t := 13) (by kernel_rfl), M.r13]
   exact same rfl rfl (vals_f rfl rfl)
  | 14, _ =>
   refine op_step o10_1_14 ho ?_
   rw [out (t := 15) (by kernel_rfl), M.r15]
   exact offI (same rfl rfl (vals_f rfl rfl))
  | 15, _ =>
   refine op_step o10_1_15 ho ?_
   have u14 := (dep (j := 14) (t := 56) (by kernel_rfl) ⟨o10_1_14 (J := J).1, o10_1_14 (J := J).2.1⟩).f _ rfl
   rw [u14]
   exact ldI (v := vint s2.days) (S.get M.c15 (by simpa using M.n15)) rfl rfl (same rfl rfl (vals_f rfl rfl))
  | 16, _ =>
   refine op_step o10_1_16 ho ?_
   rw [out (t := 16) (by kernel_rfl), M.r16]
   exact same rfl rfl (vals_f rfl rfl)
  | 17, _ =>
   refine op_step o10_1_17 ho ?_
   have u15 := (dep (j := 15) (t := 57) (by kernel_rfl) ⟨o10_1_15 (J := J).1, o10_1_15 (J := J).2.1⟩).f _ rfl
   have u16 := (dep (j := 16) (t := 58) (by kernel_rfl) ⟨o10_1_16 (J := J).1, o10_1_16 (J := J).2.1⟩).f _ rfl
   rw [u15, u16]
   have := M.x0
   have := M.d0
   exact subI (by omega) (same rfl rfl (vals_f rfl rfl))
  | 18, _ =>
   refine op_step o10_1_18 ho ?_
   have u13 := (dep (j := 13) (t := 55) (by kernel_rfl) ⟨o10_1_13 (J := J).1, o10_1_13 (J := J).2.1⟩).f _ rfl
   have u17 := (dep (j := 17) (t := 59) (by kernel_rfl) ⟨o10_1_17 (J := J).1, o10_1_17 (J := J).2.1⟩).f _ rfl
   rw [u13, u17]
   have := M.x0
   have := M.d0
   refine amX hJ hx (by cases d 18 <;> cases d 23 <;> decide) (by omega) (by omega) fun y h2 y1 y2 S2 l2 hx2 => ?_
   exact ⟨vals_y rfl rfl, ⟨hx2.mono (by show _ ≤ 199 + (bif (18 == 18 || d 18) then 1 else 0) + (bif ((23 : Nat) == 18 || d 23) then 1 else 0); rw [hd2]; cases d 23 <;> decide), S.trans S2⟩, S2⟩
  | 19, _ =>
   refine op_step o10_1_19 ho ?_
   rw [out (t := 3) (by kernel_rfl), M.r3]
   exact same rfl rfl (vals_f rfl rfl)
  | 20, _ =>
   refine op_step o10_1_20 ho ?_
   have u12 := (dep (j := 12) (t := 54) (by kernel_rfl) ⟨o10_1_12 (J := J).1, o10_1_12 (J := J).2.1⟩).f _ rfl
   obtain ⟨y, u18⟩ := (dep (j := 18) (t := 60) (by kernel_rfl) ⟨o10_1_18 (J := J).1, o10_1_18 (J := J).2.1⟩).y rfl rfl
   have u19 := (dep (j := 19) (t := 61) (by kernel_rfl) ⟨o10_1_19 (J := J).1, o10_1_19 (J := J).2.1⟩).f _ rfl
   rw [u12, u18, u19]
   refine ⟨by decide, fillO (l := [vint dy]) rfl rfl rfl (Nat.le_of_ble_eq_true rfl) (fillO (l := [vint y]) rfl rfl rfl (Nat.le_of_ble_eq_true rfl) (fillO (l := [vint dy]) rfl rfl rfl (Nat.le_of_ble_eq_true rfl) (fillI (qNew fun h2 q eq S2 c2 l2 => ?_))))⟩
   exact made rfl rfl rfl rfl (y := y) rfl eq S2 c2
  | 21, _ =>
   refine op_step o10_1_21 ho ?_
   rw [out (t := 4) (by kernel_rfl), M.r4]
   exact same rfl rfl (vals_f rfl rfl)
  | 22, _ =>
   refine op_step o10_1_22 ho ?_
   rw [out (t := 13) (by kernel_rfl), M.r13]
   exact same rfl rfl (vals_f rfl rfl)
  | 23, _ =>
   refine op_step o10_1_23 ho ?_
   have u22 := (dep (j := 22) (t := 64) (by kernel_rfl) ⟨o10_1_22 (J := J).1, o10_1_22 (J := J).2.1⟩).f _ rfl
   rw [u22]
   refine upX hJ hx (by cases d 18 <;> cases d 23 <;> decide) (by omega) fun y h2 y1 y2 S2 l2 hx2 => ?_
   exact ⟨vals_y rfl rfl, ⟨hx2.mono (by show _ ≤ 199 + (bif ((18 : Nat) == 23 || d 18) then 1 else 0) + (bif (23 == 23 || d 23) then 1 else 0); rw [hd2]; cases d 18 <;> decide), S.trans S2⟩, S2⟩
  | 24, _ =>
   refine op_step o10_1_24 ho ?_
   rw [out (t := 4) (by kernel_rfl), M.r4]
   exact same rfl rfl (vals_f rfl rfl)
  | 25, _ =>
   refine op_step o10_1_25 ho ?_
   have u21 := (dep (j := 21) (t := 63) (by kernel_rfl) ⟨o10_1_21 (J := J).1, o10_1_21 (J := J).2.1⟩).f _ rfl
   obtain ⟨y, u23⟩ := (dep (j := 23) (t := 65) (by kernel_rfl) ⟨o10_1_23 (J := J).1, o10_1_23 (J := J).2.1⟩).y rfl rfl
   have u24 := (dep (j := 24) (t := 66) (by kernel_rfl) ⟨o10_1_24 (J := J).1, o10_1_24 (J := J).2.1⟩).f _ rfl
   rw [u21, u23, u24]
   refine ⟨by decide, fillO (l := [vint hd]) rfl rfl rfl (Nat.le_of_ble_eq_true rfl) (fillO (l := [vint y]) rfl rfl rfl (Nat.le_of_ble_eq_true rfl) (fillO (l := [vint hd]) rfl rfl rfl (Nat.le_of_ble_eq_true rfl) (fillI (qNew fun h2 q eq S2 c2 l2 => ?_))))⟩
   exact made rfl rfl rfl rfl (y := y) rfl eq S2 c2
  | 26, _ =>
   refine op_step o10_1_26 ho ?_
   obtain ⟨y, u⟩ := (dep (j := 3) (t := 45) (by kernel_rfl) ⟨o10_1_3 (J := J).1, o10_1_3 (J := J).2.1⟩).g _ rfl
   exact same rfl rfl (vals_g rfl rfl (y := y) u)
  | 27, _ =>
   refine op_step o10_1_27 ho ?_
   obtain ⟨y, u⟩ := (dep (j := 7) (t := 49) (by kernel_rfl) ⟨o10_1_7 (J := J).1, o10_1_7 (J := J).2.1⟩).g _ rfl
   exact same rfl rfl (vals_g rfl rfl (y := y) u)
  | 28, _ =>
   refine op_step o10_1_28 ho ?_
   obtain ⟨y, u⟩ := (dep (j := 11) (t := 53) (by kernel_rfl) ⟨o10_1_11 (J := J).1, o10_1_11 (J := J).2.1⟩).g _ rfl
   exact same rfl rfl (vals_g rfl rfl (y := y) u)
  | 29, _ =>
   refine op_step o10_1_29 ho ?_
   obtain ⟨y, u⟩ := (dep (j := 20) (t := 62) (by kernel_rfl) ⟨o10_1_20 (J := J).1, o10_1_20 (J := J).2.1⟩).g _ rfl
   exact same rfl rfl (vals_g rfl rfl (y := y) u)
  | 30, _ =>
   refine op_step o10_1_30 ho ?_
   obtain ⟨y, u⟩ := (dep (j := 25) (t := 67) (by kernel_rfl) ⟨o10_1_25 (J := J).1, o10_1_25 (J := J).2.1⟩).g _ rfl
   exact same rfl rfl (vals_g rfl rfl (y := y) u)
 ·intro d f1 h1 hB ds hout hin
  have at_ : ∀ {j pj t}, (ops10_1[j]? = some pj ∧ pj.dst = some t) → Vals Hb.length (vf10 p p2 s s2 fr x dy hd Hb.length p15) (vs10 p p2 s s2 fr x dy hd) j (f1.r t) h1 := fun e => hin _ _ _ e.1 e.2
  obtain ⟨y26, u26⟩ := (at_ (j := 26) (t := 17) ⟨o10_1_26 (J := J).1, o10_1_26 (J := J).2.1⟩).g _ rfl
  obtain ⟨y27, u27⟩ := (at_ (j := 27) (t := 18) ⟨o10_1_27 (J := J).1, o10_1_27 (J := J).2.1⟩).g _ rfl
  obtain ⟨y28, u28⟩ := (at_ (j := 28) (t := 19) ⟨o10_1_28 (J := J).1, o10_1_28 (J := J).2.1⟩).g _ rfl
  obtain ⟨y29, u29⟩ := (at_ (j := 29) (t := 20) ⟨o10_1_29 (J := J).1, o10_1_29 (J := J).2.1⟩).g _ rfl
  obtain ⟨y30, u30⟩ := (at_ (j := 30) (t := 21) ⟨o10_1_30 (J := J).1, o10_1_30 (J := J).2.1⟩).g _ rfl
  exact hS f1 h1 y29 y30 (ds.trans M.ds) u26 u27 u28 u29 u30
end
end Go.Proofs.Ythnccaajpdnndaa
namespace Go.Proofs.Ythnccaajpdnndaa
open Go.Conc Go.Proofs.Try
set_option maxRecDepth 100000
set_option maxHeartbeats 4000000
set_option linter.unusedVariables false
section
variable {main : Bool} {J : JT} {n0 : Nat} {h : List AObj} {K : Value → List AObj → Prop}
theorem at46 : prog.funcs[46]? = some f46 := by kernel_rfl
theorem body46 : f46.body = some (codeOf f46) := by kernel_rfl
def pl46 : Plans := []
def ct46 : Cuts := .go
theorem pok46 : plansOk prog pl46 (codeOf f46) = true := by kernel_rfl
theorem e46 {a0 a1 a2 a3 : Value} : W prog J 49 h.length 46 (codeOf f46) (RG.mk (regs [a0, a1, a2, a3]) []) h (RetQ prog [.tmp 8, .tmp 9] h.length K) =
(aBox a0 h fun v1 h2 =>
 aBox a1 h2 fun v3 h4 =>
 aLoad true 6 v1 h4 fun v5 =>
 Good prog J 37 [v5] h4 fun v6 h7 =>
 aBin prog .neq 37 v6 (vint 0) fun v8 =>
 cnd v8
(retL h.length K [] [(vint 0), v6] h7)
(aLoad true 3 v3 h7 fun v9 =>
 Good prog J 81 [v9] h7 fun v10 h11 =>
 aBin prog .neq 37 v10 (vint 0) fun v12 =>
 cnd v12
(retL h.length K [] [(vint 0), v10] h11)
(Good prog J 82 [a2, (vint 0), (vint 40)] h11 fun v13 h14 =>
 aUn .not v13 fun v15 =>
 cnd v15
(retL h.length K [] [(vint 0), (vint 1)] h14)
(aOff v3 0 fun v16 =>
 aLoad false 1 v16 h14 fun v17 =>
 aBin prog .sub 3 v17 (vint 1) fun v18 =>
 Good prog J 82 [a3, (vint 0), v18] h14 fun v19 h20 =>
 aUn .not v19 fun v21 =>
 cnd v21
(retL h.length K [] [(vint 0), (vint 3)] h20)
(Sem J 49 h.length 46 (subC [1, 1, 1, 1, 1, 1, 0, 1, 0] (codeOf f46)) (RG.p (RG.p (RG.p (RG.p (RG.p (RG.p (RG.p (RG.p (RG.p (RG.p (RG.p (RG.p (RG.p (RG.p (RG.p (RG.p (RG.p (RG.p (RG.p (RG.p (RG.p (RG.p (RG.p (RG.p (RG.p (RG.mk (regs [a0, a1, a2, a3]) []) 4 v1) 5 v3) 8 (vint 0)) 9 (vint 0)) 14 v5) 15 v6) 10 v6) 16 v6) 17 v8) 19 v9) 20 v10) 11 v10) 21 v10) 22 v12) 24 a2) 25 v13) 26 v15) 27 a3) 28 v16) 29 v17) 30 v18) 31 v19) 32 v21) 12 (vint 0)) 13 (vint 1)) h20 (contX pl46 prog J 49 h.length 46 ct46 [1, 1, 1, 1, 1, 1, 0, 1, 0] (codeOf f46) [] (RetQ prog [.tmp 8, .tmp 9] h.length K))))))) := top_eq pok46 ct46 (by kernel_rfl)
theorem g46 (hJ : Closed prog main J) {a0 a1 a2 a3 : Value} (hs : heapOk h → W prog J 49 h.length 46 (codeOf f46) (RG.mk (regs [a0, a1, a2, a3]) []) h (RetQ prog [.tmp 8, .tmp 9] h.length K)) : Good prog J 46 [a0, a1, a2, a3] h K :=
 good_of_W hJ mixed at46 body46 (by kernel_rfl) (Nat.le_of_ble_eq_true rfl) hs
theorem s46_1 {f : RG} {nx0 : RG → List AObj → Prop} : W prog J 49 n0 46 (subC [1, 1, 1, 1, 1, 1, 0, 1, 0, 0] (codeOf f46)) f h (thenK nx0 (contX pl46 prog J 49 n0 46 ct46 [1, 1, 1, 1, 1, 1, 0, 1, 0] (codeOf f46) [] (RetQ prog [.tmp 8, .tmp 9] n0 K))) =
(aOff (f.r 5) 0 fun v1 =>
 aLoad false 1 v1 h fun v2 =>
 aBin prog .sub 3 v2 (f.r 3) fun v3 =>
 aBin prog .leq 3 (f.r 13) v3 fun v4 =>
 cnd v4
(aLoad true 6 (f.r 4) h fun v5 =>
 aLoad true 3 (f.r 5) h fun v6 =>
 Good prog J 95 [v5, v6, (f.r 2), (f.r 3), (f.r 13)] h fun v7 h8 =>
 cnd v7
(aBin prog .add 3 (f.r 13) (vint 1) fun v9 =>
 nx0 (RG.p (RG.p (RG.p (RG.p (RG.p (RG.p (RG.p (RG.p (RG.p (RG.p (RG.p (RG.p (RG.p (RG.p (RG.p (RG.p (RG.p f 33 (f.r 13)) 34 v1) 35 v2) 36 (f.r 3)) 37 v3) 38 v4) 41 v5) 42 v6) 43 (f.r 2)) 44 (f.r 3)) 45 (f.r 13)) 46 v7) 47 (f.r 13)) 12 (f.r 13)) 39 (f.r 13)) 40 v9) 13 v9) h8)
(aBin prog .add 3 (f.r 13) (vint 1) fun v10 =>
 nx0 (RG.p (RG.p (RG.p (RG.p (RG.p (RG.p (RG.p (RG.p (RG.p (RG.p (RG.p (RG.p (RG.p (RG.p (RG.p f 33 (f.r 13)) 34 v1) 35 v2) 36 (f.r 3)) 37 v3) 38 v4) 41 v5) 42 v6) 43 (f.r 2)) 44 (f.r 3)) 45 (f.r 13)) 46 v7) 39 (f.r 13)) 40 v10) 13 v10) h8))
(retL n0 K f.ds [(f.r 12), (vint 0)] h)) := sub_eq pok46 ct46 (by kernel_rfl)
theorem l46_1 (hJ : Closed prog main J) {S : Type} (μ : S → Nat) (I : S → RG → List AObj → Prop) (hI : ∀ s f h, I s f h → heapOk h → n0 ≤ h.length → W prog J 49 n0 46 (subC [1, 1, 1, 1, 1, 1, 0, 1, 0, 0] (codeOf f46)) f h (thenK (Nx n0 μ I s) (contX pl46 prog J 49 n0 46 ct46 [1, 1, 1, 1, 1, 1, 0, 1, 0] (codeOf f46) [] (RetQ prog [.tmp 8, .tmp 9] n0 K))))
 {s : S} {f : RG} (hi : Gets n0 I s f h) : Sem J 49 n0 46 (subC [1, 1, 1, 1, 1, 1, 0, 1, 0] (codeOf f46)) f h (contX pl46 prog J 49 n0 46 ct46 [1, 1, 1, 1, 1, 1, 0, 1, 0] (codeOf f46) [] (RetQ prog [.tmp 8, .tmp 9] n0 K)) :=
 loop_rule hJ mixed (b := subC [1, 1, 1, 1, 1, 1, 0, 1, 0, 0] (codeOf f46)) (by kernel_rfl) μ I hI hi
end
end Go.Proofs.Ythnccaajpdnndaa
namespace Go.Proofs.Ythnccaajpdnndaa
open Go.Conc Go.Proofs.Try
set_option maxRecDepth 100000
def lngE (p : Pas) (s : SkyR) (n fr : Int) : Int := if fst2 (pasE p) (skyE s) ≠ 0 then fst2 (pasE p) (skyE s) else if ¬ (0 ≤ n ∧ n ≤ 40) then 1 else if ¬ (0 ≤ fr ∧ fr ≤ s.days - 1) then 3 else 0
def lngN (p : Pas) (s : SkyR) (n fr : Int) : Int := if lngE p s n fr = 0 then ((lngD (fun d => stayB p s n fr (d : Nat)) (s.days - fr).toNat : Nat) : Int) else 0
section
variable {main : Bool} {J : JT} {h H : List AObj} {K : Value → List AObj → Prop}
theorem good45' (hJ : Closed prog main J) {p : Pas} {s : SkyR} {n fr : Int} (hK : ∀ H', SameX [] H H' → K (.tuple ⟨[vint (lngN p s n fr), vint (lngE p s n fr)]⟩) H') : Good prog J 45 [.agg ⟨p.cells⟩, .agg ⟨s.cells⟩, vint n, vint fr] H K := by
 by_cases h0 : lngE p s n fr = 0
 ·have h0' := h0
  unfold lngE at h0'
  by_cases h1 : fst2 (pasE p) (skyE s) ≠ 0
  ·rw [if_pos h1] at h0'
   exact absurd h0' h1
  rw [if_neg h1] at h0'
  by_cases h2 : ¬ (0 ≤ n ∧ n ≤ 40)
  ·rw [if_pos h2] at h0'
   cases h0'
  rw [if_neg h2] at h0'
  by_cases h3 : ¬ (0 ≤ fr ∧ fr ≤ s.days - 1)
  ·rw [if_pos h3] at h0'
   cases h0'
  have h3 := Classical.not_not.1 h3
  obtain ⟨f, g⟩ := fst2_zero (p := p) (s := s) (by omega)
  obtain ⟨frn, rfl⟩ := Int.eq_ofNat_of_zero_le h3.1
  obtain ⟨D, hD⟩ := Int.eq_ofNat_of_zero_le (by omega : 0 ≤ s.days - (frn : Int))
  refine good45 hJ f g (Classical.not_not.1 h2) (D := D) (by omega) (by omega) fun H' S => ?_
  have := hK H' S
  unfold lngN at this
  rw [if_pos h0, h0, show (s.days - (frn : Int)).toNat = D by omega] at this
  exact this
 ·refine g45 hJ fun ok => ?_
  rw [e45]
  refine qBox (l := p.cells) rfl fun H1 p4 e1 S1 c4 l1 => qBox (l := s.cells) rfl fun H2 p5 e2 S2 c5 l2 => ?_
  have c42 := S2.get c4 (by simp)
  have T2 := S1.trans S2
  have b4 := lt_of_get c42
  have b5 := lt_of_get c5
  refine ⟨[p4, p5], load_part (c := p.cells) c42 (by simp [Pas.cells]) rfl rfl ⟨by simp [RdOk, ptrBlk], load_part (c := s.cells) c5 (by simp [SkyR.cells]) rfl rfl ⟨by simp [RdOk, ptrBlk], ?_⟩⟩⟩
  have sb : ∀ {H'}, SameX [] H2 H' → SameB (some [p4, p5]) H2 H' := fun S => sbTwo S b4 b5 (by simp) (by simp)
  refine good36 hJ ⟨sb SameX.refl, good72 hJ ⟨sb SameX.refl, by decide, fillP2 ⟨rfl, rfl⟩ ⟨rfl, rfl⟩ (qNew fun H3 p3 e3 S3 c3 l3 => ⟨sb S3, ?_⟩)⟩⟩
  refine good88 hJ (ownX_sli (ownX_new (s := 1) (n := 2) c3 rfl rfl)) ⟨sb S3, ?_⟩
  have T3 := T2.trans S3
  have c53 := S3.get c5 (by simp)
  have fin : ∀ {e : Int}, lngE p s n fr = e → retL H.length K [] [vint 0, vint e] H3 := fun {e} he => by
   have := hK H3 T3
   unfold lngN at this
   rw [if_neg h0, he] at this
   exact retL_same (nu2 (by simp [unk]) (by simp [unk])) this
  refine neqI (cndI (fun h1 => fin (by unfold lngE; rw [if_pos h1])) fun h1 => ?_)
  refine good73 hJ (notI (cndN (fun h2 => fin (by unfold lngE; rw [if_neg h1, if_pos h2])) fun h2 => ?_))
  obtain ⟨f, g⟩ := fst2_zero (p := p) (s := s) (by omega)
  have := g.1
  refine offI (ldI (v := vint s.days) c53 rfl rfl (subI (by omega) (good73 hJ (notI (cndN (fun h3 => fin (by unfold lngE; rw [if_neg h1, if_neg (not_not_intro h2), if_pos h3])) fun h3 => absurd ?_ h0)))))
  unfold lngE
  rw [if_neg h1, if_neg (not_not_intro h2), if_neg (not_not_intro h3)]
theorem good46 (hJ : Closed prog main J) {p : Pas} {s : SkyR} {n fr : Int} (hK : ∀ H', SameX [] H H' → K (.tuple ⟨[vint (lngN p s n fr), vint (lngE p s n fr)]⟩) H') : Good prog J 46 [.agg ⟨p.cells⟩, .agg ⟨s.cells⟩, vint n, vint fr] H K := by
 refine g46 hJ fun ok => ?_
 rw [e46]
 have e : lngE p s n fr = if pasE p ≠ 0 then pasE p else if skyE s ≠ 0 then skyE s else if ¬ (0 ≤ n ∧ n ≤ 40) then 1 else if ¬ (0 ≤ fr ∧ fr ≤ s.days - 1) then 3 else 0 := by
  unfold lngE fst2
  by_cases c : pasE p ≠ 0
  ·rw [if_pos c, if_pos c, if_pos c]
  ·rw [if_neg c, if_neg c]
 refine qBox (l := p.cells) rfl fun H1 p1 e1 S1 c1 l1 => qBox (l := s.cells) rfl fun H2 p2 e2 S2 c2 l2 => ?_
 have T := S1.trans S2
 have c12 := S2.get c1 (by simp)
 have fin : ∀ {d : Int}, lngE p s n fr = d → d ≠ 0 → retL H.length K [] [vint 0, vint d] H2 := fun {d} he hd => by
  have := hK H2 T
  unfold lngN at this
  rw [if_neg (by omega), he] at this
  exact retL_same (nu2 (by simp [unk]) (by simp [unk])) this
 refine load_part (c := p.cells) c12 (by simp [Pas.cells]) rfl rfl (good37 hJ (neqI (cndI (fun h1 => fin (by rw [e, if_pos h1]) h1) fun h1 => ?_)))
 refine load_part (c := s.cells) c2 (by simp [SkyR.cells]) rfl rfl (good81 hJ (neqI (cndI (fun h2 => fin (by rw [e, if_neg h1, if_pos h2]) h2) fun h2 => ?_)))
 refine good82 hJ (notI (cndN (fun h3 => fin (by rw [e, if_neg h1, if_neg h2, if_pos h3]) (by decide)) fun h3 => ?_))
 have f : pasOk p := by
  unfold pasE at h1
  split at h1
  ·assumption
  ·exact absurd (by decide) h1
 have g : skyOk s := by
  unfold skyE at h2
  split at h2
  ·assumption
  ·exact absurd (by decide) h2
 obtain ⟨g1, g2, g3⟩ := id g
 refine offI (ldI (v := vint s.days) c2 rfl rfl (subI (by omega) (good82 hJ (notI (cndN (fun h4 => fin (by rw [e, if_neg h1, if_neg h2, if_neg (not_not_intro h3), if_pos h4]) (by decide)) fun h4 => ?_)))))
 have h0 : lngE p s n fr = 0 := by rw [e, if_neg h1, if_neg h2, if_neg (not_not_intro h3), if_neg (not_not_intro h4)]
 obtain ⟨frn, rfl⟩ := Int.eq_ofNat_of_zero_le h4.1
 obtain ⟨D, hD⟩ := Int.eq_ofNat_of_zero_le (by omega : 0 ≤ s.days - (frn : Int))
 refine l46_1 hJ (fun d : Nat => D + 1 - d) (fun d F H' => d ≤ D ∧ SameX [] H2 H' ∧ F.ds = [] ∧ F.r 2 = vint n ∧ F.r 3 = vint (frn : Nat) ∧ F.r 4 = ptr p1 0 ∧ F.r 5 = ptr p2 0 ∧ F.r 12 = vint (lngD (fun d => stayB p s n (frn : Nat) (d : Nat)) d : Nat) ∧ F.r 13 = vint ((d + 1 : Nat) : Int)) ?_ (s := 0)
  (.inl ⟨Nat.zero_le _, SameX.refl, rfl, rfl, rfl, rfl, rfl, rfl, rfl⟩)
 rintro d F H' ⟨hd, S, ds, r2, r3, r4, r5, r12, r13⟩ okc hnc
 rw [s46_1, r2, r3, r4, r5, r12, r13, ds]
 have hle := lngD_le (q := fun d => stayB p s n (frn : Nat) (d : Nat)) d
 refine offI (ldI (v := vint s.days) (S.get c2 (by simp)) rfl rfl (subI (by omega) (leqI (cndI (fun hl => ?_) fun hge => ?_))))
 ·refine load_part (c := p.cells) (S.get c12 (by simp)) (by simp [Pas.cells]) rfl rfl (load_part (c := s.cells) (S.get c2 (by simp)) (by simp [SkyR.cells]) rfl rfl ?_)
  refine good95 hJ f g h3 (fr := frn) (dy := d + 1) (by omega) fun H3 S3 => cndB (fun hb => ?_) fun hb => ?_
  ·refine addI (by omega) ⟨d + 1, by dsimp only; omega, .inl ⟨by omega, S.trans S3, ds, r2, r3, r4, r5, ?_, by show vint _ = vint _; congr 1⟩⟩
   unfold lngD
   rw [if_pos hb]
   rfl
  ·refine addI (by omega) ⟨d + 1, by dsimp only; omega, .inl ⟨by omega, S.trans S3, ds, r2, r3, r4, r5, ?_, by show vint _ = vint _; congr 1⟩⟩
   unfold lngD
   rw [if_neg (by rw [hb]; decide)]
   exact r12
 ·have : d = D := by omega
  subst this
  have := hK H' (T.trans S)
  unfold lngN at this
  rw [if_pos h0, h0, show (s.days - (frn : Int)).toNat = d by omega] at this
  exact retL_same (nu2 (by simp [unk]) (by simp [unk])) this
end
section
variable {main : Bool} {J : JT} {h H H0 : List AObj} {K : Value → List AObj → Prop} {n0 : Nat}
theorem rec3 {α : Type} {enc : α → List Value} {s : Nat} (hen : ∀ x, (enc x).length = s) (hkn : ∀ x, kn (enc x) = true) {xs : List α} {p i : Nat} {KI : Value → Value → Prop} (hb : H[p]? = some (.cells (xs.flatMap enc) true 0)) (hx : xs.length = 3) (hi : i < 3) (hk : ∀ o, KI (ptr p o) (.agg ⟨enc (xs[i]'(by omega))⟩)) :
  aIdx s (.slice (some ⟨p, 0, none⟩) 3 3) (vint (i : Nat)) fun v => aLoad true s v H (KI v) := by
 refine idxI ⟨by omega, by omega⟩ ?_
 rw [Int.toNat_natCast, Nat.zero_add]
 have hfl : (xs.flatMap enc).length = 3 * s := by
  have : ∀ l : List α, (l.flatMap enc).length = l.length * s := fun l => by
   induction l with
   | nil => simp
   | cons x l ih => rw [List.flatMap_cons, List.length_append, ih, hen, List.length_cons, Nat.succ_mul]; omega
  rw [this, hx]
 refine load_part (c := enc xs[i]) hb ?_ (flat_take hen xs i (by omega)) (hkn _) (hk _)
 rw [hfl, show (3 : Nat) = 2 + 1 from rfl, Nat.succ_mul]
 have := Nat.mul_le_mul_right s (show i ≤ 2 by omega)
 omega
theorem int3 {zs : List Int} {p i : Nat} {KI : Value → Value → Prop} (hb : H[p]? = some (.cells (zs.map vint) true 0)) (hx : zs.length = 3) (hi : i < 3) (hk : ∀ o, KI (ptr p o) (vint (zs[i]'(by omega)))) :
  aIdx 1 (.slice (some ⟨p, 0, none⟩) 3 3) (vint (i : Nat)) fun v => aLoad false 1 v H (KI v) := by
 refine idxI ⟨by omega, by omega⟩ ?_
 rw [Int.toNat_natCast, Nat.zero_add, Nat.mul_one]
 exact ldI hb (by rw [List.getElem?_map, List.getElem?_eq_getElem (by omega)]; rfl) rfl (hk _)
end
section
variable {W0 : World} {Post : Value → World → Prop} {h H H0 : List AObj} {K : Value → List AObj → Prop} {n0 : Nat}
theorem loop10 {f : RG} {p17 p18 p19 p20 p21 : Nat} {ps : List Pas} {ss : List SkyR} {fs ds hs : List Int} (lp : ps.length = 3) (ls : ss.length = 3) (lf : fs.length = 3) (ld : ds.length = 3) (lh : hs.length = 3)
  (c17 : H0[p17]? = some (.cells (ps.flatMap Pas.cells) true 0)) (c18 : H0[p18]? = some (.cells (ss.flatMap SkyR.cells) true 0)) (c19 : H0[p19]? = some (.cells (fs.map vint) true 0)) (c20 : H0[p20]? = some (.cells (ds.map vint) true 0)) (c21 : H0[p21]? = some (.cells (hs.map vint) true 0))
  (hds : f.ds = []) (r17 : f.r 17 = .slice (some ⟨p17, 0, none⟩) 3 3) (r18 : f.r 18 = .slice (some ⟨p18, 0, none⟩) 3 3) (r19 : f.r 19 = .slice (some ⟨p19, 0, none⟩) 3 3) (r20 : f.r 20 = .slice (some ⟨p20, 0, none⟩) 3 3) (r21 : f.r 21 = .slice (some ⟨p21, 0, none⟩) 3 3) (hK : ∀ h', K (.bool true) h') :
  Sem (J2 prog W0 Post) 173 n0 10 (subC [1, 1, 1, 1, 1] (codeOf f10)) f H0 (RetQ prog [.tmp 12] n0 K) := by
 have hJ := J2.closed prog W0 Post
 refine W_sound hJ mixed _ ?_
 have e := s10t_1 (J := J2 prog W0 Post) (n0 := n0) (K := K) (f := f) (h := H0)
 refine e.mpr ?_
 refine l10t_2 hJ (fun i : Nat => 3 - i) (fun i f H => SameX [] H0 H ∧ i ≤ 3 ∧ f.ds = [] ∧ f.r 17 = .slice (some ⟨p17, 0, none⟩) 3 3 ∧ f.r 18 = .slice (some ⟨p18, 0, none⟩) 3 3 ∧ f.r 19 = .slice (some ⟨p19, 0, none⟩) 3 3 ∧ f.r 20 = .slice (some ⟨p20, 0, none⟩) 3 3 ∧ f.r 21 = .slice (some ⟨p21, 0, none⟩) 3 3 ∧ f.r 22 = vint (i : Nat)) ?_ (s := 0)
  (.inl ⟨SameX.refl, by omega, hds, r17, r18, r19, r20, r21, rfl⟩)
 rintro i f H ⟨S, hi, ds0, r17, r18, r19, r20, r21, r22⟩ ok' hn'
 rw [s10t_2, r17, r18, r19, r20, r22, ds0, lenS]
 refine lssI (cndI (fun hlt => ?_) fun hge => good21 fun H3 _ => retL_same (by simp [unk]) (hK _))
 have hi3 : i < 3 := by omega
 refine rec3 (enc := Pas.cells) (fun _ => rfl) (fun _ => rfl) (S.get c17 (by simp)) lp hi3 fun _ => ?_
 refine rec3 (enc := SkyR.cells) (fun _ => rfl) (fun _ => rfl) (S.get c18 (by simp)) ls hi3 fun _ => ?_
 refine int3 (S.get c19 (by simp)) lf hi3 fun _ => int3 (S.get c20 (by simp)) ld hi3 fun _ => ?_
 refine good33 hJ fun H1 S1 => ext0 (ext1 ?_)
 have T1 := S.trans S1
 refine rec3 (enc := Pas.cells) (fun _ => rfl) (fun _ => rfl) (T1.get c17 (by simp)) lp hi3 fun _ => ?_
 refine rec3 (enc := SkyR.cells) (fun _ => rfl) (fun _ => rfl) (T1.get c18 (by simp)) ls hi3 fun _ => ?_
 refine int3 (T1.get c19 (by simp)) lf hi3 fun _ => int3 (T1.get c20 (by simp)) ld hi3 fun _ => ?_
 refine good44 hJ fun H2 S2 => ext0 (ext1 (hold.2 ?_))
 have T2 := T1.trans S2
 rw [s10t_3]
 show aIdx 6 (f.r 17) (f.r 22) _
 rw [r17, r22]
 refine rec3 (enc := Pas.cells) (fun _ => rfl) (fun _ => rfl) (T2.get c17 (by simp)) lp hi3 fun _ => ?_
 show aIdx 3 (f.r 18) (f.r 22) _
 rw [r18, r22]
 refine rec3 (enc := SkyR.cells) (fun _ => rfl) (fun _ => rfl) (T2.get c18 (by simp)) ls hi3 fun _ => ?_
 show aIdx 1 (f.r 21) (f.r 22) _
 rw [r21, r22]
 refine int3 (T2.get c21 (by simp)) lh hi3 fun _ => ?_
 show aIdx 1 (f.r 19) (f.r 22) _
 rw [r19, r22]
 refine int3 (T2.get c19 (by simp)) lf hi3 fun _ => ?_
 refine good45' hJ fun H3 S3 => ext0 (ext1 ?_)
 have T3 := T2.trans S3
 show aIdx 6 (f.r 17) (f.r 22) _
 rw [r17, r22]
 refine rec3 (enc := Pas.cells) (fun _ => rfl) (fun _ => rfl) (T3.get c17 (by simp)) lp hi3 fun _ => ?_
 show aIdx 3 (f.r 18) (f.r 22) _
 rw [r18, r22]
 refine rec3 (enc := SkyR.cells) (fun _ => rfl) (fun _ => rfl) (T3.get c18 (by simp)) ls hi3 fun _ => ?_
 show aIdx 1 (f.r 21) (f.r 22) _
 rw [r21, r22]
 refine int3 (T3.get c21 (by simp)) lh hi3 fun _ => ?_
 show aIdx 1 (f.r 19) (f.r 22) _
 rw [r19, r22]
 refine int3 (T3.get c19 (by simp)) lf hi3 fun _ => ?_
 refine good46 hJ fun H4 S4 => ext0 (ext1 (hold.2 ?_))
 have T4 := T3.trans S4
 rw [s10t_4]
 show aBin prog .neq 3 (vint _) (vint _) _
 refine neqI (cndI (fun hx => absurd rfl hx) fun _ => ?_)
 show aBin prog .neq 37 (vint _) (vint _) _
 refine neqI (cndI (fun hx => absurd rfl hx) fun _ => ?_)
 show aBin prog .neq 3 (vint _) (vint _) _
 refine neqI (cndI (fun hx => absurd rfl hx) fun _ => ?_)
 show aBin prog .neq 37 (vint _) (vint _) _
 refine neqI (hold.2 ?_)
 rw [s10t_5]
 show cnd (.bool (decide _)) _ _
 refine cndI (fun hx => absurd rfl hx) fun _ => ?_
 show aBin prog .add 3 (f.r 22) (vint 1) _
 rw [r22]
 refine addI (by omega) ?_
 exact ⟨i + 1, by dsimp only; omega, .inl ⟨T4, by omega, ds0, r17, r18, r19, r20, r21, by show vint _ = vint _; congr 1⟩⟩
theorem walk10 {p : Pas} {s : SkyR} {fr dy hd : Int} {nv : Value} {ns : List Int} (sn : Sli h nv 1 ns.length (ns.map vint)) (hln : ns.length < 4611686018427387904) (hK : ∀ h', K (.bool true) h') :
  Sem (J2 prog W0 Post) 173 h.length 10 (codeOf f10) (RG.mk (regs [.agg ⟨p.cells⟩, .agg ⟨s.cells⟩, vint fr, vint dy, vint hd, nv]) []) h (RetQ prog [.tmp 12] h.length K) := by
 have hJ := J2.closed prog W0 Post
 refine trunc_sound hJ mixed 4 (codeOf f10) (by kernel_rfl) (front10 hJ sn hln fun Hb H f p2 s2 x p6 p7 p14 p15 M => ?_)
 have e : subC (List.replicate 4 1) (codeOf f10) = .seq (subC [1, 1, 1, 1, 0] (codeOf f10)) (subC [1, 1, 1, 1, 1] (codeOf f10)) := by kernel_rfl
 rw [e]
 refine Sem_seq hJ (region10 hJ M fun f' H' y z ds b17 b18 b19 b20 b21 => ?_)
 obtain ⟨q17, e17, _, c17⟩ := b17
 obtain ⟨q18, e18, _, c18⟩ := b18
 obtain ⟨q19, e19, _, c19⟩ := b19
 obtain ⟨q20, e20, _, c20⟩ := b20
 obtain ⟨q21, e21, _, c21⟩ := b21
 exact loop10 rfl rfl rfl rfl rfl c17 c18 c19 c20 c21 ds e17 e18 e19 e20 e21 hK
end
end Go.Proofs.Ythnccaajpdnndaa
namespace Go.Proofs.Ythnccaajpdnndaa
open Go.Conc Go.ChangeShapes Go.WideShapes Go.ChangeAt Go.RowKit Go.Proofs.Try
set_option maxRecDepth 100000
theorem trodAll_cons {H : Type} {enc : TypeId × Value → H} {P : Program} {w : World} {base : Nat} {spare : Nat → Bool} {held : Bool} {t : TypeId} {ts : List TypeId} {vs : List Value} {ds : List (DataW H)} {ps : List MemPlace}
  (h : DataW.TrodAll enc P w base spare held (t :: ts) vs ds ps) : ∃ v vs' d ds' p q, vs = v :: vs' ∧ ds = d :: ds' ∧ ps = p ++ q ∧ DataW.Trod enc P w base spare held t v d p ∧ DataW.TrodAll enc P w base spare held ts vs' ds' q := by
 match vs, ds, h with
 | v :: vs, d :: ds, ⟨p, q, h1, h2, h3⟩ => exact ⟨v, vs, d, ds, p, q, rfl, rfl, h3, h1, h2⟩
theorem trodAll_nil {H : Type} {enc : TypeId × Value → H} {P : Program} {w : World} {base : Nat} {spare : Nat → Bool} {held : Bool} {vs : List Value} {ds : List (DataW H)} {ps : List MemPlace}
  (h : DataW.TrodAll enc P w base spare held [] vs ds ps) : vs = [] ∧ ds = [] ∧ ps = [] := by
 match vs, ds, h with
 | [], [], h => exact ⟨rfl, rfl, h⟩
theorem trodAll_mkc {H : Type} {enc : TypeId × Value → H} {P : Program} {w : World} {base : Nat} {spare : Nat → Bool} {held : Bool} {t : TypeId} {ts : List TypeId} {v : Value} {vs : List Value} {d : DataW H} {ds : List (DataW H)} {p q : List MemPlace}
 (h1 : DataW.Trod enc P w base spare held t v d p) (h2 : DataW.TrodAll enc P w base spare held ts vs ds q) : DataW.TrodAll enc P w base spare held (t :: ts) (v :: vs) (d :: ds) (p ++ q) := ⟨p, q, h1, h2, rfl⟩
section
variable {H : Type} {enc : TypeId × Value → H}
theorem fine_int {m : Nat} {n : Int} : Fine m (vint n) := ⟨by simp [VOk], rfl, by simp [ren]⟩
theorem trod_vint {W : World} {n : Nat} {cs : List Value} {r : DataW H × List MemPlace} {t : TypeId} (u : prog.underlying t = some (.int .i64)) (h : DataW.trod enc prog W 0 (fun _ => true) true n t cs = some r) : ∃ z, cs = [vint z] := by
 obtain ⟨z, h1, _⟩ := DataW.trod_int u h
 exact ⟨z, h1⟩
end
section
variable {H : Type} {enc : TypeId × Value → H} {W : World} {n base : Nat} {cs : List Value} {r : DataW H × List MemPlace}
def structOf : Option TypeDesc → Option (List (TypeId × Nat))
 | some (.struct fs) => some (fs.toList.map fun f => (f.type, f.offset))
 | _ => none
theorem trod_fields {t : TypeId} {l : List (TypeId × Nat)} (hs : structOf (prog.underlying t) = some l) (h : DataW.trod enc prog W 0 (fun _ => true) true n t cs = some r) :
  cs.length = prog.cellsOf t ∧ ∃ n' : Nat, ∀ (i : Nat) (ty : TypeId) (off : Nat), l[i]? = some (ty, off) → ∃ r', DataW.trod enc prog W 0 (fun _ => true) true n' ty ((cs.drop off).take (prog.cellsOf ty)) = some r' := by
 unfold structOf at hs
 split at hs
 ·rename_i fs hu
  cases hs
  obtain ⟨xs, n', _, rfl, hl, hxl, hf⟩ := DataW.trod_struct hu h
  refine ⟨hl, n', fun i ty off hi => ?_⟩
  rw [List.getElem?_map, Option.map_eq_some_iff] at hi
  obtain ⟨f, hfi, he⟩ := hi
  cases he
  have hfi' : fs[i]? = some f := by simpa using hfi
  have hil : i < xs.length := by rw [hxl]; exact (Array.getElem?_eq_some_iff.1 hfi').1
  exact ⟨xs[i], by rw [hf i f hfi', List.getElem?_eq_getElem hil]⟩
 ·cases hs
theorem lok_of : ∀ {l : List Value} {m : Nat}, (∀ v ∈ l, VOk m v) → LOk m l
 | [], _, _ => by simp [LOk]
 | v :: l, m, h => by
  simp only [LOk]
  exact ⟨h v (by simp), lok_of fun u hu => h u (by simp [hu])⟩
theorem argOk_agg {l : List Value} (h : ∀ v ∈ l, ArgOk W v) : ArgOk W (.agg ⟨l⟩) := by
 refine ⟨?_, ?_⟩
 ·simp only [VOk, AOk]
  exact lok_of fun v hv => (h v hv).1
 ·simp only [ren, renA, renL_eq]
  congr 2
  rw [List.map_congr_left (g := id) fun v hv => (h v hv).2, List.map_id]
theorem argOk_fine {v : Value} (h : ∀ m, Fine m v) : ArgOk W v := ⟨(h _).1, (h 0).2.2⟩
theorem agg_of {t : TypeId} {l : List (TypeId × Nat)} {v : Value} (hs : structOf (prog.underlying t) = some l) (hval : Value.okWide prog W .any base t v) : ∃ cs, v = .agg cs ∧ Row.okWide prog W .any base t cs := by
 unfold structOf at hs
 split at hs
 ·rename_i fs hu
  simp only [Value.okWide, hu] at hval
  obtain ⟨cs, h1, _, h3⟩ := hval
  exact ⟨cs, h1, h3⟩
 ·cases hs
end
section
variable {H : Type} {enc : TypeId × Value → H} {W : World} {base : Nat}
theorem arg_recs {t : TypeId} {m : Nat} (hs : structOf (prog.underlying t) = some ((List.range m).map fun i => (3, i))) (hc : prog.cellsOf t = m) {v : Value} {d : DataW H} {ps : List MemPlace}
  (hval : Value.okWide prog W .any base t v) (hd : DataW.Trod enc prog W 0 (fun _ => true) true t v d ps) : ∃ zs : List Int, zs.length = m ∧ v = .agg ⟨zs.map vint⟩ ∧ ArgOk W v := by
 have u3 : prog.underlying 3 = some (.int .i64) := by kernel_rfl
 have c3 : prog.cellsOf 3 = 1 := by kernel_rfl
 obtain ⟨cs, rfl, _⟩ := agg_of hs hval
 obtain ⟨cs⟩ := cs
 obtain ⟨fuel, hf⟩ := hd
 obtain ⟨hl, n', hf⟩ := trod_fields (cs := cs) hs hf
 rw [hc] at hl
 have hz : ∀ i, i < m → ∃ z, cs[i]? = some (vint z) := fun i hi => by
  obtain ⟨r', g⟩ := hf i 3 i (by rw [List.getElem?_map, List.getElem?_range hi]; rfl)
  rw [c3] at g
  obtain ⟨z, hz⟩ := trod_vint u3 g
  refine ⟨z, ?_⟩
  have := congrArg (fun l => l[0]?) hz
  simpa [List.getElem?_take, List.getElem?_drop] using this
 have hall : ∀ v ∈ cs, ∃ z, v = vint z := fun v hv => by
  obtain ⟨i, hi, rfl⟩ := List.getElem_of_mem hv
  obtain ⟨z, e⟩ := hz i (by omega)
  rw [List.getElem?_eq_getElem hi] at e
  exact ⟨z, Option.some.inj e⟩
 have key : ∀ (l : List Value), (∀ v ∈ l, ∃ z, v = vint z) → ∃ zs : List Int, l = zs.map vint := by
  intro l
  induction l with
  | nil => exact fun _ => ⟨[], rfl⟩
  | cons v l ih =>
   intro h
   obtain ⟨z, rfl⟩ := h v (by simp)
   obtain ⟨zs, e⟩ := ih fun u hu => h u (by simp [hu])
   exact ⟨z :: zs, by rw [e]; rfl⟩
 obtain ⟨zs, rfl⟩ := key cs hall
 refine ⟨zs, by simpa using hl, rfl, argOk_agg fun v hv => ?_⟩
 obtain ⟨z, rfl⟩ := hall v hv
 exact argOk_fine fun m => fine_int
theorem arg_pas {v : Value} {d : DataW H} {ps : List MemPlace} (hval : Value.okWide prog W .any base 31 v) (hd : DataW.Trod enc prog W 0 (fun _ => true) true 31 v d ps) : ∃ w : Pas, v = .agg ⟨w.cells⟩ ∧ ArgOk W v := by
 obtain ⟨zs, hl, rfl, ok⟩ := arg_recs (m := 6) (by kernel_rfl) (by kernel_rfl) hval hd
 match zs, hl with
 | [a, b, c, d, e, f], _ => exact ⟨⟨a, b, c, d, e, f⟩, rfl, ok⟩
theorem arg_skyr {v : Value} {d : DataW H} {ps : List MemPlace} (hval : Value.okWide prog W .any base 24 v) (hd : DataW.Trod enc prog W 0 (fun _ => true) true 24 v d ps) : ∃ w : SkyR, v = .agg ⟨w.cells⟩ ∧ ArgOk W v := by
 obtain ⟨zs, hl, rfl, ok⟩ := arg_recs (m := 3) (by kernel_rfl) (by kernel_rfl) hval hd
 match zs, hl with
 | [a, b, c], _ => exact ⟨⟨a, b, c⟩, rfl, ok⟩
end
theorem law_run2S {g : FuncId} {fn : Func} {c : Code} (hf : prog.funcs[g]? = some fn) (hb : fn.body = some c) (hin : prog.inits.idxOf? g = none) (W₀ : World) (args : List Value) (ha : args.length ≤ fn.ntmps) (hok : ∀ v ∈ args, ArgOk W₀ v)
  (walk : ∀ Post, Sem (J2 prog W₀ Post) fn.ntmps (absH W₀).length g c ⟨regs args, []⟩ (absH W₀) (RetQ prog fn.results.toList (absH W₀).length fun v _ => v = .bool true)) :
  Ends prog (fun v w' => v = .bool true ∧ Below W₀.heap.size W₀ w') (solo (G (Frame.enter prog g ⟨args⟩ .normal) []) W₀) #[] := by
 refine run_of_J2 (W0 := W₀) (ft := startFt W₀) (top_of_sem2 hf hb hin ha rfl (fun i => ?_) (start_rel W₀) (walk _) ?_) (fun b hb => hb) (fun b hb => hb.elim) rfl
 ·show VRel (absH W₀).length idEnv (args.getD i unk) (args.getD i undef)
  simp only [List.getD_eq_getElem?_getD]
  cases hi : args[i]? with
  | none => exact .inl rfl
  | some v =>
   obtain ⟨h1, h2⟩ := hok v (List.mem_of_getElem? hi)
   exact .inr ⟨by rw [absH_len]; exact h1, h2.symm⟩
 ·intro v h' ρ' w' ft' cv hv H' _ _ hcv hB
  subst hv
  refine ⟨?_, below_of H' hB⟩
  rcases hcv with e | ⟨_, e⟩
  ·cases e
  ·rw [e]
   rfl
theorem lifted10 (os : Os) (started : os.Started) (H : Type) (enc : TypeId × Value → H) :
  ReturnsInLeavingWide {} checked os 10 .any (Rows.grassHeadsSpec.pre6 enc prog f10 Rows.grassHeadsRow.domain false) (Rows.grassHeadsSpec.post enc prog f10 false true false false) := by
 refine returnsInLeavingWide_of_change_sized (C := checked) own started at10
  (ChangeSpec.witness6 (enc := enc) (C := checked) false ⟨#[], #[.agg #[.int .i64 0, .int .i64 0, .int .i64 0, .int .i64 0, .int .i64 0, .int .i64 0], .agg #[.int .i64 0, .int .i64 0, .int .i64 0], .int .i64 0, .int .i64 0, .int .i64 0, .slice none 0 0], []⟩ 8 (by kernel_rfl) (by kernel_rfl) (by kernel_rfl) (by kernel_rfl)) ?_
 intro W base args ds gs before hval0 hW _ hsz0 _
 have hsz : (DataW.weightsEach prog (f10.params.toList ++ Rows.grassHeadsSpec.plain.varTypes prog) (ds ++ gs)).all (· ≤ reachBytes) = true := hsz0
 clear hsz0
 have hval : ∀ (j : Nat) t v, f10.params[j]? = some t → args[j]? = some v → Value.okWide prog W .any base t v := hval0
 have hW' := hW
 obtain ⟨p, q, hA0, hV, rfl, _, _⟩ := hW
 have hA : DataW.TrodAll enc prog W 0 (fun _ => true) true f10.params.toList args.toList ds p := hA0
 have hps : f10.params = #[31, 24, 3, 3, 3, 25] := by kernel_rfl
 rw [hps] at hA hval hsz
 obtain ⟨args⟩ := args
 have r0 : DataW.TrodAll enc prog W 0 (fun _ => true) true [31, 24, 3, 3, 3, 25] args ds p := hA
 obtain ⟨v0, vs0, d0, ds0, p0, q0, hv0, hd0, hp0, h0, r1⟩ := trodAll_cons r0
 obtain ⟨v1, vs1, d1, ds1, p1, q1, hv1, hd1, hp1, h1, r2⟩ := trodAll_cons r1
 obtain ⟨v2, vs2, d2, ds2, p2, q2, hv2, hd2, hp2, h2, r3⟩ := trodAll_cons r2
 obtain ⟨v3, vs3, d3, ds3, p3, q3, hv3, hd3, hp3, h3, r4⟩ := trodAll_cons r3
 obtain ⟨v4, vs4, d4, ds4, p4, q4, hv4, hd4, hp4, h4, r5⟩ := trodAll_cons r4
 obtain ⟨v5, vs5, d5, ds5, p5, q5, hv5, hd5, hp5, h5, r6⟩ := trodAll_cons r5
 obtain ⟨hvn, hdn, hpn⟩ := trodAll_nil r6
 subst hvn hdn hpn
 subst hv5 hd5 hp5
 subst hv4 hd4 hp4
 subst hv3 hd3 hp3
 subst hv2 hd2 hp2
 subst hv1 hd1 hp1
 subst hv0 hd0 hp0
 obtain ⟨rfl, rfl⟩ := trodVars_none hV
 have u3 : prog.underlying 3 = some (.int .i64) := by kernel_rfl
 have u27 : prog.underlying 25 = some (.slice 3) := by kernel_rfl
 have u4 : prog.underlying 4 = some .bool := by kernel_rfl
 have c3 : prog.cellsOf 3 = 1 := by kernel_rfl
 have b3 : prog.bytesOf 3 = 8 := by kernel_rfl
 have hlt : ∀ x ∈ p0 ++ (p1 ++ (p2 ++ (p3 ++ (p4 ++ (p5 ++ []))))), x.block < W.heap.size := fun x hx => by simpa using hW'.lt x (by simpa using hx)
 have hargs : ∀ (W' : World), Below W.heap.size W W' → DataW.TrodAll enc prog W' 0 (fun b => decide (b < W.heap.size)) true [31, 24, 3, 3, 3, 25] [v0, v1, v2, v3, v4, v5] [d0, d1, d2, d3, d4, d5] (p0 ++ (p1 ++ (p2 ++ (p3 ++ (p4 ++ (p5 ++ [])))))) := fun W' hn =>
  trodAll_mkc (Below.trod laidOut (by kernel_rfl) (of_decide_eq_true (by kernel_rfl)) h0 hn fun x hx => hlt x (by simp [hx])) (trodAll_mkc (Below.trod laidOut (by kernel_rfl) (of_decide_eq_true (by kernel_rfl)) h1 hn fun x hx => hlt x (by simp [hx])) (trodAll_mkc (Below.trod laidOut (by kernel_rfl) (of_decide_eq_true (by kernel_rfl)) h2 hn fun x hx => hlt x (by simp [hx])) (trodAll_mkc (Below.trod laidOut (by kernel_rfl) (of_decide_eq_true (by kernel_rfl)) h3 hn fun x hx => hlt x (by simp [hx])) (trodAll_mkc (Below.trod laidOut (by kernel_rfl) (of_decide_eq_true (by kernel_rfl)) h4 hn fun x hx => hlt x (by simp [hx])) (trodAll_mkc (Below.trod laidOut (by kernel_rfl) (of_decide_eq_true (by kernel_rfl)) h5 hn fun x hx => hlt x (by simp [hx])) (rfl))))))
 obtain ⟨w0, rfl, ok0⟩ := arg_pas (hval 0 31 v0 rfl rfl) h0
 obtain ⟨w1, rfl, ok1⟩ := arg_skyr (hval 1 24 v1 rfl rfl) h1
 obtain ⟨z2, rfl, _, _, _⟩ := open_int u3 (hval 2 3 v2 rfl rfl) h2
 obtain ⟨z3, rfl, _, _, _⟩ := open_int u3 (hval 3 3 v3 rfl rfl) h3
 obtain ⟨z4, rfl, _, _, _⟩ := open_int u3 (hval 4 3 v4 rfl rfl) h4
 obtain ⟨ns5, sn5, ok5, hbig5⟩ := arg_ints u27 u3 c3 (hval 5 25 v5 rfl rfl) h5
 have hln5 : ns5.length < 4611686018427387904 := by
  rcases hbig5 with rfl | ⟨es, sp, rfl, hle⟩
  ·simp
  ·have := sized_slice hsz (j := 5) (t := 25) (e := 3) rfl rfl u27
   rw [b3] at this
   simp only [reachBytes] at this
   omega
 obtain ⟨M, last, o, w', t', r1, r2, r3, r4⟩ := law_run2S (g := 10) (fn := f10) at10 body10 (by kernel_rfl) W [.agg ⟨Pas.cells w0⟩, .agg ⟨SkyR.cells w1⟩, vint z2, vint z3, vint z4, v5] (Nat.le_of_ble_eq_true (by kernel_rfl : Nat.ble 6 f10.ntmps = true))
  (by
   intro v hv
   simp only [List.mem_cons, List.not_mem_nil, or_false] at hv
   rcases hv with rfl | rfl | rfl | rfl | rfl | rfl
   ·exact ok0
   ·exact ok1
   ·exact argOk_int
   ·exact argOk_int
   ·exact argOk_int
   ·exact ok5)
  (fun Post => walk10 (K := fun v _ => v = .bool true) sn5 hln5 fun _ => rfl)
 refine ⟨M, last, o, w', t', r1, r2, r3, r4.mono fun v hF => ?_⟩
 obtain ⟨rfl, hbelow⟩ := hF
 refine ⟨_, _, _, [], _, [], hW', ?_, hargs _ hbelow, by rfl, hbelow.frame _, fun h => by cases h⟩
 exact trodAll_mk1 (shut_bool u4 true)
theorem grassHeads_holds : Rows.GrassHeadsSaid :=
 OpenClaim.holds_of_wide_leaving 10 f10 rfl rfl rfl rfl rfl rfl rfl ⟨rfl, rfl, rfl, rfl, rfl⟩ rfl rfl rfl rfl rfl (by kernel_rfl) at10 (by kernel_rfl)
  (of_decide_eq_true (by kernel_rfl)) (by unfold Func.isWrapper; first | (rw [if_pos (by decide +kernel)]; kernel_rfl) | (rw [if_neg (by decide +kernel)]; exact ⟨rfl, rfl⟩))
  (fun os started H enc _ => lifted10 os started H enc)
#print axioms grassHeads_holds
end Go.Proofs.Ythnccaajpdnndaa
