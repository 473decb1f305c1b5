/- Parts of the proof, 6. No conditions. -/
import Derived.Test.YtindillghipjjaaK2
import Derived.Test.YtindillghipjjaaK5
import Derived.Test.YtindillghipjjaaK4
import Derived.Test.YtindillghipjjaaK3
namespace Go.Proofs.Ytindillghipjjaa
open Go.Conc Go.Proofs.Try
set_option maxRecDepth 100000
set_option maxHeartbeats 4000000
set_option linter.unusedVariables false
section
variable {main : Bool} {J : JT} {n0 : Nat} {h : List AObj} {K : Value → List AObj → Prop}
def pl12 : Plans := [(13, true, .take 0 (.take 1 (.take 4 (.take 5 (.alt 2 false (.alt 3 false (.last 6 false (.last 7 false (.take 8 (.fin)))) (.last 6 false (.last 3 false (.last 7 false (.take 8 (.fin)))))) (.last 6 false (.last 2 false (.last 3 false (.last 7 false (.take 8 (.fin)))))))))))]
def ct12 : Cuts := .bin (.go) (.bin (.go) (.bin (.go) (.bin (.go) (.bin (.go) (.bin (.go) (.bin (.go) (.bin (.go) (.bin (.bin (.go) (.cut (.go))) (.bin (.bin (.go) (.un (.un (.bin (.go) (.bin (.un (.bin (.go) (.cut (.bin (.go) (.bin (.go) (.bin (.go) (.bin (.go) (.cut (.go))))))))) (.go)))))) (.go))))))))))
theorem pok12 : plansOk prog pl12 (codeOf f12) = true := by kernel_rfl
theorem e12 {a0 : Value} : W prog J 120 h.length 12 (codeOf f12) (RG.mk (regs [a0]) []) h (RetQ prog [.tmp 2] h.length K) =
(Good prog J 20 [a0] h fun v1 h2 =>
Good prog J 21 [v1, (vint 3), (vint 12)] h2 fun v3 h4 =>
aAlloc [(vint 0), (vint 0), (vint 0), (Value.slice none 0 0)] h4 fun v5 h6 =>
aStore 4 v5 v3 h6 fun h7 =>
aOff v5 0 fun v8 =>
aOff v8 1 fun v9 =>
aLoad false 1 v9 h7 fun v10 =>
aOff v5 0 fun v11 =>
aOff v11 0 fun v12 =>
aStore 1 v12 v10 h7 fun h13 =>
aLoad true 4 v5 h13 fun v14 =>
Good prog J 36 [v1, v14, (vint 5)] h13 fun v15 h16 =>
aLoad true 4 v5 h16 fun v17 =>
Good prog J 53 [v17, v15] h16 fun v18 h19 =>
aExt v18 0 fun v20 =>
aExt v18 1 fun v21 =>
aLoad true 4 v5 h19 fun v22 =>
Good prog J 52 [v22, v15] h19 fun v23 h24 =>
aExt v23 0 fun v25 =>
aExt v23 1 fun v26 =>
aLoad true 4 v5 h24 fun v27 =>
Good prog J 38 [v27, v15] h24 fun v28 h29 =>
aExt v28 0 fun v30 =>
aExt v28 1 fun v31 =>
aBin prog .neq 39 v21 (vint 0) fun v32 =>
cnd v32
(Hold (W prog J 120 h.length 12 (subC [1, 1, 1, 1, 1, 1, 1, 1, 0, 1] (codeOf f12)) (RG.p (RG.p (RG.p (RG.p (RG.p (RG.p (RG.p (RG.p (RG.p (RG.p (RG.p (RG.p (RG.p (RG.p (RG.p (RG.p (RG.p (RG.p (RG.p (RG.p (RG.p (RG.p (RG.p (RG.p (RG.p (RG.p (RG.p (RG.p (RG.p (RG.p (RG.p (RG.p (RG.p (RG.p (RG.p (RG.p (RG.p (RG.p (RG.p (RG.p (RG.p (RG.p (RG.p (RG.p (RG.p (RG.p (RG.p (RG.p (RG.p (RG.p (RG.p (RG.p (RG.p (RG.p (RG.p (RG.p (RG.mk (regs [a0]) []) 2 (Value.bool false)) 20 a0) 21 v1) 3 v1) 22 v1) 23 v3) 4 v5) 24 v8) 25 v9) 26 v10) 27 v11) 28 v12) 29 v1) 30 v14) 31 v15) 5 v15) 33 v17) 34 v15) 35 v18) 32 v18) 36 v20) 37 v21) 6 v20) 7 v21) 39 v22) 40 v15) 41 v23) 38 v23) 42 v25) 43 v26) 8 v25) 9 v26) 45 v27) 46 v15) 47 v28) 44 v28) 48 v30) 49 v31) 10 v30) 11 v31) 50 v21) 51 v32) 52 v32) 52 (Value.bool true)) 53 undef) 54 undef) 55 (Value.bool true)) 56 (Value.bool true)) 56 (Value.bool true)) 57 undef) 58 undef) 59 undef) 60 undef) 61 undef) 62 undef) 63 (Value.bool true)) h29 (contX pl12 prog J 120 h.length 12 ct12 [1, 1, 1, 1, 1, 1, 1, 1, 0, 1] (codeOf f12) [] (RetQ prog [.tmp 2] h.length K))))
(aBin prog .neq 39 v26 (vint 0) fun v33 =>
cnd v33
(Hold (W prog J 120 h.length 12 (subC [1, 1, 1, 1, 1, 1, 1, 1, 0, 1] (codeOf f12)) (RG.p (RG.p (RG.p (RG.p (RG.p (RG.p (RG.p (RG.p (RG.p (RG.p (RG.p (RG.p (RG.p (RG.p (RG.p (RG.p (RG.p (RG.p (RG.p (RG.p (RG.p (RG.p (RG.p (RG.p (RG.p (RG.p (RG.p (RG.p (RG.p (RG.p (RG.p (RG.p (RG.p (RG.p (RG.p (RG.p (RG.p (RG.p (RG.p (RG.p (RG.p (RG.p (RG.p (RG.p (RG.p (RG.p (RG.p (RG.p (RG.p (RG.p (RG.p (RG.p (RG.p (RG.p (RG.p (RG.p (RG.mk (regs [a0]) []) 2 (Value.bool false)) 20 a0) 21 v1) 3 v1) 22 v1) 23 v3) 4 v5) 24 v8) 25 v9) 26 v10) 27 v11) 28 v12) 29 v1) 30 v14) 31 v15) 5 v15) 33 v17) 34 v15) 35 v18) 32 v18) 36 v20) 37 v21) 6 v20) 7 v21) 39 v22) 40 v15) 41 v23) 38 v23) 42 v25) 43 v26) 8 v25) 9 v26) 45 v27) 46 v15) 47 v28) 44 v28) 48 v30) 49 v31) 10 v30) 11 v31) 50 v21) 51 v32) 52 v32) 52 (Value.bool false)) 53 v26) 54 v33) 55 v33) 56 v33) 56 (Value.bool true)) 57 undef) 58 undef) 59 undef) 60 undef) 61 undef) 62 undef) 63 (Value.bool true)) h29 (contX pl12 prog J 120 h.length 12 ct12 [1, 1, 1, 1, 1, 1, 1, 1, 0, 1] (codeOf f12) [] (RetQ prog [.tmp 2] h.length K))))
(aBin prog .neq 39 v31 (vint 0) fun v34 =>
cnd v34
(aBin prog .neq 39 v31 (vint 11) fun v35 =>
Hold (W prog J 120 h.length 12 (subC [1, 1, 1, 1, 1, 1, 1, 1, 0, 1] (codeOf f12)) (RG.p (RG.p (RG.p (RG.p (RG.p (RG.p (RG.p (RG.p (RG.p (RG.p (RG.p (RG.p (RG.p (RG.p (RG.p (RG.p (RG.p (RG.p (RG.p (RG.p (RG.p (RG.p (RG.p (RG.p (RG.p (RG.p (RG.p (RG.p (RG.p (RG.p (RG.p (RG.p (RG.p (RG.p (RG.p (RG.p (RG.p (RG.p (RG.p (RG.p (RG.p (RG.p (RG.p (RG.p (RG.p (RG.p (RG.p (RG.p (RG.p (RG.p (RG.p (RG.p (RG.p (RG.p (RG.p (RG.p (RG.p (RG.mk (regs [a0]) []) 2 (Value.bool false)) 20 a0) 21 v1) 3 v1) 22 v1) 23 v3) 4 v5) 24 v8) 25 v9) 26 v10) 27 v11) 28 v12) 29 v1) 30 v14) 31 v15) 5 v15) 33 v17) 34 v15) 35 v18) 32 v18) 36 v20) 37 v21) 6 v20) 7 v21) 39 v22) 40 v15) 41 v23) 38 v23) 42 v25) 43 v26) 8 v25) 9 v26) 45 v27) 46 v15) 47 v28) 44 v28) 48 v30) 49 v31) 10 v30) 11 v31) 50 v21) 51 v32) 52 v32) 52 (Value.bool false)) 53 v26) 54 v33) 55 v33) 56 v33) 56 (Value.bool false)) 57 v31) 58 v34) 59 v34) 59 (Value.bool true)) 60 v31) 61 v35) 62 v35) 63 v35) h29 (contX pl12 prog J 120 h.length 12 ct12 [1, 1, 1, 1, 1, 1, 1, 1, 0, 1] (codeOf f12) [] (RetQ prog [.tmp 2] h.length K))))
(Hold (W prog J 120 h.length 12 (subC [1, 1, 1, 1, 1, 1, 1, 1, 0, 1] (codeOf f12)) (RG.p (RG.p (RG.p (RG.p (RG.p (RG.p (RG.p (RG.p (RG.p (RG.p (RG.p (RG.p (RG.p (RG.p (RG.p (RG.p (RG.p (RG.p (RG.p (RG.p (RG.p (RG.p (RG.p (RG.p (RG.p (RG.p (RG.p (RG.p (RG.p (RG.p (RG.p (RG.p (RG.p (RG.p (RG.p (RG.p (RG.p (RG.p (RG.p (RG.p (RG.p (RG.p (RG.p (RG.p (RG.p (RG.p (RG.p (RG.p (RG.p (RG.p (RG.p (RG.p (RG.p (RG.p (RG.p (RG.p (RG.p (RG.mk (regs [a0]) []) 2 (Value.bool false)) 20 a0) 21 v1) 3 v1) 22 v1) 23 v3) 4 v5) 24 v8) 25 v9) 26 v10) 27 v11) 28 v12) 29 v1) 30 v14) 31 v15) 5 v15) 33 v17) 34 v15) 35 v18) 32 v18) 36 v20) 37 v21) 6 v20) 7 v21) 39 v22) 40 v15) 41 v23) 38 v23) 42 v25) 43 v26) 8 v25) 9 v26) 45 v27) 46 v15) 47 v28) 44 v28) 48 v30) 49 v31) 10 v30) 11 v31) 50 v21) 51 v32) 52 v32) 52 (Value.bool false)) 53 v26) 54 v33) 55 v33) 56 v33) 56 (Value.bool false)) 57 v31) 58 v34) 59 v34) 59 (Value.bool false)) 60 undef) 61 undef) 62 (Value.bool false)) 63 (Value.bool false)) h29 (contX pl12 prog J 120 h.length 12 ct12 [1, 1, 1, 1, 1, 1, 1, 1, 0, 1] (codeOf f12) [] (RetQ prog [.tmp 2] h.length K))))))) := top_eq pok12 ct12 (by kernel_rfl)
end
section
variable {main : Bool} {J : JT} {n0 : Nat} {h : List AObj} {K : Value → List AObj → Prop}
theorem at94 : prog.funcs[94]? = some f94 := by kernel_rfl
theorem body94 : f94.body = some (codeOf f94) := by kernel_rfl
def pl94 : Plans := []
def ct94 : Cuts := .bin (.go) (.bin (.go) (.bin (.bin (.go) (.un (.un (.bin (.go) (.bin (.go) (.bin (.un (.bin (.go) (.bin (.go) (.bin (.go) (.cut (.go)))))) (.go))))))) (.go)))
theorem pok94 : plansOk prog pl94 (codeOf f94) = true := by kernel_rfl
theorem e94 {a0 a1 : Value} : W prog J 34 h.length 94 (codeOf f94) (RG.mk (regs [a0, a1]) []) h (RetQ prog [.tmp 4] h.length K) =
(aBox a0 h fun v1 h2 =>
aOff v1 3 fun v3 =>
aLoad false 1 v3 h2 fun v4 =>
aLenS v4 fun v5 =>
Sem J 34 h.length 94 (subC [1, 1, 0, 1, 0] (codeOf f94)) (RG.p (RG.p (RG.p (RG.p (RG.p (RG.p (RG.p (RG.mk (regs [a0, a1]) []) 2 v1) 4 (Value.slice none 0 0)) 5 (Value.slice none 0 0)) 9 v3) 10 v4) 11 v5) 12 (vint 0)) h2 (contX pl94 prog J 34 h.length 94 ct94 [1, 1, 0, 1, 0] (codeOf f94) [] (RetQ prog [.tmp 4] h.length K))) := top_eq pok94 ct94 (by kernel_rfl)
theorem g94 (hJ : Closed prog main J) {a0 a1 : Value} (hs : heapOk h → W prog J 34 h.length 94 (codeOf f94) (RG.mk (regs [a0, a1]) []) h (RetQ prog [.tmp 4] h.length K)) : Good prog J 94 [a0, a1] h K :=
  good_of_W hJ mixed at94 body94 (by kernel_rfl) (Nat.le_of_ble_eq_true rfl) hs
theorem s94_1 {f : RG} {nx0 : RG → List AObj → Prop} : W prog J 34 n0 94 (subC [1, 1, 0, 1, 0, 0] (codeOf f94)) f h (thenK nx0 (contX pl94 prog J 34 n0 94 ct94 [1, 1, 0, 1, 0] (codeOf f94) [] (RetQ prog [.tmp 4] n0 K))) =
(aBin prog .lss 3 (f.r 12) (f.r 11) fun v1 =>
cnd v1
(aIdx 2 (f.r 10) (f.r 12) fun v2 =>
aLoad true 2 v2 h fun v3 =>
aAlloc [(vint 0), (vint 0)] h fun v4 h5 =>
aStore 2 v4 v3 h5 fun h6 =>
Good prog J 95 [(f.r 1), (f.r 12)] h6 fun v7 h8 =>
aBin prog .eql 3 v7 (vint 0) fun v9 =>
cnd v9
(Hold (W prog J 34 n0 94 (subC [1, 1, 0, 1, 0, 0, 1, 1, 0, 0, 1, 1, 1] (codeOf f94)) (RG.p (RG.p (RG.p (RG.p (RG.p (RG.p (RG.p (RG.p (RG.p (RG.p (RG.p (RG.p (RG.p (RG.p (RG.p (RG.p (RG.p (RG.p (RG.p f 13 v1) 14 (f.r 12)) 15 v2) 16 v3) 7 v4) 6 (f.r 12)) 17 (f.r 1)) 18 (f.r 12)) 19 v7) 8 v7) 20 v7) 21 v9) 22 v9) 22 (Value.bool true)) 23 undef) 24 undef) 25 undef) 26 undef) 27 (Value.bool true)) h8 (contX pl94 prog J 34 n0 94 ct94 [1, 1, 0, 1, 0, 0, 1, 1, 0, 0, 1, 1, 1] (codeOf f94) [nx0] (RetQ prog [.tmp 4] n0 K))))
(aOff v4 1 fun v10 =>
aLoad false 1 v10 h8 fun v11 =>
aBin prog .gtr 3 v7 v11 fun v12 =>
Hold (W prog J 34 n0 94 (subC [1, 1, 0, 1, 0, 0, 1, 1, 0, 0, 1, 1, 1] (codeOf f94)) (RG.p (RG.p (RG.p (RG.p (RG.p (RG.p (RG.p (RG.p (RG.p (RG.p (RG.p (RG.p (RG.p (RG.p (RG.p (RG.p (RG.p (RG.p (RG.p f 13 v1) 14 (f.r 12)) 15 v2) 16 v3) 7 v4) 6 (f.r 12)) 17 (f.r 1)) 18 (f.r 12)) 19 v7) 8 v7) 20 v7) 21 v9) 22 v9) 22 (Value.bool false)) 23 v7) 24 v10) 25 v11) 26 v12) 27 v12) h8 (contX pl94 prog J 34 n0 94 ct94 [1, 1, 0, 1, 0, 0, 1, 1, 0, 0, 1, 1, 1] (codeOf f94) [nx0] (RetQ prog [.tmp 4] n0 K)))))
(retL n0 K f.ds [(f.r 5)] h)) := sub_eq pok94 ct94 (by kernel_rfl)
theorem l94_1 (hJ : Closed prog main J) {S : Type} (μ : S → Nat) (I : S → RG → List AObj → Prop) (hI : ∀ s f h, I s f h → heapOk h → n0 ≤ h.length → W prog J 34 n0 94 (subC [1, 1, 0, 1, 0, 0] (codeOf f94)) f h (thenK (Nx n0 μ I s) (contX pl94 prog J 34 n0 94 ct94 [1, 1, 0, 1, 0] (codeOf f94) [] (RetQ prog [.tmp 4] n0 K))))
  {s : S} {f : RG} (hi : Gets n0 I s f h) : Sem J 34 n0 94 (subC [1, 1, 0, 1, 0] (codeOf f94)) f h (contX pl94 prog J 34 n0 94 ct94 [1, 1, 0, 1, 0] (codeOf f94) [] (RetQ prog [.tmp 4] n0 K)) :=
  loop_rule hJ mixed (b := subC [1, 1, 0, 1, 0, 0] (codeOf f94)) (by kernel_rfl) μ I hI hi
theorem s94_2 {f : RG} {nx0 : RG → List AObj → Prop} : W prog J 34 n0 94 (subC [1, 1, 0, 1, 0, 0, 1, 1, 0, 0, 1, 1, 1] (codeOf f94)) f h (contX pl94 prog J 34 n0 94 ct94 [1, 1, 0, 1, 0, 0, 1, 1, 0, 0, 1, 1, 1] (codeOf f94) [nx0] (RetQ prog [.tmp 4] n0 K)) =
(cnd (f.r 27)
((((1 * 1 : Nat) ≤ 16777216 ∧ (1 : Nat) ≤ 16777216 ∧ List.length [(vint 0)] = 1) ∧ aFill (zrep [(vint 0)] 1) [(0, 1, (f.r 6))] fun c1 =>
aNewS 1 c1 h fun v2 h3 =>
((List.length [(vint 0)] = 1 ∧ 0 < (1 : Nat) ∧ 0 < (8 : Nat) ∧ (8 : Nat) ≤ 1024) ∧ aApp 1 (f.r 5) v2 h3 fun v4 h5 =>
aBin prog .add 3 (f.r 12) (vint 1) fun v6 =>
nx0 (RG.p (RG.p (RG.p (RG.p (RG.p (RG.p (RG.p f 28 (f.r 5)) 29 (f.r 6)) 30 v2) 31 v4) 5 v4) 32 v6) 12 v6) h5)))
(aBin prog .add 3 (f.r 12) (vint 1) fun v7 =>
nx0 (RG.p (RG.p f 32 v7) 12 v7) h)) := sub_eq pok94 ct94 (by kernel_rfl)
theorem at95 : prog.funcs[95]? = some f95 := by kernel_rfl
theorem body95 : f95.body = some (codeOf f95) := by kernel_rfl
def pl95 : Plans := []
def ct95 : Cuts := .go
theorem pok95 : plansOk prog pl95 (codeOf f95) = true := by kernel_rfl
theorem e95 {a0 a1 : Value} : W prog J 32 h.length 95 (codeOf f95) (RG.mk (regs [a0, a1]) []) h (RetQ prog [.tmp 4] h.length K) =
((((2 * 1 : Nat) ≤ 16777216 ∧ (2 : Nat) ≤ 16777216 ∧ List.length [(Value.slice none 0 0)] = 1) ∧ aFill (zrep [(Value.slice none 0 0)] 2) [(0, 1, a0), (1, 1, a0)] fun c1 =>
aNewS 2 c1 h fun v2 h3 =>
Good prog J 122 [v2] h3 fun v4 h5 =>
aLenS v4 fun v6 =>
Sem J 32 h.length 95 (subC [1, 1, 0, 1, 0] (codeOf f95)) (RG.p (RG.p (RG.p (RG.p (RG.p (RG.p (RG.p (RG.p (RG.p (RG.mk (regs [a0, a1]) []) 4 (vint 0)) 5 (vint (-1))) 6 (vint 0)) 9 a0) 10 a0) 11 v2) 12 v4) 13 v6) 14 (vint 0)) h5 (contX pl95 prog J 32 h.length 95 ct95 [1, 1, 0, 1, 0] (codeOf f95) [] (RetQ prog [.tmp 4] h.length K)))) := top_eq pok95 ct95 (by kernel_rfl)
theorem g95 (hJ : Closed prog main J) {a0 a1 : Value} (hs : heapOk h → W prog J 32 h.length 95 (codeOf f95) (RG.mk (regs [a0, a1]) []) h (RetQ prog [.tmp 4] h.length K)) : Good prog J 95 [a0, a1] h K :=
  good_of_W hJ mixed at95 body95 (by kernel_rfl) (Nat.le_of_ble_eq_true rfl) hs
theorem s95_1 {f : RG} {nx0 : RG → List AObj → Prop} : W prog J 32 n0 95 (subC [1, 1, 0, 1, 0, 0] (codeOf f95)) f h (thenK nx0 (contX pl95 prog J 32 n0 95 ct95 [1, 1, 0, 1, 0] (codeOf f95) [] (RetQ prog [.tmp 4] n0 K))) =
(aBin prog .lss 3 (f.r 14) (f.r 13) fun v1 =>
cnd v1
(aIdx 1 (f.r 12) (f.r 14) fun v2 =>
aLoad false 1 v2 h fun v3 =>
aBin prog .neq 3 v3 (f.r 1) fun v4 =>
cnd v4
(aBin prog .add 3 (f.r 14) (vint 1) fun v5 =>
nx0 (RG.p (RG.p (RG.p (RG.p (RG.p (RG.p (RG.p (RG.p (RG.p (RG.p (RG.p f 15 v1) 16 (f.r 14)) 17 v2) 18 v3) 7 (f.r 14)) 8 v3) 19 v3) 20 (f.r 1)) 21 v4) 30 v5) 14 v5) h)
(aBin prog .geq 3 (f.r 5) (vint 0) fun v6 =>
cnd v6
(aBin prog .sub 3 (f.r 14) (f.r 5) fun v7 =>
aMax (f.r 6) [v7] fun v8 =>
aBin prog .add 3 (f.r 14) (vint 1) fun v9 =>
nx0 (RG.p (RG.p (RG.p (RG.p (RG.p (RG.p (RG.p (RG.p (RG.p (RG.p (RG.p (RG.p (RG.p (RG.p (RG.p (RG.p (RG.p (RG.p (RG.p (RG.p (RG.p f 15 v1) 16 (f.r 14)) 17 v2) 18 v3) 7 (f.r 14)) 8 v3) 19 v3) 20 (f.r 1)) 21 v4) 22 (f.r 5)) 23 v6) 24 (f.r 6)) 25 (f.r 14)) 26 (f.r 5)) 27 v7) 28 v8) 6 v8) 29 (f.r 14)) 5 (f.r 14)) 30 v9) 14 v9) h)
(aBin prog .add 3 (f.r 14) (vint 1) fun v10 =>
nx0 (RG.p (RG.p (RG.p (RG.p (RG.p (RG.p (RG.p (RG.p (RG.p (RG.p (RG.p (RG.p (RG.p (RG.p (RG.p f 15 v1) 16 (f.r 14)) 17 v2) 18 v3) 7 (f.r 14)) 8 v3) 19 v3) 20 (f.r 1)) 21 v4) 22 (f.r 5)) 23 v6) 29 (f.r 14)) 5 (f.r 14)) 30 v10) 14 v10) h)))
(retL n0 K f.ds [(f.r 6)] h)) := sub_eq pok95 ct95 (by kernel_rfl)
theorem l95_1 (hJ : Closed prog main J) {S : Type} (μ : S → Nat) (I : S → RG → List AObj → Prop) (hI : ∀ s f h, I s f h → heapOk h → n0 ≤ h.length → W prog J 32 n0 95 (subC [1, 1, 0, 1, 0, 0] (codeOf f95)) f h (thenK (Nx n0 μ I s) (contX pl95 prog J 32 n0 95 ct95 [1, 1, 0, 1, 0] (codeOf f95) [] (RetQ prog [.tmp 4] n0 K))))
  {s : S} {f : RG} (hi : Gets n0 I s f h) : Sem J 32 n0 95 (subC [1, 1, 0, 1, 0] (codeOf f95)) f h (contX pl95 prog J 32 n0 95 ct95 [1, 1, 0, 1, 0] (codeOf f95) [] (RetQ prog [.tmp 4] n0 K)) :=
  loop_rule hJ mixed (b := subC [1, 1, 0, 1, 0, 0] (codeOf f95)) (by kernel_rfl) μ I hI hi
theorem at99 : prog.funcs[99]? = some f99 := by kernel_rfl
theorem body99 : f99.body = some (codeOf f99) := by kernel_rfl
def pl99 : Plans := []
def ct99 : Cuts := .go
theorem pok99 : plansOk prog pl99 (codeOf f99) = true := by kernel_rfl
theorem e99 {a0 a1 : Value} : W prog J 16 h.length 99 (codeOf f99) (RG.mk (regs [a0, a1]) []) h (RetQ prog [.tmp 4] h.length K) =
(aBox a0 h fun v1 h2 =>
aLoad true 4 v1 h2 fun v3 =>
Good prog J 94 [v3, a1] h2 fun v4 h5 =>
aLenS v4 fun v6 =>
aBin prog .eql 3 v6 (vint 0) fun v7 =>
cnd v7
(aLoad true 4 v1 h5 fun v8 =>
Good prog J 89 [v8, a1] h5 fun v9 h10 =>
aBin prog .lss 3 v9 (vint 0) fun v11 =>
retL h.length K [] [v11] h10)
(retL h.length K [] [(Value.bool false)] h5)) := top_eq pok99 ct99 (by kernel_rfl)
theorem g99 (hJ : Closed prog main J) {a0 a1 : Value} (hs : heapOk h → W prog J 16 h.length 99 (codeOf f99) (RG.mk (regs [a0, a1]) []) h (RetQ prog [.tmp 4] h.length K)) : Good prog J 99 [a0, a1] h K :=
  good_of_W hJ mixed at99 body99 (by kernel_rfl) (Nat.le_of_ble_eq_true rfl) hs
theorem at52 : prog.funcs[52]? = some f52 := by kernel_rfl
theorem body52 : f52.body = some (codeOf f52) := by kernel_rfl
def pl52 : Plans := []
def ct52 : Cuts := .go
theorem pok52 : plansOk prog pl52 (codeOf f52) = true := by kernel_rfl
theorem e52 {a0 a1 : Value} : W prog J 16 h.length 52 (codeOf f52) (RG.mk (regs [a0, a1]) []) h (RetQ prog [.tmp 4, .tmp 5] h.length K) =
(aBox a0 h fun v1 h2 =>
aLoad true 4 v1 h2 fun v3 =>
Good prog J 86 [v3, a1] h2 fun v4 h5 =>
aBin prog .neq 39 v4 (vint 0) fun v6 =>
cnd v6
(retL h.length K [] [(Value.slice none 0 0), v4] h5)
(aLoad true 4 v1 h5 fun v7 =>
Good prog J 94 [v7, a1] h5 fun v8 h9 =>
retL h.length K [] [v8, (vint 0)] h9)) := top_eq pok52 ct52 (by kernel_rfl)
theorem g52 (hJ : Closed prog main J) {a0 a1 : Value} (hs : heapOk h → W prog J 16 h.length 52 (codeOf f52) (RG.mk (regs [a0, a1]) []) h (RetQ prog [.tmp 4, .tmp 5] h.length K)) : Good prog J 52 [a0, a1] h K :=
  good_of_W hJ mixed at52 body52 (by kernel_rfl) (Nat.le_of_ble_eq_true rfl) hs
theorem at53 : prog.funcs[53]? = some f53 := by kernel_rfl
theorem body53 : f53.body = some (codeOf f53) := by kernel_rfl
def pl53 : Plans := []
def ct53 : Cuts := .go
theorem pok53 : plansOk prog pl53 (codeOf f53) = true := by kernel_rfl
theorem e53 {a0 a1 : Value} : W prog J 29 h.length 53 (codeOf f53) (RG.mk (regs [a0, a1]) []) h (RetQ prog [.tmp 4, .tmp 5] h.length K) =
(aBox a0 h fun v1 h2 =>
aLoad true 4 v1 h2 fun v3 =>
Good prog J 86 [v3, a1] h2 fun v4 h5 =>
aBin prog .neq 39 v4 (vint 0) fun v6 =>
cnd v6
(retL h.length K [] [(Value.slice none 0 0), v4] h5)
(aOff v1 3 fun v7 =>
aLoad false 1 v7 h5 fun v8 =>
aLenS v8 fun v9 =>
Sem J 29 h.length 53 (subC [1, 1, 1, 0, 1, 0] (codeOf f53)) (RG.p (RG.p (RG.p (RG.p (RG.p (RG.p (RG.p (RG.p (RG.p (RG.p (RG.p (RG.p (RG.p (RG.p (RG.mk (regs [a0, a1]) []) 2 v1) 4 (Value.slice none 0 0)) 5 (vint 0)) 9 v3) 10 a1) 11 v4) 6 v4) 12 v4) 13 v6) 7 (Value.slice none 0 0)) 15 v7) 16 v8) 17 v9) 18 (vint 0)) h5 (contX pl53 prog J 29 h.length 53 ct53 [1, 1, 1, 0, 1, 0] (codeOf f53) [] (RetQ prog [.tmp 4, .tmp 5] h.length K)))) := top_eq pok53 ct53 (by kernel_rfl)
theorem g53 (hJ : Closed prog main J) {a0 a1 : Value} (hs : heapOk h → W prog J 29 h.length 53 (codeOf f53) (RG.mk (regs [a0, a1]) []) h (RetQ prog [.tmp 4, .tmp 5] h.length K)) : Good prog J 53 [a0, a1] h K :=
  good_of_W hJ mixed at53 body53 (by kernel_rfl) (Nat.le_of_ble_eq_true rfl) hs
theorem s53_1 {f : RG} {nx0 : RG → List AObj → Prop} : W prog J 29 n0 53 (subC [1, 1, 1, 0, 1, 0, 0] (codeOf f53)) f h (thenK nx0 (contX pl53 prog J 29 n0 53 ct53 [1, 1, 1, 0, 1, 0] (codeOf f53) [] (RetQ prog [.tmp 4, .tmp 5] n0 K))) =
(aBin prog .lss 3 (f.r 18) (f.r 17) fun v1 =>
cnd v1
(Good prog J 95 [(f.r 1), (f.r 18)] h fun v2 h3 =>
(((1 * 1 : Nat) ≤ 16777216 ∧ (1 : Nat) ≤ 16777216 ∧ List.length [(vint 0)] = 1) ∧ aFill (zrep [(vint 0)] 1) [(0, 1, v2)] fun c4 =>
aNewS 1 c4 h3 fun v5 h6 =>
((List.length [(vint 0)] = 1 ∧ 0 < (1 : Nat) ∧ 0 < (8 : Nat) ∧ (8 : Nat) ≤ 1024) ∧ aApp 1 (f.r 7) v5 h6 fun v7 h8 =>
aBin prog .add 3 (f.r 18) (vint 1) fun v9 =>
nx0 (RG.p (RG.p (RG.p (RG.p (RG.p (RG.p (RG.p (RG.p (RG.p (RG.p (RG.p (RG.p f 19 v1) 20 (f.r 18)) 8 (f.r 18)) 21 (f.r 7)) 22 (f.r 1)) 23 (f.r 18)) 24 v2) 25 v5) 26 v7) 7 v7) 27 v9) 18 v9) h8)))
(retL n0 K f.ds [(f.r 7), (vint 0)] h)) := sub_eq pok53 ct53 (by kernel_rfl)
theorem l53_1 (hJ : Closed prog main J) {S : Type} (μ : S → Nat) (I : S → RG → List AObj → Prop) (hI : ∀ s f h, I s f h → heapOk h → n0 ≤ h.length → W prog J 29 n0 53 (subC [1, 1, 1, 0, 1, 0, 0] (codeOf f53)) f h (thenK (Nx n0 μ I s) (contX pl53 prog J 29 n0 53 ct53 [1, 1, 1, 0, 1, 0] (codeOf f53) [] (RetQ prog [.tmp 4, .tmp 5] n0 K))))
  {s : S} {f : RG} (hi : Gets n0 I s f h) : Sem J 29 n0 53 (subC [1, 1, 1, 0, 1, 0] (codeOf f53)) f h (contX pl53 prog J 29 n0 53 ct53 [1, 1, 1, 0, 1, 0] (codeOf f53) [] (RetQ prog [.tmp 4, .tmp 5] n0 K)) :=
  loop_rule hJ mixed (b := subC [1, 1, 1, 0, 1, 0, 0] (codeOf f53)) (by kernel_rfl) μ I hI hi
end
section
variable {main : Bool} {J : JT} {n0 : Nat} {h : List AObj} {K : Value → List AObj → Prop}
theorem at122 : prog.funcs[122]? = some f122 := by kernel_rfl
theorem body122 : f122.body = some (codeOf f122) := by kernel_rfl
def pl122 : Plans := []
def ct122 : Cuts := .go
theorem pok122 : plansOk prog pl122 (codeOf f122) = true := by kernel_rfl
theorem e122 {a0 : Value} : W prog J 36 h.length 122 (codeOf f122) (RG.mk (regs [a0]) []) h (RetQ prog [.tmp 2] h.length K) =
(aLenS a0 fun v1 =>
Sem J 36 h.length 122 (subC [1, 1, 0, 1, 0] (codeOf f122)) (RG.p (RG.p (RG.p (RG.p (RG.p (RG.mk (regs [a0]) []) 2 (Value.slice none 0 0)) 3 (vint 0)) 9 a0) 10 v1) 11 (vint 0)) h (contX pl122 prog J 36 h.length 122 ct122 [1, 1, 0, 1, 0] (codeOf f122) [] (RetQ prog [.tmp 2] h.length K))) := top_eq pok122 ct122 (by kernel_rfl)
theorem g122 (hJ : Closed prog main J) {a0 : Value} (hs : heapOk h → W prog J 36 h.length 122 (codeOf f122) (RG.mk (regs [a0]) []) h (RetQ prog [.tmp 2] h.length K)) : Good prog J 122 [a0] h K :=
  good_of_W hJ mixed at122 body122 (by kernel_rfl) (Nat.le_of_ble_eq_true rfl) hs
theorem s122_1 {f : RG} {nx0 : RG → List AObj → Prop} : W prog J 36 n0 122 (subC [1, 1, 0, 1, 0, 0] (codeOf f122)) f h (thenK nx0 (contX pl122 prog J 36 n0 122 ct122 [1, 1, 0, 1, 0] (codeOf f122) [] (RetQ prog [.tmp 2] n0 K))) =
(aBin prog .lss 3 (f.r 11) (f.r 10) fun v1 =>
cnd v1
(aIdx 1 (f.r 9) (f.r 11) fun v2 =>
aLoad false 1 v2 h fun v3 =>
aLenS v3 fun v4 =>
aBin prog .add 3 (f.r 3) v4 fun v5 =>
aBin prog .lss 3 v5 (vint 0) fun v6 =>
cnd v6
(False)
(aBin prog .add 3 (f.r 11) (vint 1) fun v7 =>
nx0 (RG.p (RG.p (RG.p (RG.p (RG.p (RG.p (RG.p (RG.p (RG.p (RG.p (RG.p (RG.p (RG.p f 12 v1) 13 v2) 14 v3) 5 v3) 15 (f.r 3)) 16 v3) 17 v4) 18 v5) 3 v5) 19 v5) 20 v6) 22 v7) 11 v7) h))
(Good prog J 132 [(Value.slice none 0 0), (f.r 3)] h fun v8 h9 =>
aLenS (f.r 0) fun v10 =>
Sem J 36 n0 122 (subC [1, 1, 1, 1, 0, 1, 0] (codeOf f122)) (RG.p (RG.p (RG.p (RG.p (RG.p (RG.p (RG.p f 12 v1) 23 (f.r 3)) 24 v8) 6 v8) 25 (f.r 0)) 26 v10) 27 (vint 0)) h9 (contX pl122 prog J 36 n0 122 ct122 [1, 1, 1, 1, 0, 1, 0] (codeOf f122) [] (RetQ prog [.tmp 2] n0 K)))) := sub_eq pok122 ct122 (by kernel_rfl)
theorem l122_1 (hJ : Closed prog main J) {S : Type} (μ : S → Nat) (I : S → RG → List AObj → Prop) (hI : ∀ s f h, I s f h → heapOk h → n0 ≤ h.length → W prog J 36 n0 122 (subC [1, 1, 0, 1, 0, 0] (codeOf f122)) f h (thenK (Nx n0 μ I s) (contX pl122 prog J 36 n0 122 ct122 [1, 1, 0, 1, 0] (codeOf f122) [] (RetQ prog [.tmp 2] n0 K))))
  {s : S} {f : RG} (hi : Gets n0 I s f h) : Sem J 36 n0 122 (subC [1, 1, 0, 1, 0] (codeOf f122)) f h (contX pl122 prog J 36 n0 122 ct122 [1, 1, 0, 1, 0] (codeOf f122) [] (RetQ prog [.tmp 2] n0 K)) :=
  loop_rule hJ mixed (b := subC [1, 1, 0, 1, 0, 0] (codeOf f122)) (by kernel_rfl) μ I hI hi
theorem s122_2 {f : RG} {nx0 : RG → List AObj → Prop} : W prog J 36 n0 122 (subC [1, 1, 1, 1, 0, 1, 0, 0] (codeOf f122)) f h (thenK nx0 (contX pl122 prog J 36 n0 122 ct122 [1, 1, 1, 1, 0, 1, 0] (codeOf f122) [] (RetQ prog [.tmp 2] n0 K))) =
(aBin prog .lss 3 (f.r 27) (f.r 26) fun v1 =>
cnd v1
(aIdx 1 (f.r 25) (f.r 27) fun v2 =>
aLoad false 1 v2 h fun v3 =>
((List.length [(vint 0)] = 1 ∧ 0 < (1 : Nat) ∧ 0 < (8 : Nat) ∧ (8 : Nat) ≤ 1024) ∧ aApp 1 (f.r 6) v3 h fun v4 h5 =>
aBin prog .add 3 (f.r 27) (vint 1) fun v6 =>
nx0 (RG.p (RG.p (RG.p (RG.p (RG.p (RG.p (RG.p (RG.p (RG.p (RG.p f 28 v1) 29 v2) 30 v3) 8 v3) 31 (f.r 6)) 32 v3) 33 v4) 6 v4) 34 v6) 27 v6) h5))
(retL n0 K f.ds [(f.r 6)] h)) := sub_eq pok122 ct122 (by kernel_rfl)
theorem l122_2 (hJ : Closed prog main J) {S : Type} (μ : S → Nat) (I : S → RG → List AObj → Prop) (hI : ∀ s f h, I s f h → heapOk h → n0 ≤ h.length → W prog J 36 n0 122 (subC [1, 1, 1, 1, 0, 1, 0, 0] (codeOf f122)) f h (thenK (Nx n0 μ I s) (contX pl122 prog J 36 n0 122 ct122 [1, 1, 1, 1, 0, 1, 0] (codeOf f122) [] (RetQ prog [.tmp 2] n0 K))))
  {s : S} {f : RG} (hi : Gets n0 I s f h) : Sem J 36 n0 122 (subC [1, 1, 1, 1, 0, 1, 0] (codeOf f122)) f h (contX pl122 prog J 36 n0 122 ct122 [1, 1, 1, 1, 0, 1, 0] (codeOf f122) [] (RetQ prog [.tmp 2] n0 K)) :=
  loop_rule hJ mixed (b := subC [1, 1, 1, 1, 0, 1, 0, 0] (codeOf f122)) (by kernel_rfl) μ I hI hi
theorem at132 : prog.funcs[132]? = some f132 := by kernel_rfl
theorem body132 : f132.body = some (codeOf f132) := by kernel_rfl
def pl132 : Plans := []
def ct132 : Cuts := .go
theorem pok132 : plansOk prog pl132 (codeOf f132) = true := by kernel_rfl
theorem e132 {a0 a1 : Value} : W prog J 27 h.length 132 (codeOf f132) (RG.mk (regs [a0, a1]) []) h (RetQ prog [.tmp 4] h.length K) =
(aBin prog .lss 3 a1 (vint 0) fun v1 =>
cnd v1
(False)
(aCapS a0 fun v2 =>
aLenS a0 fun v3 =>
aBin prog .sub 3 v2 v3 fun v4 =>
aBin prog .sub 3 a1 v4 fun v5 =>
aBin prog .gtr 3 v5 (vint 0) fun v6 =>
cnd v6
(aCapS a0 fun v7 =>
aSl2 1 a0 none (some v7) h fun v8 =>
((List.length [(vint 0)] = 1 ∧ 0 < (1 : Nat) ∧ 0 < (8 : Nat) ∧ (8 : Nat) ≤ 1024) ∧ aAppZ 1 [(vint 0)] v8 v5 h fun v9 h10 =>
aLenS a0 fun v11 =>
aSl2 1 v9 none (some v11) h10 fun v12 =>
retL h.length K [] [v12] h10))
(retL h.length K [] [a0] h))) := top_eq pok132 ct132 (by kernel_rfl)
theorem g132 (hJ : Closed prog main J) {a0 a1 : Value} (hs : heapOk h → W prog J 27 h.length 132 (codeOf f132) (RG.mk (regs [a0, a1]) []) h (RetQ prog [.tmp 4] h.length K)) : Good prog J 132 [a0, a1] h K :=
  good_of_W hJ mixed at132 body132 (by kernel_rfl) (Nat.le_of_ble_eq_true rfl) hs
end
end Go.Proofs.Ytindillghipjjaa
namespace Go.Proofs.Ytindillghipjjaa
open Go.Conc Go.Proofs.Try
set_option maxRecDepth 100000
theorem gapG_skip {r : List Int} {f : Int} {a : Nat} : ∀ {b : Nat}, a ≤ b → (∀ j, a ≤ j → j < b → ¬ occ r f j) → gapG r f b = gapG r f a
  | 0, h, _ => by rw [show a = 0 from by omega]
  | b + 1, h, hn => by
    rcases Nat.lt_or_ge b a with x | x
    · rw [show b + 1 = a from by omega]
    · have e : gapG r f (b + 1) = gapG r f b := by
        conv => lhs; unfold gapG
        rw [if_neg (hn b x (by omega))]
      rw [e]
      exact gapG_skip x fun j h1 h2 => hn j h1 (by omega)
theorem turn_twice {r : List Int} {i : Nat} (hr : 0 < r.length) (hi : i < r.length + r.length) : (r ++ r)[i]? = some (turnOf r i) := by
  unfold turnOf
  rw [List.getD_eq_getElem?_getD]
  rcases Nat.lt_or_ge i r.length with x | x
  · rw [List.getElem?_append_left x, Nat.mod_eq_of_lt x, List.getElem?_eq_getElem x]
    rfl
  · have e : i % r.length = i - r.length := by
      rw [Nat.mod_eq_sub_mod x, Nat.mod_eq_of_lt (by omega)]
    rw [List.getElem?_append_right x, e, List.getElem?_eq_getElem (by omega)]
    rfl
def unfTo (t : Tro) (r : List Int) (i : Nat) : List Int := ((List.range i).filter fun (i : Nat) => decide (gapR r i = 0 ∨ gapR r i > (droAt t i).every)).map Int.ofNat
def unfL (t : Tro) (r : List Int) : List Int := unfTo t r t.flocks.length
def gapsTo (r : List Int) (i : Nat) : List Int := (List.range i).map fun (i : Nat) => gapR r i
theorem unfTo_succ {t : Tro} {r : List Int} {i : Nat} : unfTo t r (i + 1) = if gapR r i = 0 ∨ gapR r i > (droAt t i).every then unfTo t r i ++ [(i : Int)] else unfTo t r i := by
  unfold unfTo
  rw [List.range_succ, List.filter_append]
  by_cases h : gapR r i = 0 ∨ gapR r i > (droAt t i).every
  · simp [h]
  · simp [h]
theorem gapsTo_succ {r : List Int} {i : Nat} : gapsTo r (i + 1) = gapsTo r i ++ [gapR r i] := by simp [gapsTo, List.range_succ]
theorem unfL_eq {t : Tro} {r : List Int} : unfL t r = (unfairR t r).map Int.ofNat := rfl
theorem unfTo_len {t : Tro} {r : List Int} (n : Nat) : (unfTo t r n).length ≤ n := by
  unfold unfTo
  rw [List.length_map]
  have := List.length_filter_le (fun (i : Nat) => decide (gapR r i = 0 ∨ gapR r i > (droAt t i).every)) (List.range n)
  simpa using this
theorem gapR_bd {r : List Int} (hr : r ≠ []) (f : Int) : 0 ≤ gapR r f ∧ gapR r f ≤ r.length := by
  refine ⟨gapR_nonneg, ?_⟩
  rw [gapR_le hr (by omega)]
  intro i ho
  have hp : 0 < r.length := by cases r <;> simp at hr ⊢
  exact ⟨r.length, hp, Int.le_refl _, (occ_mod f i).2 ho⟩
section
variable {main : Bool} {J : JT} {h H : List AObj} {K : Value → List AObj → Prop} {KV : Value → Prop} {n0 : Nat}
theorem capI {b : Option Addr} {n c : Nat} (h : c < fz) (hk : KV (vint c)) : aCapS (.slice b n c) KV := ⟨h, hk⟩
theorem len0 {K' : Value → Prop} (hk : K' (vint 0)) : aLenS (.slice none 0 0) K' := hk
theorem sl2nil {K' : Value → Prop} (hk : K' (.slice none 0 0)) : aSl2 1 (.slice none 0 0) none (some (vint 0)) h K' := ⟨Nat.le_refl _, ⟨rfl, rfl⟩, hk⟩
theorem sl2zero {b n : Nat} {cs : List Value} {wr : Bool} {K' : Value → Prop} (hb : h[b]? = some (.cells cs wr 1)) (hk : K' (.slice (some ⟨b, 0, none⟩) 0 fz)) : aSl2 1 (.slice (some ⟨b, 0, none⟩) n fz) none (some (vint 0)) h K' := by
  refine ⟨Nat.le_refl _, fun hx => absurd hx (Nat.lt_irrefl _), fun _ => ?_⟩
  rw [hb]
  exact ⟨⟨rfl, rfl, by decide, by simp, .inl rfl⟩, hk⟩
theorem good132 (hJ : Closed prog main J) {n : Nat} (hn : 0 < n ∧ n ≤ 1000) (hK : ∀ H' b cs, SameX [] H H' → H'[b]? = some (.cells cs true 1) → H.length ≤ b → K (.slice (some ⟨b, 0, none⟩) 0 fz) H') : Good prog J 132 [.slice none 0 0, vint (n : Nat)] H K := by
  have hz : (0 : Nat) < fz := by decide
  have hr : room = 1073741824 := rfl
  refine g132 hJ fun ok => ?_
  rw [e132]
  refine lssI (cndI (fun hx => absurd hx (by omega)) fun _ => capI hz ?_)
  show aBin prog .sub 3 (vint 0) (vint 0) _
  refine subI (by omega) (subI (by omega) (gtrI (cndI (fun _ => capI hz (sl2nil ⟨by decide, ?_⟩)) fun hx => absurd hx (by omega))))
  have e : vint ((n : Int) - (0 - 0)) = vint (n : Nat) := by congr 1
  rw [e]
  refine ⟨⟨rfl, rfl, by omega, by omega⟩, fun hx => absurd hx (by omega), fun _ => ?_⟩
  refine len0 (sl2zero (cs := zrep [vint 0] n) (wr := true) (by simp) (retL_same (by simp [unk]) ?_))
  exact hK _ H.length (zrep [vint 0] n) SameX.refl.app (by simp) (Nat.le_refl _)
theorem good122 (hJ : Closed prog main J) {av rv : Value} {r : List Int} (ha : Sli H av 1 2 [rv, rv]) (hr : Sli H rv 1 r.length (r.map vint)) (hl : 0 < r.length ∧ r.length ≤ 100)
    (hK : ∀ H' v, SameX [] H H' → Sli H' v 1 (r ++ r).length ((r ++ r).map vint) → K v H') : Good prog J 122 [av] H K := by
  have hroom : room = 1073741824 := rfl
  refine g122 hJ fun ok => ?_
  rw [e122]
  refine lenI ha ?_
  refine l122_1 hJ (fun i : Nat => 2 - i) (fun i F H' => H' = H ∧ i ≤ 2 ∧ F.ds = [] ∧ F.r 0 = av ∧ F.r 3 = vint ((i * r.length : Nat) : Int) ∧ F.r 9 = av ∧ F.r 10 = vint (2 : Nat) ∧ F.r 11 = vint (i : Nat)) ?_ (s := 0)
    (.inl ⟨rfl, by omega, rfl, rfl, by show vint 0 = vint _; congr 1; omega, rfl, rfl, rfl⟩)
  rintro i F H' ⟨rfl, hi, ds, r0, r3, r9, r10, r11⟩ okc hnc
  rw [s122_1, r0, r3, r9, r10, r11]
  refine lssI (cndI (fun hlt => ?_) fun hge => ?_)
  · have hx : ([rv, rv] : List Value)[((i : Nat) : Int).toNat]? = some rv := by
      have : i = 0 ∨ i = 1 := by omega
      rcases this with rfl | rfl <;> rfl
    refine idx_load ha ⟨by omega, by omega⟩ hx fun p => lenI hr (addI ?_ (lssI (cndI (fun hx => ?_) fun _ => addI (by omega) ?_)))
    · have : i = 0 ∨ i = 1 := by omega
      rcases this with rfl | rfl <;> omega
    · have : 0 ≤ ((i * r.length : Nat) : Int) := Int.natCast_nonneg _
      omega
    · refine ⟨i + 1, by dsimp only; omega, .inl ⟨rfl, by omega, ds, r0, ?_, r9, r10, by show vint _ = vint _; congr 1⟩⟩
      show vint _ = vint _
      congr 1
      rw [Nat.succ_mul]
      omega
  · have hi2 : i = 2 := by omega
    subst hi2
    refine good132 hJ (n := 2 * r.length) (by omega) fun H2 b cs S2 cb gb => lenI (S2.sli ha (by simp)) ?_
    refine l122_2 hJ (fun i : Nat => 2 - i) (fun i F H3 => i ≤ 2 ∧ SameX [] H' H3 ∧ F.ds = [] ∧ F.r 25 = av ∧ F.r 26 = vint (2 : Nat) ∧ F.r 27 = vint (i : Nat) ∧ ∃ b cs, H'.length ≤ b ∧ H3[b]? = some (.cells cs true 1) ∧ F.r 6 = .slice (some ⟨b, 0, none⟩) (i * r.length) fz ∧ i * r.length ≤ cs.length ∧ cs.take (i * r.length) = ((r ++ r).take (i * r.length)).map vint) ?_ (s := 0)
      (.inl ⟨by omega, S2, ds, rfl, rfl, rfl, b, cs, gb, cb, by show Value.slice _ _ _ = _; rw [Nat.zero_mul], by omega, by rw [Nat.zero_mul]; rfl⟩)
    rintro j F3 H3 ⟨hj, S3, ds3, r25, r26, r27, b3, cs3, g3, c3, r6, hl3, ht3⟩ okc3 hnc3
    rw [s122_2, r25, r26, r27, r6, ds3]
    refine lssI (cndI (fun hlt => ?_) fun hge => ?_)
    · have hj2 : j = 0 ∨ j = 1 := by omega
      have hx : ([rv, rv] : List Value)[((j : Nat) : Int).toNat]? = some rv := by
        rcases hj2 with rfl | rfl <;> rfl
      have hkn : kn (cs3.take (j * r.length * 1)) = true := by
        rw [Nat.mul_one, ht3]
        exact kn_ints _
      refine idx_load (S3.sli ha (by simp)) ⟨by omega, by omega⟩ hx fun p => ⟨by decide, ?_⟩
      refine app_own (m := r.length) c3 (by omega) hkn (by decide) (S3.sli hr (by simp)) (by rcases hj2 with rfl | rfl <;> omega) (addI (by omega) ?_)
      have hb3 := lt_of_get c3
      have e1 : (j + 1) * r.length = j * r.length + r.length := Nat.succ_mul _ _
      refine ⟨j + 1, by dsimp only; omega, .inl ⟨by omega, ?_, ds3, r25, r26, by show vint _ = vint _; congr 1, H3.length, cs3.take (j * r.length * 1) ++ r.map vint, by have := S3.1; omega, ?_, by show Value.slice _ _ _ = _; rw [e1], ?_, ?_⟩⟩
      · exact (S3.set (.inr g3)).app
      · rw [List.getElem?_append_right (by simp)]
        simp
      · simp
        omega
      · have h1 : (cs3.take (j * r.length * 1)).length = j * r.length := by simp; omega
        rw [List.take_of_length_le (by simp; omega), Nat.mul_one, ht3]
        rw [e1, ← List.map_append]
        congr 1
        rcases hj2 with rfl | rfl
        · simp
        · rw [Nat.one_mul, List.take_left, List.take_of_length_le (by simp)]
    · have hj2 : j = 2 := by omega
      subst hj2
      refine retL_same (by simp [unk]) (hK H3 _ S3 ?_)
      have e : (r ++ r).length = 2 * r.length := by simp; omega
      rw [e]
      refine ⟨_, _, rfl, ⟨by simp; omega, kn_ints _⟩, .inr ⟨b3, 0, rfl, .inr ⟨cs3, true, 1, c3, ?_⟩⟩⟩
      rw [List.drop_zero, Nat.mul_one, ht3, List.take_of_length_le (by omega)]
theorem good95 (hJ : Closed prog main J) {rv : Value} {r : List Int} {f : Int} (hr : Sli H rv 1 r.length (r.map vint)) (hl : 0 < r.length ∧ r.length ≤ 100)
    (hK : ∀ H', SameX [] H H' → K (vint (gapR r f)) H') : Good prog J 95 [rv, vint f] H K := by
  have hrne : r ≠ [] := by intro e; rw [e] at hl; simp at hl
  refine g95 hJ fun ok => ?_
  rw [e95]
  have rvo := sli_val hr
  refine ⟨by decide, fill_one (l := [rv]) (by rw [rvo.1]) rfl (by simp [rvo.2.1]) (by decide) (fill_one (l := [rv]) (by rw [rvo.1]) rfl (by simp [rvo.2.1]) (Nat.le_of_ble_eq_true rfl) (fillI (qNew fun H1 p1 e1 S1 c1 l1 => ?_)))⟩
  have c1 : H1[p1]? = some (.cells [rv, rv] true 0) := c1
  have s1 : Sli H1 (.slice (some ⟨p1, 0, none⟩) 2 2) 1 2 [rv, rv] := ownX_sli (ownX_new (s := 1) (n := 2) (l := [rv, rv]) c1 rfl (by simp [kn, rvo.2.2]))
  refine good122 hJ s1 (S1.sli hr (by simp)) hl fun H2 cv S2 C2 => lenI C2 ?_
  have e2 : (r ++ r).length = r.length + r.length := List.length_append
  have T2 : SameX [] H H2 := S1.trans S2
  refine l95_1 hJ (fun i : Nat => (r ++ r).length - i) (fun i F H' => H' = H2 ∧ i ≤ (r ++ r).length ∧ F.ds = [] ∧ F.r 1 = vint f ∧ F.r 12 = cv ∧ F.r 13 = vint ((r ++ r).length : Nat) ∧ F.r 14 = vint (i : Nat) ∧
      ((F.r 5 = vint (-1) ∧ F.r 6 = vint 0 ∧ ∀ j, j < i → ¬ occ r f j) ∨ ∃ l : Nat, F.r 5 = vint (l : Nat) ∧ F.r 6 = vint (gapG r f l) ∧ l < i ∧ occ r f l ∧ ∀ j, l < j → j < i → ¬ occ r f j)) ?_ (s := 0)
    (.inl ⟨rfl, by omega, rfl, rfl, rfl, rfl, rfl, .inl ⟨rfl, rfl, by simp⟩⟩)
  rintro i F H' ⟨rfl, hi, ds, r1, r12, r13, r14, hst⟩ okc hnc
  have hgb := gapR_bd hrne f
  rw [s95_1, r1, r12, r13, r14, ds]
  refine lssI (cndI (fun hlt => ?_) fun hge => ?_)
  · have hturn := turn_twice hl.1 (i := i) (by omega)
    refine sli_num' C2 hturn fun q => neqI (cndI (fun hne => addI (by omega) ?_) fun heq => ?_)
    · refine ⟨i + 1, by dsimp only; omega, .inl ⟨rfl, by omega, ds, r1, r12, r13, by show vint _ = vint _; congr 1, ?_⟩⟩
      have hno : ¬ occ r f i := hne
      rcases hst with ⟨a, b, c⟩ | ⟨l, a, b, c, d, e⟩
      · refine .inl ⟨a, b, fun j hj => ?_⟩
        rcases Nat.lt_or_ge j i with x | x
        · exact c j x
        · rwa [show j = i from by omega]
      · refine .inr ⟨l, a, b, by omega, d, fun j h1 h2 => ?_⟩
        rcases Nat.lt_or_ge j i with x | x
        · exact e j h1 x
        · rwa [show j = i from by omega]
    · have ho : occ r f i := Decidable.of_not_not heq
      rcases hst with ⟨a, b, c⟩ | ⟨l, a, b, c, d, e⟩
      · rw [a, b]
        refine geqI (cndI (fun hx => absurd hx (by decide)) fun _ => addI (by omega) ?_)
        refine ⟨i + 1, by dsimp only; omega, .inl ⟨rfl, by omega, ds, r1, r12, r13, by show vint _ = vint _; congr 1, .inr ⟨i, rfl, ?_, by omega, ho, fun j h1 h2 => by omega⟩⟩⟩
        rw [gapG_none c]
        exact b
      · have hgl : 0 ≤ gapG r f l := gapG_nonneg l
        rw [a, b]
        refine geqI (cndI (fun _ => subI (by omega) (maxI (addI (by omega) ?_))) fun hx => absurd (by omega) hx)
        have hnd : nextD r f l = ((i - l : Nat) : Int) := nextD_at hrne d (by omega) (by rw [show l + (i - l) = i from by omega]; exact ho) fun x h1 h2 => e _ (by omega) (by omega)
        have hg : gapG r f i = max (gapG r f l) ((i : Int) - l) := by
          rw [gapG_skip (a := l + 1) (b := i) (by omega) fun j h1 h2 => e j (by omega) h2]
          conv => lhs; unfold gapG
          rw [if_pos d, hnd]
          congr 1
          omega
        exact ⟨i + 1, by dsimp only; omega, .inl ⟨rfl, by omega, ds, r1, r12, r13, by show vint _ = vint _; congr 1, .inr ⟨i, rfl, by rw [hg]; rfl, by omega, ho, fun j h1 h2 => by omega⟩⟩⟩
  · have hi2 : i = r.length + r.length := by omega
    have hres : F.r 6 = vint (gapR r f) := by
      rcases hst with ⟨a, b, c⟩ | ⟨l, a, b, c, d, e⟩
      · rw [b]
        congr 1
        exact (gapG_none (n := r.length) fun j hj => c j (by omega)).symm
      · rw [b]
        congr 1
        refine gapG_more hrne ?_
        rcases Nat.lt_or_ge l r.length with x | x
        · exact absurd ((occ_mod f l).2 d) (e _ (by omega) (by omega))
        · exact x
    rw [hres]
    exact retL_same (by simp [unk]) (hK _ T2)
theorem good94 (hJ : Closed prog main J) {v fv rv : Value} {t : Tro} {r : List Int} (ht : TroAt H v t fv) (hr : Sli H rv 1 r.length (r.map vint)) (f : TroFine t) (g : RotaFine t r)
    (hK : ∀ H' lv, SameX [] H H' → Sli H' lv 1 (unfL t r).length ((unfL t r).map vint) → K lv H') : Good prog J 94 [v, rv] H K := by
  refine g94 hJ fun ok => ?_
  rw [e94, ht.val]
  have fl := f.len
  have gl := g.len
  have kf := (sli_val ht.fl).2.2
  refine qBox (tro_one ht) fun H1 p1 e1 S1 c1 l1 => offI (ldI (v := fv) c1 rfl kf (lenI (S1.sli ht.fl (by simp)) ?_))
  refine l94_1 hJ (fun i : Nat => t.flocks.length - i) (fun i F H' => SameX [] H H' ∧ i ≤ t.flocks.length ∧ F.ds = [] ∧ F.r 1 = rv ∧ F.r 10 = fv ∧ F.r 11 = vint (t.flocks.length : Nat) ∧ F.r 12 = vint (i : Nat) ∧ ∃ o, OwnX H' 1 ((unfTo t r i).map vint) (unfTo t r i).length (F.r 5) o ∧ ∀ j, o = some j → H.length ≤ j) ?_ (s := 0)
    (.inl ⟨S1, by omega, rfl, rfl, rfl, rfl, rfl, none, ⟨rfl, rfl, .inl ⟨rfl, rfl, rfl⟩⟩, by simp⟩)
  rintro i F H' ⟨S, hi, ds, r1, r10, r11, r12, o, O, ho⟩ okc hnc
  rw [s94_1, r1, r10, r11, r12, ds]
  refine lssI (cndI (fun hlt => ?_) fun hge => ?_)
  · have hil : i < t.flocks.length := by omega
    obtain ⟨b, of, cs, wr, sz, hidx, hb, hol, hft, hkn⟩ := sliE_elem dro_len (by omega) (S.sli ht.fl (by simp)) hil
    refine hidx _ (load_part hb hol hft hkn ?_)
    refine qAl fun H2 p2 e2 S2 c2 l2 => qStA (c := t.flocks[i].cells) c2 rfl rfl rfl fun H3 S3 c3 l3 => ?_
    have S13 : SameX [] H' H3 := S2.thru S3 (by simp; omega)
    refine good95 hJ ((S.trans S13).sli hr (by simp)) (by omega) fun H4 S4 => ?_
    have S14 : SameX [] H' H4 := S13.trans S4
    have T4 : SameX [] H H4 := S.trans S14
    have hev : (droAt t i).every = t.flocks[i].every := by rw [droAt_mem hil]
    -- the end of a round
    have last : ∀ {F' : RG}, F'.ds = [] → F'.r 1 = rv → F'.r 10 = fv → F'.r 11 = vint (t.flocks.length : Nat) → F'.r 12 = vint (i : Nat) → F'.r 5 = F.r 5 → F'.r 6 = vint (i : Nat) → F'.r 27 = .bool (decide (gapR r i = 0 ∨ gapR r i > (droAt t i).every)) →
        W prog J 34 H.length 94 (subC [1, 1, 0, 1, 0, 0, 1, 1, 0, 0, 1, 1, 1] (codeOf f94)) F' H4 (contX pl94 prog J 34 H.length 94 ct94 [1, 1, 0, 1, 0, 0, 1, 1, 0, 0, 1, 1, 1] (codeOf f94) [Nx H.length (fun i : Nat => t.flocks.length - i) (fun i F H' => SameX [] H H' ∧ i ≤ t.flocks.length ∧ F.ds = [] ∧ F.r 1 = rv ∧ F.r 10 = fv ∧ F.r 11 = vint (t.flocks.length : Nat) ∧ F.r 12 = vint (i : Nat) ∧ ∃ o, OwnX H' 1 ((unfTo t r i).map vint) (unfTo t r i).length (F.r 5) o ∧ ∀ j, o = some j → H.length ≤ j) i] (RetQ prog [.tmp 4] H.length K)) := by
      intro F' ds r1 r10 r11 r12 r5 r6 r27
      have O4 := ownX_keep O S14 (by simp)
      have hul := unfTo_len (t := t) (r := r) i
      rw [s94_2, r27, r5, r6, r12]
      refine cndI (fun hc => ?_) fun hc => ?_
      · refine ⟨by decide, fill_one rfl rfl rfl (by decide) (fillI (qNew fun H5 p5 e5 S5 c5 l5 => ⟨by decide, ?_⟩))⟩
        have c5 : H5[p5]? = some (.cells [vint (i : Nat)] true 0) := c5
        refine ownX_more (ownX_keep O4 S5 (by simp)) (by omega) (by omega) (ownX_sli (ownX_new (s := 1) (n := 1) (l := [vint (i : Nat)]) c5 rfl rfl)) fun lv' H6 p6 e6 O6 S6 => addI (by omega) ?_
        have e1 : unfTo t r (i + 1) = unfTo t r i ++ [(i : Int)] := by rw [unfTo_succ, if_pos hc]
        refine ⟨i + 1, by dsimp only; omega, .inl ⟨(T4.trans S5).thru S6 fun y hy => .inr (ho y (by simpa using hy)), by omega, ds, r1, r10, r11, by show vint _ = vint _; congr 1, some p6, ?_, fun j hj => by cases hj; have := T4.1; have := S5.1; omega⟩⟩
        rw [e1, List.map_append, List.length_append]
        exact O6
      · have e1 : unfTo t r (i + 1) = unfTo t r i := by rw [unfTo_succ, if_neg hc]
        refine addI (by omega) ⟨i + 1, by dsimp only; omega, .inl ⟨T4, by omega, ds, r1, r10, r11, by show vint _ = vint _; congr 1, o, ?_, ho⟩⟩
        rw [e1]
        show OwnX H4 1 _ _ (F'.r 5) o
        rw [r5]
        exact O4
    refine eqlI (cndI (fun hz => hold.2 ?_) fun hz => ?_)
    · refine last ds r1 r10 r11 r12 rfl rfl ?_
      show Value.bool _ = _
      rw [decide_eq_true (show gapR r i = 0 ∨ gapR r i > (droAt t i).every from .inl hz)]
    · refine offI (ldI (v := vint t.flocks[i].every) (S4.get c3 (by simp)) rfl rfl (gtrI (hold.2 ?_)))
      refine last ds r1 r10 r11 r12 rfl rfl ?_
      show Value.bool (decide _) = _
      congr 1
      rw [hev]
      exact decide_eq_decide.2 ⟨.inr, fun h => h.resolve_left hz⟩
  · have : i = t.flocks.length := by omega
    subst this
    refine retL_same ?_ (hK H' _ S (ownX_sli O))
    intro v hv
    have : v = F.r 5 := by simpa using hv
    subst this
    intro e
    have := (ownX_val O).2.2
    rw [e] at this
    cases this
def unfA (t : Tro) (r : List Int) : List Int := if rotaE t r = 0 then unfL t r else []
def gapsA (t : Tro) (r : List Int) : List Int := if rotaE t r = 0 then gapsTo r t.flocks.length else []
theorem good52 (hJ : Closed prog main J) {v fv rv : Value} {t : Tro} {r : List Int} (ht : TroAt H v t fv) (hr : Sli H rv 1 r.length (r.map vint)) (hl : t.flocks.length ≤ 1000000)
    (hK : ∀ H' lv, SameX [] H H' → Sli H' lv 1 (unfA t r).length ((unfA t r).map vint) → K (.tuple ⟨[lv, vint (rotaE t r)]⟩) H') : Good prog J 52 [v, rv] H K := by
  refine g52 hJ fun ok => ?_
  rw [e52, ht.val]
  refine qBox (tro_one ht) fun H1 p1 e1 S1 c1 l1 => ?_
  have tk := tro_kn ht
  refine load_part (c := troCells t fv) c1 (by simp [troCells]) rfl tk (good86 hJ ⟨rfl, S1.sli ht.fl (by simp)⟩ (S1.sli hr (by simp)) hl (neqI (cndI (fun g1 => ?_) fun g1 => ?_)))
  · refine retL_same (by simp [unk]) ?_
    exact hK H1 (.slice none 0 0) S1 (by unfold unfA; rw [if_neg g1]; exact sli_nil)
  · have g0 : rotaE t r = 0 := by omega
    obtain ⟨f, g⟩ := rotaE_fine g0
    refine load_part (c := troCells t fv) c1 (by simp [troCells]) rfl tk (good94 hJ ⟨rfl, S1.sli ht.fl (by simp)⟩ (S1.sli hr (by simp)) f g fun H2 lv S2 L2 => ?_)
    have kl := (sli_val L2).2.2
    refine retL_same ?_ ?_
    · intro v hv
      rcases List.mem_cons.1 hv with rfl | hv
      · intro e
        rw [e] at kl
        cases kl
      · have : v = vint 0 := by simpa using hv
        subst this
        simp [unk]
    · have := hK H2 lv (S1.trans S2) (by unfold unfA; rw [if_pos g0]; exact L2)
      rw [g0] at this
      exact this
theorem good53 (hJ : Closed prog main J) {v fv rv : Value} {t : Tro} {r : List Int} (ht : TroAt H v t fv) (hr : Sli H rv 1 r.length (r.map vint)) (hl : t.flocks.length ≤ 1000000)
    (hK : ∀ H' lv, SameX [] H H' → Sli H' lv 1 (gapsA t r).length ((gapsA t r).map vint) → K (.tuple ⟨[lv, vint (rotaE t r)]⟩) H') : Good prog J 53 [v, rv] H K := by
  refine g53 hJ fun ok => ?_
  rw [e53, ht.val]
  refine qBox (tro_one ht) fun H1 p1 e1 S1 c1 l1 => ?_
  have tk := tro_kn ht
  have kf := (sli_val ht.fl).2.2
  refine load_part (c := troCells t fv) c1 (by simp [troCells]) rfl tk (good86 hJ ⟨rfl, S1.sli ht.fl (by simp)⟩ (S1.sli hr (by simp)) hl (neqI (cndI (fun g1 => ?_) fun g1 => ?_)))
  · refine retL_same (by simp [unk]) ?_
    exact hK H1 (.slice none 0 0) S1 (by unfold gapsA; rw [if_neg g1]; exact sli_nil)
  · have g0 : rotaE t r = 0 := by omega
    obtain ⟨f, g⟩ := rotaE_fine g0
    have fl := f.len
    have gl := g.len
    refine offI (ldI (v := fv) c1 rfl kf (lenI (S1.sli ht.fl (by simp)) ?_))
    refine l53_1 hJ (fun i : Nat => t.flocks.length - i) (fun i F H' => SameX [] H H' ∧ i ≤ t.flocks.length ∧ F.ds = [] ∧ F.r 1 = rv ∧ F.r 17 = vint (t.flocks.length : Nat) ∧ F.r 18 = vint (i : Nat) ∧ ∃ o, OwnX H' 1 ((gapsTo r i).map vint) (gapsTo r i).length (F.r 7) o ∧ ∀ j, o = some j → H.length ≤ j) ?_ (s := 0)
      (.inl ⟨S1, by omega, rfl, rfl, rfl, rfl, none, ⟨rfl, rfl, .inl ⟨rfl, rfl, rfl⟩⟩, by simp⟩)
    rintro i F H' ⟨S, hi, ds, r1, r17, r18, o, O, ho⟩ okc hnc
    rw [s53_1, r1, r17, r18, ds]
    refine lssI (cndI (fun hlt => ?_) fun hge => ?_)
    · refine good95 hJ (S.sli hr (by simp)) (by omega) fun H4 S4 => ⟨by decide, fill_one rfl rfl rfl (by decide) (fillI (qNew fun H5 p5 e5 S5 c5 l5 => ⟨by decide, ?_⟩))⟩
      have c5 : H5[p5]? = some (.cells [vint (gapR r i)] true 0) := c5
      have hgl : (gapsTo r i).length = i := by simp [gapsTo]
      refine ownX_more (ownX_keep (ownX_keep O S4 (by simp)) S5 (by simp)) (by omega) (by omega) (ownX_sli (ownX_new (s := 1) (n := 1) (l := [vint (gapR r i)]) c5 rfl rfl)) fun lv' H6 p6 e6 O6 S6 => addI (by omega) ?_
      refine ⟨i + 1, by dsimp only; omega, .inl ⟨((S.trans S4).trans S5).thru S6 fun y hy => .inr (ho y (by simpa using hy)), by omega, ds, r1, r17, by show vint _ = vint _; congr 1, some p6, ?_, fun j hj => by cases hj; have := S.1; have := S4.1; have := S5.1; omega⟩⟩
      rw [gapsTo_succ, List.map_append, List.length_append]
      exact O6
    · have : i = t.flocks.length := by omega
      subst this
      have kl := (ownX_val O).2.2
      refine retL_same ?_ ?_
      · intro v hv
        rcases List.mem_cons.1 hv with rfl | hv
        · intro e
          rw [e] at kl
          cases kl
        · have : v = vint 0 := by simpa using hv
          subst this
          simp [unk]
      · have := hK H' (F.r 7) S (by unfold gapsA; rw [if_pos g0]; exact ownX_sli O)
        rw [g0] at this
        exact this
theorem good99 (hJ : Closed prog main J) {v fv rv : Value} {t : Tro} {r : List Int} (ht : TroAt H v t fv) (hr : Sli H rv 1 r.length (r.map vint)) (f : TroFine t) (g : RotaFine t r)
    (hK : ∀ H', SameX [] H H' → K (.bool (goodB t r)) H') : Good prog J 99 [v, rv] H K := by
  refine g99 hJ fun ok => ?_
  rw [e99, ht.val]
  refine qBox (tro_one ht) fun H1 p1 e1 S1 c1 l1 => ?_
  have tk := tro_kn ht
  refine load_part (c := troCells t fv) c1 (by simp [troCells]) rfl tk (good94 hJ ⟨rfl, S1.sli ht.fl (by simp)⟩ (S1.sli hr (by simp)) f g fun H2 lv S2 L2 => lenI L2 ?_)
  have T2 := S1.trans S2
  have el : (unfL t r).length = (unfairR t r).length := by rw [unfL_eq, List.length_map]
  refine eqlI (cndI (fun hz => ?_) fun hz => ?_)
  · refine load_part (c := troCells t fv) (S2.get c1 (by simp)) (by simp [troCells]) rfl tk (good89 hJ ⟨rfl, T2.sli ht.fl (by simp)⟩ (T2.sli hr (by simp)) f g fun H3 S3 => lssI ?_)
    have e : goodB t r = decide (lastsR t r < 0) := by
      unfold goodB
      rw [List.isEmpty_iff.2 (List.length_eq_zero_iff.1 (by omega : (unfairR t r).length = 0)), Bool.true_and]
    rw [← e]
    exact retL_same (by simp [unk]) (hK H3 (T2.trans S3))
  · have e : goodB t r = false := by
      unfold goodB
      have : (unfairR t r).isEmpty = false := by
        cases hx : (unfairR t r).isEmpty with
        | false => rfl
        | true =>
          have := List.isEmpty_iff.1 hx
          rw [this] at el
          have el : (unfL t r).length = 0 := el
          exact absurd (by omega) hz
      rw [this, Bool.false_and]
    rw [← e]
    exact retL_same (by simp [unk]) (hK H2 T2)
end
def firstN {α : Type} (f : Nat → Option α) : Nat → Option α
  | 0 => none
  | n + 1 => (firstN f n).or (f n)
theorem firstN_none {α : Type} {f : Nat → Option α} : ∀ {n : Nat}, (∀ i, i < n → f i = none) → firstN f n = none
  | 0, _ => rfl
  | n + 1, h => by
    unfold firstN
    rw [firstN_none fun i hi => h i (by omega), h n (by omega)]
    rfl
theorem firstN_some {α : Type} {f : Nat → Option α} {k : Nat} {r : α} : ∀ {n : Nat}, k < n → (∀ i, i < k → f i = none) → f k = some r → firstN f n = some r
  | 0, h, _, _ => absurd h (Nat.not_lt_zero _)
  | n + 1, h, h0, hr => by
    unfold firstN
    by_cases e : k = n
    · subst e
      rw [firstN_none h0, hr]
      rfl
    · rw [firstN_some (by omega) h0 hr]
      rfl
theorem firstN_nil {α : Type} {f : Nat → Option α} {n : Nat} (h : firstN f n = none) : ∀ i, i < n → f i = none := by
  induction n with
  | zero => exact fun i hi => absurd hi (Nat.not_lt_zero _)
  | succ n ih =>
    unfold firstN at h
    cases e : firstN f n with
    | some x => rw [e] at h; cases h
    | none =>
      rw [e] at h
      intro i hi
      by_cases e2 : i = n
      · subst e2; exact h
      · exact ih e i (by omega)
theorem firstN_iff {α : Type} {f : Nat → Option α} {r : α} : ∀ {n : Nat}, firstN f n = some r → ∃ k, k < n ∧ (∀ i, i < k → f i = none) ∧ f k = some r
  | 0, h => by cases h
  | n + 1, h => by
    unfold firstN at h
    cases e : firstN f n with
    | some x =>
      rw [e] at h
      obtain ⟨k, h1, h2, h3⟩ := firstN_iff e
      exact ⟨k, by omega, h2, by rw [h3]; exact h⟩
    | none =>
      rw [e] at h
      exact ⟨n, by omega, firstN_nil e, h⟩
def growR (t : Tro) : Nat → List Int → Option (List Int)
  | 0, l => bif goodB t l then some l else none
  | left + 1, l => firstN (fun i => growR t left (l ++ [(i : Int) - 1])) (t.flocks.length + 1)
def rotF (t : Tro) : Option (List Int) := firstN (fun i => growR t (i + 1) []) 5
theorem growR_is {t : Tro} : ∀ {left : Nat} {l r : List Int}, growR t left l = some r → goodB t r = true ∧ r.length = l.length + left ∧ ((∀ n ∈ l, -1 ≤ n ∧ n < t.flocks.length) → ∀ n ∈ r, -1 ≤ n ∧ n < t.flocks.length)
  | 0, l, r, h => by
    unfold growR at h
    cases e : goodB t l with
    | false => rw [e] at h; cases h
    | true =>
      rw [e] at h
      injection h with h
      subst h
      exact ⟨e, rfl, fun h => h⟩
  | left + 1, l, r, h => by
    unfold growR at h
    obtain ⟨k, h1, _, h3⟩ := firstN_iff h
    obtain ⟨a, b, c⟩ := growR_is h3
    refine ⟨a, by rw [b, List.length_append, List.length_singleton]; omega, fun h => c fun n hn => ?_⟩
    rcases List.mem_append.1 hn with hn | hn
    · exact h n hn
    · rw [List.mem_singleton.1 hn]
      omega
theorem rotF_is {t : Tro} {r : List Int} (h : rotF t = some r) : goodB t r = true ∧ RotaFine t r := by
  obtain ⟨k, h1, _, h3⟩ := firstN_iff h
  obtain ⟨a, b, c⟩ := growR_is h3
  have b : r.length = 0 + (k + 1) := b
  exact ⟨a, by omega, c (by simp)⟩
def Found (n : Nat) (H : List AObj) (v : Value) : Option (List Int) → Prop
  | none => v = .slice none 0 0
  | some r => ∃ o, OwnX H 1 (r.map vint) r.length v (some o) ∧ n ≤ o
theorem Found.val {n : Nat} {H : List AObj} {v : Value} {o : Option (List Int)} (a : Found n H v o) : ∃ b k c, v = .slice b k c ∧ b.isNone = o.isNone := by
  cases o with
  | none => exact ⟨none, 0, 0, a, rfl⟩
  | some r =>
    obtain ⟨o, O, _⟩ := a
    obtain ⟨h1, h2, ⟨_, _, h3⟩ | ⟨i, c, sz, hi, rfl, h5, h6⟩⟩ := O
    · cases h3
    · exact ⟨_, _, _, rfl, rfl⟩
theorem Found.unk {n : Nat} {H : List AObj} {v : Value} {o : Option (List Int)} (a : Found n H v o) : v ≠ unk := by
  obtain ⟨b, k, c, rfl, _⟩ := a.val
  intro e
  cases e
theorem Found.to {n m : Nat} {H H' : List AObj} {v : Value} {o : Option (List Int)} (a : Found n H v o) (hm : m ≤ n) {X : List Nat} (S : SameX X H H') (hX : ∀ x ∈ X, x < n) : Found m H' v o := by
  cases o with
  | none => exact a
  | some r =>
    obtain ⟨o, O, h⟩ := a
    exact ⟨o, ownX_keep O S fun i hi => by cases hi; exact fun hx => absurd (hX _ hx) (by omega), by omega⟩
section
variable {main : Bool} {J : JT} {h H : List AObj} {K : Value → List AObj → Prop} {KV : Value → Prop} {HL : List AObj → Prop} {n0 : Nat}
def rotaA (t : Tro) : Option (List Int) := if troE t = 0 then rotF t else none
def rotaX (t : Tro) : Int := if troE t ≠ 0 then troE t else if (rotF t).isNone then 11 else 0
end
section
variable {main : Bool} {J : JT} {h H : List AObj} {K : Value → List AObj → Prop} {KV : Value → Prop} {HL : List AObj → Prop} {n0 : Nat}
theorem good24 (hJ : Closed prog main J) {v fv : Value} {t : Tro} (ht : TroAt H v t fv) (hl : t.flocks.length < 1000000)
    (hK : ∀ H' fv' o, SameX [] H H' → OwnX H' 2 (t.flocks.flatMap Dro.cells) t.flocks.length fv' (some o) → H.length ≤ o → K (.agg ⟨troCells t fv'⟩) H') : Good prog J 24 [v] H K := by
  refine g24 hJ fun ok => ?_
  rw [e24, ht.val]
  have kf := (sli_val ht.fl).2.2
  refine qBox (tro_one ht) fun H1 p1 e1 S1 c1 l1 => qAl fun H2 p2 e2 S2 c2 l2 => ⟨by decide, fillI (qNew fun H3 p3 e3 S3 c3 l3 => ?_)⟩
  have c3 : H3[p3]? = some (.cells [] true 0) := c3
  have T3 : SameX [] H H3 := (S1.trans S2).trans S3
  have c13 := S3.get (S2.get c1 (by simp)) (by simp)
  have c23 := S3.get c2 (by simp)
  refine offI (ldI (v := fv) c13 rfl kf ⟨by decide, ?_⟩)
  refine appX c3 (by omega) hl (T3.sli ht.fl (by simp)) fun fv' H4 p4 O4 S4 hp4 => offI ?_
  refine qSt (S4.get c13 (by simp)) (by simp [troCells]) (ownX_val O4).1 (ownX_val O4).2.1 fun H5 S5 c5 l5 => ?_
  have hS4 := S4.1
  have O5 := ownX_keep O4 S5 (by intro i hi; cases hi; simp; omega)
  have tA : TroAt H5 (.agg ⟨troCells t fv'⟩) t fv' := ⟨rfl, ownX_sli O5⟩
  refine load_part (c := troCells t fv') c5 (by simp [troCells]) rfl (tro_kn tA) ?_
  refine qStA (c := troCells t fv') (S5.get (S4.get c23 (by simp)) (by simp; omega)) rfl rfl (tro_one tA) fun H6 S6 c6 l6 => ?_
  have O6 := ownX_keep O5 S6 (by intro i hi; cases hi; simp; omega)
  have T6 : SameX [] H H6 := ((T3.trans S4).thru S5 (by simp; omega)).thru S6 (by simp; omega)
  refine retQ_same rfl (resW_cell (gg := true) (s := 4) (by kernel_rfl) ?_)
  refine load_part (c := troCells t fv') c6 (by simp [troCells]) rfl (tro_kn tA) (resW_nil ?_)
  exact hK H6 fv' p4 T6 O6 (by omega)
end
section
variable {main : Bool} {J : JT} {h H : List AObj} {K : Value → List AObj → Prop} {KV : Value → Prop} {n0 : Nat}
theorem good25X (hJ : Closed prog main J) {av : Value} {xs : List Int} (ha : Sli H av 1 xs.length (xs.map vint)) (hl : xs.length < 1000000)
    (hK : ∀ H' v o, SameX [] H H' → OwnX H' 1 (xs.map vint) xs.length v (some o) → H.length ≤ o → K v H') : Good prog J 25 [av] H K := by
  refine g25 hJ fun ok => ?_
  rw [e25]
  refine ⟨by decide, fillI (qNew fun H1 p1 e1 S1 c1 l1 => ⟨by decide, ?_⟩)⟩
  have c1 : H1[p1]? = some (.cells [] true 0) := c1
  refine appX c1 (by omega) hl (S1.sli ha (by simp)) fun v' H2 p' O S hp => retL_same ?_ (hK H2 v' p' (S1.trans S) O (by omega))
  intro v hv
  have : v = v' := by simpa using hv
  subst this
  intro e
  have := (ownX_val O).2.2
  rw [e] at this
  cases this
end
def wordsR (F : Nat) : Nat → List (List Int)
  | 0 => [[]]
  | n + 1 => (List.range F).flatMap fun (i : Nat) => (wordsR F n).map ((i : Int) :: ·)
theorem wordsR_len {F : Nat} : ∀ n, (wordsR F n).length = F ^ n
  | 0 => rfl
  | n + 1 => by
    have h : ∀ i, ((List.range i).flatMap fun (i : Nat) => (wordsR F n).map ((i : Int) :: ·)).length = i * F ^ n := by
      intro i
      induction i with
      | zero => simp
      | succ i ih => rw [List.range_succ, List.flatMap_append, List.length_append, ih]; simp [wordsR_len n, Nat.add_mul]
    show ((List.range F).flatMap _).length = _
    rw [h, Nat.pow_succ, Nat.mul_comm]
theorem words_of {F : Nat} : ∀ {n : Nat} {w : List Int}, w ∈ wordsR F n → w.length = n ∧ ∀ x ∈ w, 0 ≤ x ∧ x < F
  | 0, w, h => by
    have : w = [] := by simpa [wordsR] using h
    subst this
    simp
  | n + 1, w, h => by
    unfold wordsR at h
    obtain ⟨i, hi, h⟩ := List.mem_flatMap.1 h
    obtain ⟨u, hu, rfl⟩ := List.mem_map.1 h
    have hi := List.mem_range.1 hi
    obtain ⟨a, b⟩ := words_of hu
    refine ⟨by simp [a], fun x hx => ?_⟩
    rcases List.mem_cons.1 hx with rfl | hx
    · omega
    · exact b x hx
def decR (w : List Int) : List Int := w.map (· - 1)
theorem firstN_range {α : Type} {f : Nat → Option α} : ∀ n, firstN f n = (List.range n).findSome? f
  | 0 => rfl
  | n + 1 => by
    rw [List.range_succ, List.findSome?_append, ← firstN_range n]
    show (firstN f n).or (f n) = _
    cases h : f n <;> simp [List.findSome?, h]
theorem growR_words {t : Tro} : ∀ (left : Nat) (l : List Int), growR t left l = ((wordsR (t.flocks.length + 1) left).map fun w => l ++ decR w).find? (goodB t)
  | 0, l => by
    unfold growR wordsR decR
    cases h : goodB t l <;> simp [List.find?, h]
  | left + 1, l => by
    unfold growR wordsR
    rw [firstN_range, List.map_flatMap, List.find?_flatMap]
    congr 1
    funext i
    rw [growR_words left, List.map_map]
    congr 1
    refine List.map_congr_left fun w _ => ?_
    simp [decR]
theorem growR_at {t : Tro} {n i : Nat} {w : List Int} (hw : (wordsR (t.flocks.length + 1) n)[i]? = some w) (hg : goodB t (decR w) = true) (hn : ∀ j u, j < i → (wordsR (t.flocks.length + 1) n)[j]? = some u → goodB t (decR u) = false) : growR t n [] = some (decR w) := by
  rw [growR_words]
  obtain ⟨hi, rfl⟩ := List.getElem?_eq_some_iff.1 hw
  rw [List.find?_eq_some_iff_getElem]
  refine ⟨by simpa using hg, i, by simpa using hi, by simp, fun j hj => ?_⟩
  have := hn j _ hj (List.getElem?_eq_getElem (by omega))
  simpa using this
theorem growR_no {t : Tro} {n : Nat} (hn : ∀ (j : Nat) u, (wordsR (t.flocks.length + 1) n)[j]? = some u → goodB t (decR u) = false) : growR t n [] = none := by
  rw [growR_words, List.find?_eq_none]
  intro x hx
  obtain ⟨u, hu, rfl⟩ := List.mem_map.1 hx
  obtain ⟨j, hj⟩ := List.getElem?_of_mem hu
  have := hn j u hj
  simpa using this
def OwnL (n : Nat) (H : List AObj) (v : Value) (ls : List (List Int)) (o : Option Nat) : Prop :=
  (∀ j, o = some j → n ≤ j) ∧ ∃ cs, OwnX H 1 cs ls.length v o ∧ ∀ (i : Nat) l, ls[i]? = some l → ∃ lv b, cs[i]? = some lv ∧ OwnX H 1 (l.map vint) l.length lv b ∧ ∀ j, b = some j → some j ≠ o ∧ n ≤ j
theorem OwnL.keep {n : Nat} {H H' : List AObj} {v : Value} {ls : List (List Int)} {o : Option Nat} (a : OwnL n H v ls o) (S : SameX [] H H') : OwnL n H' v ls o := by
  obtain ⟨h1, cs, O, he⟩ := a
  refine ⟨h1, cs, ownX_keep O S (by simp), fun i l hl => ?_⟩
  obtain ⟨lv, b, e1, e2, e3⟩ := he i l hl
  exact ⟨lv, b, e1, ownX_keep e2 S (by simp), e3⟩
section
variable {main : Bool} {J : JT} {h H : List AObj} {K : Value → List AObj → Prop} {KV : Value → Prop} {HL : List AObj → Prop} {n0 : Nat}
theorem OwnL.get {n i : Nat} {v : Value} {ls : List (List Int)} {o : Option Nat} (a : OwnL n H v ls o) {l : List Int} (hl : ls[i]? = some l) {K2 : Value → Value → Prop} (hK : ∀ p lv b, OwnX H 1 (l.map vint) l.length lv b → (∀ j, b = some j → n ≤ j) → K2 p lv) : aIdx 1 v (vint (i : Nat)) fun p => aLoad false 1 p H (K2 p) := by
  obtain ⟨h1, cs, O, he⟩ := a
  obtain ⟨lv, b, e1, e2, e3⟩ := he i l hl
  have hi := (List.getElem?_eq_some_iff.1 hl).1
  exact idx_load (ownX_sli O) ⟨by omega, by omega⟩ (by rw [Int.toNat_natCast]; exact e1) fun p => hK p lv b e2 fun j hj => (e3 j hj).2
theorem app_zero {x y : Value} {p : Nat} (hp : H[p]? = some (.cells [x] true 0)) (hk : kn1 x = true) (hy : Sli H y 1 0 []) (hK : K (.slice (some ⟨p, 0, none⟩) 1 1) H) : aApp 1 (.slice (some ⟨p, 0, none⟩) 1 1) y H K := by
  have hfz : (1000 : Nat) < fz := by decide
  have hrm : (2000 : Nat) < room := by decide
  obtain ⟨yb, yc, rfl, hyk, hh⟩ := id hy
  refine ⟨by omega, src_sli hy (by omega) ?_⟩
  simp only [hp]
  refine ⟨⟨by simp, by simp [kn]; exact hk⟩, fun _ => ⟨fun _ => ⟨trivial, by simp, ?_⟩, fun h => absurd h (by omega)⟩, fun h => absurd h (by omega)⟩
  have e : H.set p (.cells (wrAt [x] (0 + 1 * 1) []) true 0) = H := by
    apply List.ext_getElem?
    intro i
    rw [List.getElem?_set]
    split
    · rename_i e
      subst e
      rw [if_pos (lt_of_get hp)]
      simpa [wrAt] using hp.symm
    · rfl
  rw [e]
  exact hK
theorem goodB_eq {t : Tro} {r : List Int} : goodB t r = (decide (((unfL t r).length : Int) = 0) && decide (lastsR t r < 0)) := by
  unfold goodB
  rw [unfL_eq, List.length_map]
  cases unfairR t r with
  | nil => rfl
  | cons a l =>
    have : ¬ (((a :: l).length : Nat) : Int) = 0 := by rw [List.length_cons]; omega
    rw [decide_eq_false this]
    rfl
end
end Go.Proofs.Ytindillghipjjaa
namespace Go.Proofs.Ytindillghipjjaa
open Go.Conc Go.Proofs.Try
structure Ref where
  now : Int
  next : Nat
  out : List Int
def partG (hd : Nat → Int) (g : Nat → List (List Int)) (i k : Nat) : List (List Int) := ((List.range i).flatMap fun j => (g j).map (hd j :: ·)) ++ ((g i).take k).map (hd i :: ·)
section
variable {hd : Nat → Int} {g : Nat → List (List Int)} {i k : Nat}
theorem partG_zero : partG hd g i 0 = (List.range i).flatMap fun j => (g j).map (hd j :: ·) := by unfold partG; simp
theorem partG_all : partG hd g i (g i).length = partG hd g (i + 1) 0 := by
  rw [partG_zero]
  unfold partG
  rw [List.take_length, List.range_succ, List.flatMap_append]
  simp
theorem partG_succ {w : List Int} (hw : (g i)[k]? = some w) : partG hd g i (k + 1) = partG hd g i k ++ [hd i :: w] := by
  unfold partG
  rw [List.take_add_one, hw, List.map_append, List.append_assoc]
  rfl
theorem partG_le {B : Nat} (hB : ∀ j, (g j).length ≤ B) : (partG hd g i k).length ≤ (i + 1) * B := by
  have h : ∀ i, ((List.range i).flatMap fun j => (g j).map (hd j :: ·)).length ≤ i * B := by
    intro i
    induction i with
    | zero => simp
    | succ i ih =>
      rw [List.range_succ, List.flatMap_append, List.length_append, Nat.succ_mul]
      have := hB i
      simp only [List.flatMap_cons, List.flatMap_nil, List.append_nil, List.length_map]
      omega
  have h1 := h i
  have h2 := hB i
  unfold partG
  rw [List.length_append, List.length_map, List.length_take, Nat.succ_mul]
  have := Nat.min_le_right k (g i).length
  omega
end
theorem bound_more {t : Tro} {r : List Int} (f : TroFine t) {n : Nat} (hn : (n : Int) = (t.well.holds + 3) * r.length) : bound t r ≤ n := by
  have hb : ((bound t r : Nat) : Int) = (t.well.holds + 1) * r.length := by
    unfold bound
    rw [Int.natCast_mul]
    congr 1
    have := f.holds
    omega
  have h1 : (t.well.holds + 3) * (r.length : Int) = (t.well.holds + 1) * (r.length : Int) + 2 * (r.length : Int) := by
    rw [← Int.add_mul]
    congr 1
    omega
  omega
theorem dry_head {t : Tro} {r : List Int} (f : TroFine t) (hr : r ≠ []) {n : Nat} (hn : bound t r ≤ n) : (dryR t r n = [] ∧ lastsR t r = -1) ∨ (0 ≤ lastsR t r ∧ (dryR t r n)[0]? = some (lastsR t r)) := by
  rcases Int.lt_or_le (lastsR t r) 0 with h | h
  · obtain ⟨h1, h2⟩ := lasts_neg f hr h
    exact .inl ⟨dry_nil fun i _ => h2 i, h1⟩
  · obtain ⟨k, h1, h2, h3, h4⟩ := lasts_pos h
    refine .inr ⟨h, ?_⟩
    rw [h1]
    exact dry_first h3 h4 (by omega)
def rotasR (F n : Nat) : List (List Int) := (wordsR F n).map decR
theorem rotasR_len (F n : Nat) : (rotasR F n).length = F ^ n := by
  unfold rotasR
  rw [List.length_map, wordsR_len]
theorem rotas_bd {F n : Nat} (hF : F ≤ 4) (hn : n ≤ 5) : F ^ n ≤ 1024 := by
  have h1 : F ^ n ≤ 4 ^ n := Nat.pow_le_pow_left hF n
  have h2 : 4 ^ n ≤ 4 ^ 5 := Nat.pow_le_pow_right (by decide) hn
  have h3 : 4 ^ 5 = 1024 := rfl
  omega
theorem rotas_end {F n : Nat} : partG (fun j => (j : Int) - 1) (fun _ => rotasR F n) F 0 = rotasR F (n + 1) := by
  rw [partG_zero]
  unfold rotasR
  conv => rhs; unfold wordsR
  rw [List.map_flatMap]
  congr 1
  funext i
  rw [List.map_map, List.map_map]
  rfl
theorem rotas_of {F n : Nat} {w : List Int} (h : w ∈ rotasR F n) : w.length = n ∧ ∀ x ∈ w, -1 ≤ x ∧ x < (F : Int) - 1 := by
  obtain ⟨u, hu, rfl⟩ := List.mem_map.1 h
  obtain ⟨a, b⟩ := words_of hu
  refine ⟨by simp [decR, a], fun x hx => ?_⟩
  obtain ⟨y, hy, rfl⟩ := List.mem_map.1 hx
  have := b y hy
  omega
theorem rotas_at {t : Tro} {n i : Nat} {w : List Int} (hw : (rotasR (t.flocks.length + 1) n)[i]? = some w) (hg : goodB t w = true) (hn : ∀ j u, j < i → (rotasR (t.flocks.length + 1) n)[j]? = some u → goodB t u = false) : growR t n [] = some w := by
  unfold rotasR at hw hn
  rw [List.getElem?_map] at hw
  obtain ⟨u, hu, rfl⟩ := Option.map_eq_some_iff.1 hw
  refine growR_at hu hg fun j v hj hv => hn j _ hj ?_
  rw [List.getElem?_map, hv]
  rfl
theorem rotas_no {t : Tro} {n : Nat} (hn : ∀ (j : Nat) u, (rotasR (t.flocks.length + 1) n)[j]? = some u → goodB t u = false) : growR t n [] = none := by
  unfold rotasR at hn
  refine growR_no fun j v hv => hn j _ ?_
  rw [List.getElem?_map, hv]
  rfl
end Go.Proofs.Ytindillghipjjaa
namespace Go.Proofs.Ytindillghipjjaa
open Go.Conc Go.Proofs.Try
set_option maxRecDepth 100000
section
variable {h H : List AObj} {K : Value → List AObj → Prop}
theorem app_cons {He : List AObj} {pe : Nat} {x : Int} {w : List Int} {lv : Value} (ce : He[pe]? = some (.cells [vint x] true 0)) (hw : Sli He lv 1 w.length (w.map vint)) (hwl : w.length < 900)
    (hK : ∀ H' wv b, SameX [pe] He H' → OwnX H' 1 ((x :: w).map vint) (x :: w).length wv (some b) → (b = pe ∨ He.length ≤ b) → K wv H') : aApp 1 (.slice (some ⟨pe, 0, none⟩) 1 1) lv He K := by
  have Op := ownX_new (s := 1) (n := 1) (l := [vint x]) ce rfl rfl
  by_cases h0 : w.length = 0
  · have : w = [] := List.length_eq_zero_iff.1 h0
    subst this
    exact app_zero ce rfl hw (hK He _ pe SameX.refl Op (.inl rfl))
  · refine ownX_app Op (by omega) (by omega) (by omega) hw fun v8 H9 p9 e9 O9 S9 l9 => hK H9 v8 p9 S9 ?_ (.inr (by omega))
    have e1 : (x :: w).length = 1 + w.length := by simp; omega
    rw [e1]
    exact O9
theorem OwnL.more {lo : Nat} {H : List AObj} {ls : List (List Int)} {o : Option Nat} {v y wv : Value} {l : List Int} {bf : Nat} {K : Value → List AObj → Prop}
    (L : OwnL lo H v ls o) (hlo : lo ≤ H.length) (hpl : ls.length < 90000) (Of : OwnX H 1 (l.map vint) l.length wv (some bf)) (hbf : lo ≤ bf) (hne : some bf ≠ o) (hyv : Sli H y 1 1 [wv])
    (hK : ∀ v' H' o', SameX o.toList H H' → OwnL lo H' v' (ls ++ [l]) (some o') → H.length ≤ o' → v' ≠ unk → K v' H') : aApp 1 v y H K := by
  obtain ⟨hl0, cs, Oc, he⟩ := L
  have bfl := ownX_lt Of bf rfl
  refine ownX_more Oc (by omega) (by omega) hyv fun v' Hh ph eh Oh Sh => ?_
  have hno : ∀ j, some j ≠ o → j ∉ o.toList := fun j hj hm => hj (by rw [Option.mem_toList.1 hm])
  refine hK v' Hh ph Sh ⟨fun j hj => by cases hj; omega, cs ++ [wv], by rw [List.length_append]; exact Oh, fun m l' hl => ?_⟩ (by omega) ?_
  · have hcl : cs.length = ls.length := by have := Oc.1; omega
    rcases Nat.lt_or_ge m ls.length with hm | hm
    · rw [List.getElem?_append_left hm] at hl
      obtain ⟨lv2, b2, e2, e3, e4⟩ := he m l' hl
      refine ⟨lv2, b2, by rw [List.getElem?_append_left (by omega)]; exact e2, ownX_keep e3 Sh fun j hj => hno j (e4 j hj).1, fun j hj => ⟨?_, (e4 j hj).2⟩⟩
      have := ownX_lt e3 j hj
      intro e
      injection e with e
      omega
    · rw [List.getElem?_append_right hm] at hl
      have hm0 : m - ls.length = 0 := by
        have := (List.getElem?_eq_some_iff.1 hl).1
        simp at this
        omega
      rw [hm0] at hl
      have : l' = l := by simpa using hl.symm
      subst this
      refine ⟨wv, some bf, by rw [List.getElem?_append_right (by omega), hcl, hm0]; rfl, ownX_keep Of Sh fun j hj => ?_, fun j hj => ?_⟩
      · cases hj
        exact hno _ hne
      · cases hj
        refine ⟨fun e => ?_, hbf⟩
        injection e with e
        omega
  · have := (ownX_val Oh).2.2
    intro e
    rw [e] at this
    cases this
theorem one_nil {lo : Nat} {p : Nat} (c : H[p]? = some (.cells [.slice none 0 0] true 0)) (hp : lo ≤ p) : OwnL lo H (.slice (some ⟨p, 0, none⟩) 1 1) [[]] (some p) := by
  refine ⟨fun j hj => by cases hj; exact hp, _, ownX_new (s := 1) (n := 1) c rfl rfl, fun i l hl => ?_⟩
  cases i with
  | zero =>
    have : l = [] := by simpa using hl.symm
    subst this
    exact ⟨_, none, rfl, ⟨rfl, rfl, .inl ⟨rfl, rfl, rfl⟩⟩, by simp⟩
  | succ i => simp at hl
theorem OwnL.nil {lo : Nat} : OwnL lo H (.slice none 0 0) [] none := ⟨by simp, [], ⟨rfl, rfl, .inl ⟨rfl, rfl, rfl⟩⟩, by simp⟩
theorem OwnL.lo {n m : Nat} {v : Value} {ls : List (List Int)} {o : Option Nat} (a : OwnL n H v ls o) (h : m ≤ n) : OwnL m H v ls o := by
  obtain ⟨a1, cs, a2, a3⟩ := a
  exact ⟨fun j hj => by have := a1 j hj; omega, cs, a2, fun i l hl => by
    obtain ⟨lv, b, q1, q2, q3⟩ := a3 i l hl
    exact ⟨lv, b, q1, q2, fun j hj => ⟨(q3 j hj).1, by have := (q3 j hj).2; omega⟩⟩⟩
theorem OwnL.lt {n : Nat} {v : Value} {ls : List (List Int)} {o : Option Nat} (a : OwnL n H v ls o) : ∀ j, o = some j → n ≤ j ∧ j < H.length := fun j hj => ⟨a.1 j hj, ownX_lt a.2.choose_spec.1 j hj⟩
theorem OwnL.sli {n : Nat} {v : Value} {ls : List (List Int)} {o : Option Nat} (a : OwnL n H v ls o) : ∃ cs, Sli H v 1 ls.length cs := ⟨_, ownX_sli a.2.choose_spec.1⟩
theorem OwnL.nunk {n : Nat} {v : Value} {ls : List (List Int)} {o : Option Nat} (a : OwnL n H v ls o) : v ≠ unk := by
  have := (ownX_val a.2.choose_spec.1).2.2
  intro e
  rw [e] at this
  cases this
end
section
variable {main : Bool} {J : JT} {h H : List AObj} {K : Value → List AObj → Prop} {KV : Value → Prop} {HL : List AObj → Prop} {n0 : Nat} {nx0 : RG → List AObj → Prop}
variable {t : Tro} {cs : List Int} {os : List Nat} {fv cv ov : Value} {p1 p4 hh : Nat} {s : Ref} {F : RG}
theorem nuA {a b : Value} (ha : a ≠ unk) (hb : b ≠ unk) : ∀ v ∈ [a, b], v ≠ unk := by
  intro v hv
  simp only [List.mem_cons, List.not_mem_nil, or_false] at hv
  rcases hv with rfl | rfl <;> assumption
end
theorem own_nunkV {H : List AObj} {s len : Nat} {cs : List Value} {v : Value} {o : Option Nat} (O : OwnX H s cs len v o) : v ≠ unk := by
  obtain ⟨_, _, rfl, _⟩ := ownX_sli O
  simp [unk]
section
variable {main : Bool} {J : JT} {h H : List AObj} {K : Value → List AObj → Prop} {KV : Value → Prop} {HL : List AObj → Prop} {n0 : Nat}
theorem good101 (hJ : Closed prog main J) {rv : Value} {r : List Int} {f : Int} (hs : Sli H rv 1 r.length (r.map vint)) (hr : r ≠ []) (hl : r.length ≤ 100) (hK : K (vint (gapR r f)) H) : Good prog J 101 [rv, vint f] H K := by
  refine g101 hJ fun ok => ?_
  rw [e101]
  have hp : 0 < r.length := by cases r <;> simp at hr ⊢
  have turn : ∀ k, r[k % r.length]? = some (turnOf r k) := fun k => by
    have hmod := Nat.mod_lt k hp
    unfold turnOf
    rw [List.getD_eq_getElem?_getD, List.getElem?_eq_getElem hmod]
    rfl
  refine lenI hs ?_
  refine l101_1 hJ (fun i : Nat => r.length - i) (fun i F H' => H' = H ∧ i ≤ r.length ∧ F.ds = [] ∧ F.r 0 = rv ∧ F.r 1 = vint f ∧ F.r 5 = vint (gapG r f i) ∧ F.r 6 = vint (r.length : Nat) ∧ F.r 7 = vint (i : Nat)) ?_ (s := 0)
    (.inl ⟨rfl, by omega, rfl, rfl, rfl, rfl, rfl, rfl⟩)
  rintro i F H' ⟨rfl, hi, ds, r0, r1, r5, r6, r7⟩ okc hnc
  rw [s101_1, r0, r1, r5, r6, r7, ds]
  refine lssI (cndI (fun hlt => ?_) fun hge => ?_)
  rotate_left
  · have : i = r.length := by omega
    subst this
    exact retL_same (by simp [unk]) hK
  have hil : i < r.length := by omega
  have ht := turn i
  rw [Nat.mod_eq_of_lt hil] at ht
  refine sli_num' hs ht fun q => neqI (cndI (fun hne => ?_) fun heq => ?_)
  · have hno : ¬ occ r f i := hne
    refine addI (by omega) ⟨i + 1, by dsimp only; omega, .inl ⟨rfl, by omega, ds, r0, r1, ?_, r6, by show vint _ = vint _; congr 1⟩⟩
    show F.r 5 = _
    rw [r5]
    unfold gapG
    rw [if_neg hno]
    cases i <;> rfl
  · have ho : occ r f i := Classical.not_not.1 heq
    obtain ⟨d, e1, d1, d2, d3, d4⟩ := nextD_spec hr ho
    refine l101_2 hJ (fun k : Nat => d + 1 - k) (fun k F H'' => H'' = H' ∧ 1 ≤ k ∧ k ≤ d ∧ F.ds = [] ∧ F.r 0 = rv ∧ F.r 1 = vint f ∧ F.r 5 = vint (gapG r f i) ∧ F.r 6 = vint (r.length : Nat) ∧ F.r 7 = vint (i : Nat) ∧ F.r 8 = vint (k : Nat)) ?_ (s := 1)
      (.inl ⟨rfl, by omega, by omega, ds, r0, r1, r5, r6, r7, rfl⟩)
    clear ds r0 r1 r5 r6 r7 okc hnc
    rintro k F H'' ⟨rfl, hk1, hk2, ds, r0, r1, r5, r6, r7, r8⟩ okc hnc
    rw [s101_2, r0, r1, r5, r6, r7, r8]
    refine addI (by omega) ?_
    rw [show ((i : Int) + (k : Int)) = ((i + k : Nat) : Int) by omega]
    refine remI (by omega) hp (sli_num' hs (turn (i + k)) fun q => neqI (cndI (fun hne => ?_) fun heq => ?_))
    · have hkd : k ≠ d := fun e => hne (e ▸ d3)
      exact addI (by omega) ⟨k + 1, by dsimp only; omega, .inl ⟨rfl, by omega, by omega, ds, r0, r1, r5, r6, r7, by show vint _ = vint _; congr 1⟩⟩
    · have hoc : occ r f (i + k) := Classical.not_not.1 heq
      have hkd : k = d := by
        rcases Nat.lt_or_ge k d with y | y
        · exact absurd hoc (d4 k hk1 y)
        · omega
      have hg : gapG r f (i + 1) = max (gapG r f i) (k : Int) := by
        conv => lhs; unfold gapG
        rw [if_pos ho, e1, hkd]
      refine maxI (addI (by omega) ⟨i + 1, by dsimp only; omega, .inl ⟨rfl, by omega, ds, r0, r1, ?_, r6, by show vint _ = vint _; congr 1⟩⟩)
      rw [hg]
      rfl
theorem good102 (hJ : Closed prog main J) {v fv rv : Value} {t : Tro} {r : List Int} (ht : TroAt H v t fv) (hr : Sli H rv 1 r.length (r.map vint)) (hne : r ≠ []) (hl : r.length ≤ 100) (hfl : t.flocks.length ≤ 100)
    (hK : ∀ H' w o, SameX [] H H' → OwnX H' 1 ((unfL t r).map vint) (unfL t r).length w o → K w H') : Good prog J 102 [v, rv] H K := by
  refine g102 hJ fun ok => ?_
  rw [e102, ht.val]
  have kf := (sli_val ht.fl).2.2
  refine qBox (tro_one ht) fun H1 p1 e1 S1 c1 l1 => ?_
  refine l102_1 hJ (fun i : Nat => t.flocks.length - i) (fun i F H' => SameX [] H1 H' ∧ i ≤ t.flocks.length ∧ (∃ o, OwnX H' 1 ((unfTo t r i).map vint) (unfTo t r i).length (F.r 5) o ∧ ∀ j, o = some j → H1.length ≤ j) ∧ F.ds = [] ∧ F.r 1 = rv ∧ F.r 2 = ptr p1 0 ∧ F.r 6 = vint (i : Nat)) ?_ (s := 0)
    (.inl ⟨SameX.refl, by omega, ⟨none, ⟨rfl, rfl, .inl ⟨rfl, rfl, rfl⟩⟩, by simp⟩, rfl, rfl, rfl, rfl⟩)
  rintro i F H' ⟨S, hi, ⟨o, O, hb⟩, ds, r1, r2, r6⟩ okc hnc
  generalize hv : F.r 5 = wv at O
  rw [s102_1, r1, r2, hv, r6, ds]
  have T := S1.trans S
  have c' := S.get c1 (by simp)
  have st : SliE H' fv 2 Dro.cells t.flocks := T.sli ht.fl (by simp)
  refine offI (ldI (v := fv) c' rfl kf (lenI st (lssI (cndI (fun hlt => ?_) fun hge => ?_))))
  rotate_left
  · have : i = t.flocks.length := by omega
    subst this
    exact retL_same (by simpa using own_nunkV O) (hK H' wv o T O)
  have hil : i < t.flocks.length := by omega
  have hg := gapR_bd hne (i : Int)
  have hul := unfTo_len (t := t) (r := r) i
  -- the next flock
  have next : ∀ {F2 : RG} {b : Bool}, F2.ds = [] → F2.r 1 = rv → F2.r 2 = ptr p1 0 → F2.r 5 = wv → F2.r 6 = vint (i : Nat) → F2.r 29 = .bool b → b = decide (gapR r i = 0 ∨ gapR r i > (droAt t i).every) →
      W prog J 35 H.length 102 (subC [1, 1, 0, 1, 0, 0, 1, 0, 0, 1, 1] (codeOf f102)) F2 H' (contX pl102 prog J 35 H.length 102 ct102 [1, 1, 0, 1, 0, 0, 1, 0, 0, 1, 1] (codeOf f102) [Nx H.length (fun i : Nat => t.flocks.length - i) (fun i F H' => SameX [] H1 H' ∧ i ≤ t.flocks.length ∧ (∃ o, OwnX H' 1 ((unfTo t r i).map vint) (unfTo t r i).length (F.r 5) o ∧ ∀ j, o = some j → H1.length ≤ j) ∧ F.ds = [] ∧ F.r 1 = rv ∧ F.r 2 = ptr p1 0 ∧ F.r 6 = vint (i : Nat)) i] (RetQ prog [.tmp 4] H.length K)) := by
    intro F2 b q0 q1 q2 q5 q6 q29 hbb
    rw [s102_2, q29, q5, q6]
    cases b with
    | true =>
      have hc := of_decide_eq_true hbb.symm
      refine cnd_true.2 ⟨by decide, fill_one (l := [vint i]) rfl rfl rfl (by decide) (fillI (qNew fun H7 p7 e7 S7 c7 l7 => ⟨by decide, ?_⟩))⟩
      have c7 : H7[p7]? = some (.cells [vint i] true 0) := c7
      refine ownX_more (ownX_keep O S7 (by simp)) (by omega) (by omega) (ownX_sli (ownX_new (s := 1) (n := 1) c7 rfl rfl)) fun v8 H8 p8 e8 O8 S8 => addI (by omega) ⟨i + 1, by dsimp only; omega, .inl ⟨(S.trans S7).thru S8 (fun y hy => .inr (hb y (Option.mem_toList.1 hy))), by omega, ⟨some p8, ?_, fun j hj => ?_⟩, q0, q1, q2, by show vint _ = vint _; congr 1⟩⟩
      · rw [unfTo_succ, if_pos hc, List.map_append, List.length_append]
        exact O8
      · cases hj
        have := S.1
        have := S7.1
        omega
    | false =>
      have hc := of_decide_eq_false hbb.symm
      refine cnd_false.2 (addI (by omega) ⟨i + 1, by dsimp only; omega, .inl ⟨S, by omega, ⟨o, ?_, hb⟩, q0, q1, q2, by show vint _ = vint _; congr 1⟩⟩)
      rw [unfTo_succ, if_neg hc]
      show OwnX H' 1 _ _ (F2.r 5) o
      rw [q5]
      exact O
  refine good101 hJ (T.sli hr (by simp)) hne hl (eqlI (cndI (fun h0 => ?_) fun h0 => ?_))
  · exact hold.2 (next ds r1 r2 hv r6 rfl (decide_eq_true (.inl h0)).symm)
  · obtain ⟨b, of, cells, wr, sz, hidx, hbk, hol', hft, hkn⟩ := sliE_elem dro_len (by omega) st hil
    have hd : droAt t i = t.flocks[i] := droAt_mem hil
    have hx : cells[of + 1]? = some (vint t.flocks[i].every) := part_get hft rfl
    refine offI (ldI (v := fv) c' rfl kf (hidx _ (offI (ldI (v := vint t.flocks[i].every) hbk hx rfl (gtrI (hold.2 ?_))))))
    refine next ds r1 r2 hv r6 rfl (decide_eq_decide.2 ?_)
    rw [hd]
    exact ⟨fun e => .inr e, fun e => e.resolve_left h0⟩
theorem good103 (hJ : Closed prog main J) {v fv rv : Value} {t : Tro} {r : List Int} (ht : TroAt H v t fv) (hr : Sli H rv 1 r.length (r.map vint)) (f : TroFine t) (g : RotaFine t r)
    (hK : ∀ H', SameX [] H H' → K (vint (lastsR t r)) H') : Good prog J 103 [v, rv] H K := by
  refine g103 hJ fun ok => ?_
  rw [e103, ht.val]
  have fh := f.holds
  have gl := g.len
  have hne : r ≠ [] := by intro e; rw [e] at gl; simp at gl
  refine qBox (tro_one ht) fun H1 p1 e1 S1 c1 l1 => load_part (c := troCells t fv) c1 (by simp [troCells]) rfl (tro_kn ht) ?_
  have t1 : TroAt H1 (.agg ⟨troCells t fv⟩) t fv := ⟨rfl, S1.sli ht.fl (by simp)⟩
  refine offI (offI (ldI (v := vint t.well.holds) c1 rfl rfl (addI (by omega) (lenI (S1.sli hr (by simp)) ?_))))
  have hn : (((t.well.holds + 3).toNat * r.length : Nat) : Int) = (t.well.holds + 3) * (r.length : Int) := by
    rw [Int.natCast_mul]
    congr 1
    omega
  have hn2 : (t.well.holds + 3).toNat * r.length ≤ 43 * 5 := Nat.mul_le_mul (by omega) (by omega)
  have hbm := bound_more f (r := r) hn
  refine mulI (by omega) ?_
  rw [← hn]
  refine good92 hJ t1 (S1.sli hr (by simp)) f g (by omega) fun H2 lv dv S2 L2 D2 => ext0 (ext1 (lenI D2 (gtrI (cndI (fun hgt => ?_) fun hle => ?_))))
  · rcases dry_head f hne hbm with ⟨h1, _⟩ | ⟨h1, h2⟩
    · rw [h1] at hgt
      exact absurd hgt (by simp)
    · exact sli_num' (i := 0) D2 h2 fun q => retL_same (by simp [unk]) (hK H2 (S1.trans S2))
  · rcases dry_head f hne hbm with ⟨_, h1⟩ | ⟨h1, h2⟩
    · have := hK H2 (S1.trans S2)
      rw [h1] at this
      exact retL_same (by simp [unk]) this
    · have := (List.getElem?_eq_some_iff.1 h2).1
      omega
theorem good104 (hJ : Closed prog main J) {v fv rv : Value} {t : Tro} {r : List Int} (ht : TroAt H v t fv) (hr : Sli H rv 1 r.length (r.map vint)) (f : TroFine t) (g : RotaFine t r)
    (hK : ∀ H', SameX [] H H' → K (.bool (goodB t r)) H') : Good prog J 104 [v, rv] H K := by
  refine g104 hJ fun ok => ?_
  rw [e104, ht.val]
  have gl := g.len
  have fl := f.len
  have hne : r ≠ [] := by intro e; rw [e] at gl; simp at gl
  refine qBox (tro_one ht) fun H1 p1 e1 S1 c1 l1 => load_part (c := troCells t fv) c1 (by simp [troCells]) rfl (tro_kn ht) ?_
  have t1 : TroAt H1 (.agg ⟨troCells t fv⟩) t fv := ⟨rfl, S1.sli ht.fl (by simp)⟩
  refine good102 hJ t1 (S1.sli hr (by simp)) hne (by omega) (by omega) fun H2 w o S2 O2 => lenI (ownX_sli O2) (eqlI (cndI (fun h0 => ?_) fun h0 => ?_))
  · refine load_part (c := troCells t fv) (S2.get c1 (by simp)) (by simp [troCells]) rfl (tro_kn ht) ?_
    refine good103 hJ (troAt_same t1 S2 (by simp)) ((S1.trans S2).sli hr (by simp)) f g fun H3 S3 => lssI (retL_same (by simp [unk]) ?_)
    have := hK H3 ((S1.trans S2).trans S3)
    rw [goodB_eq, decide_eq_true h0] at this
    exact this
  · have := hK H2 (S1.trans S2)
    rw [goodB_eq, decide_eq_false h0] at this
    exact retL_same (by simp [unk]) this
end
section
variable {main : Bool} {J : JT} {h H : List AObj} {K : Value → List AObj → Prop} {KV : Value → Prop} {HL : List AObj → Prop} {n0 : Nat}
theorem good123 (hJ : Closed prog main J) {F : Nat} (hF : F ≤ 3) : ∀ (n : Nat) {H : List AObj} {K : Value → List AObj → Prop}, n ≤ 5 →
    (∀ H' v o, SameX [] H H' → OwnL H.length H' v (rotasR (F + 1) n) o → v ≠ unk → K v H') → Good prog J 123 [vint (F : Nat), vint (n : Nat)] H K
  | 0, H, K, _, hK => by
    refine g123 hJ fun ok => ?_
    rw [e123]
    refine eqlI (cndI (fun _ => ?_) fun hx => absurd rfl hx)
    refine ⟨by decide, fill_one (l := [.slice none 0 0]) rfl rfl rfl (by decide) (fillI (qNew fun H1 p1 e1 S1 c1 l1 => retL_same (by simp [unk]) ?_))⟩
    have L : OwnL H.length H1 (.slice (some ⟨p1, 0, none⟩) 1 1) (rotasR (F + 1) 0) (some p1) := one_nil (lo := H.length) (p := p1) c1 (by omega)
    exact hK H1 _ _ S1 L L.nunk
  | n + 1, H, K, hn, hK => by
    refine g123 hJ fun ok => ?_
    rw [e123]
    refine eqlI (cndI (fun hx => absurd hx (by omega)) fun _ => subI (by omega) ?_)
    rw [show (((n + 1 : Nat) : Int) - 1) = ((n : Nat) : Int) by omega]
    have hbd := rotas_bd (F := F + 1) (n := n) (by omega) (by omega)
    have hlen := rotasR_len (F + 1) n
    refine good123 hJ hF n (by omega) fun H1 av ao S1 A1 _ => ?_
    refine l123_1 hJ (fun i : Nat => F + 1 - i) (fun i Fr H' => ∃ v o, SameX [] H1 H' ∧ i ≤ F + 1 ∧ OwnL H1.length H' v (partG (fun j => (j : Int) - 1) (fun _ => rotasR (F + 1) n) i 0) o ∧ Fr.ds = [] ∧ Fr.r 0 = vint (F : Nat) ∧ Fr.r 5 = v ∧ Fr.r 6 = av ∧ Fr.r 7 = vint ((i : Int) - 1)) ?_ (s := 0)
      (.inl ⟨.slice none 0 0, none, SameX.refl, by omega, by rw [partG_zero]; exact OwnL.nil, rfl, rfl, rfl, rfl, rfl⟩)
    rintro i Fr Hc ⟨v, o, Sc, hi, Lc, ds, r0, r5, r6, r7⟩ okc hnc
    rw [s123_1, r0, r5, r7, ds]
    refine lssI (cndI (fun hlt => ?_) fun hge => ?_)
    rotate_left
    · have : i = F + 1 := by omega
      subst this
      rw [rotas_end] at Lc
      exact retL_same (by simpa using Lc.nunk) (hK Hc v o (S1.trans Sc) (Lc.lo S1.1) Lc.nunk)
    have hiF : i < F + 1 := by omega
    refine l123_2 hJ (fun k : Nat => (rotasR (F + 1) n).length - k) (fun k Fr H' => ∃ v o, SameX [] H1 H' ∧ k ≤ (rotasR (F + 1) n).length ∧ OwnL H1.length H' v (partG (fun j => (j : Int) - 1) (fun _ => rotasR (F + 1) n) i k) o ∧ Fr.ds = [] ∧ Fr.r 0 = vint (F : Nat) ∧ Fr.r 5 = v ∧ Fr.r 6 = av ∧ Fr.r 7 = vint ((i : Int) - 1) ∧ Fr.r 8 = vint (k : Nat)) ?_ (s := 0)
      (.inl ⟨v, o, Sc, by omega, Lc, ds, r0, r5, r6, r7, rfl⟩)
    clear ds r0 r5 r6 r7 okc hnc
    rintro k Fr Hd ⟨v, o, Sd, hk, Ld, ds, r0, r5, r6, r7, r8⟩ okd hnd
    have Ad := A1.keep Sd
    obtain ⟨ac, sA⟩ := Ad.sli
    rw [s123_2, r5, r6, r7, r8]
    refine lenI sA (lssI (cndI (fun hlt3 => ?_) fun hge3 => ?_))
    rotate_left
    · have hke : k = (rotasR (F + 1) n).length := by omega
      subst hke
      refine addI (by omega) ⟨i + 1, by dsimp only; omega, .inl ⟨v, o, Sd, by omega, ?_, ds, r0, r5, r6, ?_⟩⟩
      · have e := partG_all (hd := fun j => (j : Int) - 1) (g := fun _ => rotasR (F + 1) n) (i := i)
        rw [← e]
        exact Ld
      · show vint _ = vint _
        congr 1
        omega
    have hkl : k < (rotasR (F + 1) n).length := by omega
    obtain ⟨w, hw⟩ : ∃ w, (rotasR (F + 1) n)[k]? = some w := ⟨_, List.getElem?_eq_getElem hkl⟩
    have hwl := (rotas_of (List.mem_of_getElem? hw)).1
    have hSd := Sd.1
    have hld := Ld.lt
    refine ⟨by decide, fill_one (l := [vint ((i : Int) - 1)]) rfl rfl rfl (by decide) (fillI (qNew fun He pe ee Se ce le => ?_))⟩
    have ce : He[pe]? = some (.cells [vint ((i : Int) - 1)] true 0) := ce
    refine (Ad.keep Se).get hw fun q wv bw Ow _ => ⟨by decide, app_cons ce (ownX_sli Ow) (by omega) fun Hf wv2 bf Sf Of hbf => ?_⟩
    have hSe := Se.1
    have Tf : SameX [] Hd Hf := Se.thru Sf (by simp; omega)
    have hbfl := ownX_lt Of bf rfl
    obtain ⟨w1, w2, w3⟩ := ownX_val Of
    refine ⟨by decide, fill_one (l := [wv2]) (by rw [w1]) rfl (by simp [w2]) (by decide) (fillI (qNew fun Hg pg eg Sg cg lg => ⟨by decide, ?_⟩))⟩
    have cg : Hg[pg]? = some (.cells [wv2] true 0) := cg
    have Tg := Tf.trans Sg
    have hpl := partG_le (hd := fun j => (j : Int) - 1) (g := fun _ => rotasR (F + 1) n) (i := i) (k := k) (B := 1024) (fun _ => by omega)
    refine ((Ld.keep Tg).more (by have := Tg.1; omega) (by omega) (ownX_keep Of Sg (by simp)) (by omega) (fun e => by have := hld bf e.symm; omega) (ownX_sli (ownX_new (s := 1) (n := 1) (l := [wv2]) cg rfl (by simp [kn]; exact w3))) fun v' Hh o' Sh Lh ho' _ => ?_)
    refine addI (by omega) ⟨k + 1, by dsimp only; omega, .inl ⟨v', some o', (Sd.trans Tg).thru Sh (fun y hy => .inr (hld y (Option.mem_toList.1 hy)).1), by omega, ?_, ds, r0, rfl, r6, r7, by show vint _ = vint _; congr 1⟩⟩
    have e := partG_succ (hd := fun j => (j : Int) - 1) (g := fun _ => rotasR (F + 1) n) (i := i) (k := k) hw
    rw [e]
    exact Lh
theorem good96 (hJ : Closed prog main J) {v fv : Value} {t : Tro} (ht : TroAt H v t fv) (f : TroFine t)
    (hK : ∀ H' w, SameX [] H H' → Found H.length H' w (rotF t) → K (.tuple ⟨[w, .bool (!(rotF t).isNone)]⟩) H') : Good prog J 96 [v] H K := by
  refine g96 hJ fun ok => ?_
  rw [e96, ht.val]
  have kf := (sli_val ht.fl).2.2
  have fl := f.len
  refine qBox (tro_one ht) fun H1 p1 e1 S1 c1 l1 => ?_
  have t1 : TroAt H1 (.agg ⟨troCells t fv⟩) t fv := ⟨rfl, S1.sli ht.fl (by simp)⟩
  refine l96_1 hJ (fun m : Nat => 5 - m) (fun m F H' => SameX [] H1 H' ∧ m ≤ 5 ∧ (∀ j, j < m → growR t (j + 1) [] = none) ∧ F.ds = [] ∧ F.r 1 = ptr p1 0 ∧ F.r 4 = vint ((m + 1 : Nat) : Int)) ?_ (s := 0)
    (.inl ⟨SameX.refl, by omega, fun j hj => absurd hj (Nat.not_lt_zero _), rfl, rfl, rfl⟩)
  rintro m F H' ⟨S, hm, hno, ds, r1, r4⟩ okc hnc
  have c' := S.get c1 (by simp)
  have t' := troAt_same t1 S (by simp)
  rw [s96_1, r1, r4, ds]
  refine leqI (cndI (fun hle => ?_) fun hgt => ?_)
  rotate_left
  · have hO : rotF t = none := firstN_none fun i hi => hno i (by omega)
    refine retL_same (nuA (by simp [unk]) (by simp [unk])) ?_
    have := hK H' (.slice none 0 0) (S1.trans S) (by rw [hO]; rfl)
    rw [hO] at this
    exact this
  refine offI (ldI (v := fv) c' rfl kf (lenI t'.fl ?_))
  refine good123 hJ (F := t.flocks.length) (by omega) (m + 1) (by omega) fun H2 av o S2 L _ => ?_
  have hlen := rotasR_len (t.flocks.length + 1) (m + 1)
  have hbd := rotas_bd (F := t.flocks.length + 1) (n := m + 1) (by omega) (by omega)
  refine l96_2 hJ (fun i : Nat => (rotasR (t.flocks.length + 1) (m + 1)).length - i) (fun i F H' => SameX [] H2 H' ∧ i ≤ (rotasR (t.flocks.length + 1) (m + 1)).length ∧ (∀ j u, j < i → (rotasR (t.flocks.length + 1) (m + 1))[j]? = some u → goodB t u = false) ∧ F.ds = [] ∧ F.r 1 = ptr p1 0 ∧ F.r 4 = vint ((m + 1 : Nat) : Int) ∧ F.r 5 = av ∧ F.r 6 = vint (i : Nat)) ?_ (s := 0)
    (.inl ⟨SameX.refl, by omega, fun j u hj => absurd hj (Nat.not_lt_zero _), ds, r1, r4, rfl, rfl⟩)
  clear ds r1 r4 okc hnc
  rintro i F H3 ⟨S3, hi, hni, ds, r1, r4, r5, r6⟩ okc hnc
  have L' := L.keep S3
  obtain ⟨lc, sL⟩ := L'.sli
  rw [s96_2, r1, r4, r5, r6, ds]
  refine lenI sL (lssI (cndI (fun hlt => ?_) fun hge => ?_))
  rotate_left
  · refine addI (by omega) ⟨m + 1, by dsimp only; omega, .inl ⟨(S.trans S2).trans S3, by omega, fun j hj => ?_, ds, r1, by show vint _ = vint _; congr 1⟩⟩
    by_cases e : j = m
    · rw [e]
      exact rotas_no fun k u hu => hni k u (by have := (List.getElem?_eq_some_iff.1 hu).1; omega) hu
    · exact hno j (by omega)
  have hil : i < (rotasR (t.flocks.length + 1) (m + 1)).length := by omega
  obtain ⟨w, hw⟩ : ∃ w, (rotasR (t.flocks.length + 1) (m + 1))[i]? = some w := ⟨_, List.getElem?_eq_getElem hil⟩
  obtain ⟨hwl, hwb⟩ := rotas_of (List.mem_of_getElem? hw)
  have T3 : SameX [] H' H3 := S2.trans S3
  have t3 := troAt_same t' T3 (by simp)
  have g : RotaFine t w := ⟨by omega, fun x hx => by have := hwb x hx; omega⟩
  refine load_part (c := troCells t fv) (T3.get c' (by simp)) (by simp [troCells]) rfl (tro_kn t3) (L'.get hw fun q wv bw Ow _ => ?_)
  refine good104 hJ t3 (ownX_sli Ow) f g fun H4 S4 => ?_
  have T4 := (S1.trans S).trans (T3.trans S4)
  cases hg : goodB t w with
  | true =>
    have hO : rotF t = some w := firstN_some (k := m) (by omega) hno (rotas_at hw hg hni)
    refine cnd_true.2 ((L'.keep S4).get hw fun q2 wv2 bw2 Ow2 hb2 => retL_same (nuA (own_nunkV Ow2) (by simp [unk])) ?_)
    have hbs : ∃ b, bw2 = some b := by
      obtain ⟨_, _, ⟨h0, _, _⟩ | ⟨b, _, _, e, _⟩⟩ := id Ow2
      · rw [hwl] at h0
        omega
      · exact ⟨b, e⟩
    obtain ⟨b, rfl⟩ := hbs
    have := hK H4 wv2 T4 (by
      rw [hO]
      have := hb2 b rfl
      have h1 := S1.1
      have h2 := S.1
      exact ⟨b, Ow2, by omega⟩)
    rw [hO] at this
    exact this
  | false =>
    refine cnd_false.2 (addI (by omega) ⟨i + 1, by dsimp only; omega, .inl ⟨S3.trans S4, by omega, fun j u hj hju => ?_, ds, r1, r4, r5, by show vint _ = vint _; congr 1⟩⟩)
    by_cases e : j = i
    · rw [e, hw] at hju
      injection hju with hju
      rw [← hju]
      exact hg
    · exact hni j u (by omega) hju
theorem good54 (hJ : Closed prog main J) {v fv : Value} {t : Tro} (ht : TroAt H v t fv) (hl : t.flocks.length ≤ 1000000) (hK : ∀ H' w, SameX [] H H' → Found H.length H' w (rotaA t) → K (.tuple ⟨[w, vint (rotaX t)]⟩) H') : Good prog J 54 [v] H K := by
  refine g54 hJ fun ok => ?_
  rw [e54, ht.val]
  refine qBox (tro_one ht) fun H1 p1 e1 S1 c1 l1 => ?_
  have t1 : TroAt H1 (.agg ⟨troCells t fv⟩) t fv := ⟨rfl, S1.sli ht.fl (by simp)⟩
  refine load_part (c := troCells t fv) c1 (by simp [troCells]) rfl (tro_kn ht) (good49 hJ t1 hl fun H2 S2 => neqI (cndI (fun g1 => ?_) fun g1 => ?_))
  · refine retL_same (nuA (by simp [unk]) (by simp [unk])) ?_
    have := hK H2 (.slice none 0 0) (S1.trans S2) (by unfold rotaA; rw [if_neg g1]; rfl)
    unfold rotaX at this
    rw [if_pos g1] at this
    exact this
  · have hz : troE t = 0 := Decidable.not_not.1 g1
    refine load_part (c := troCells t fv) (S2.get c1 (by simp)) (by simp [troCells]) rfl (tro_kn ht) (good96 hJ (troAt_same t1 S2 (by simp)) (troE_fine hz) fun H3 w S3 F3 => ext0 (ext1 (notI ?_)))
    have h1 := S1.1
    have h2 := S2.1
    have F4 : Found H.length H3 w (rotaA t) := by
      unfold rotaA
      rw [if_pos hz]
      exact F3.to (by omega) (X := []) SameX.refl (by simp)
    have fin := hK H3 w ((S1.trans S2).trans S3) F4
    unfold rotaX at fin
    rw [if_neg (by omega)] at fin
    cases e : rotF t with
    | none =>
      rw [e] at fin F3
      have hw : w = .slice none 0 0 := F3
      subst hw
      exact cnd_true.2 (retL_same (nuA (by simp [unk]) (by simp [unk])) fin)
    | some r =>
      rw [e] at fin
      exact cnd_false.2 (retL_same (nuA F3.unk (by simp [unk])) fin)
end
def ofL (r : List Int) : List Int := r ++ List.replicate (5 - r.length) (-2)
def swL (r : List Int) (i k : Nat) : List Int := (r.set i (r.getD k 0)).set k (r.getD i 0)
def canSw (t : Tro) (r : List Int) (i k : Nat) : Bool := decide (r.getD i 0 ≠ r.getD k 0) && goodB t (swL r i k)
def pairL (i k : Nat) : List Int := [(i : Int), (k : Int)]
def tradRow (t : Tro) (r : List Int) (i : Nat) : Nat → List (List Int)
  | 0 => []
  | k + 1 => tradRow t r i k ++ (if i < k ∧ canSw t r i k = true then [pairL i k] else [])
def tradTo (t : Tro) (r : List Int) : Nat → List (List Int)
  | 0 => []
  | i + 1 => tradTo t r i ++ tradRow t r i r.length
def partT (t : Tro) (r : List Int) (i k : Nat) : List (List Int) := tradTo t r i ++ tradRow t r i k
def tradE (t : Tro) (r : List Int) : Int := if rotaE t r ≠ 0 then rotaE t r else if goodB t r = true then 0 else 9
def tradA (t : Tro) (r : List Int) : List (List Int) := if tradE t r = 0 then tradTo t r r.length else []
section
variable {t : Tro} {r : List Int} {i k : Nat}
theorem ofL_len (h : r.length ≤ 5) : (ofL r).length = 5 := by simp [ofL]; omega
theorem swL_len : (swL r i k).length = r.length := by simp [swL]
theorem getD_mem (h : i < r.length) : r.getD i 0 ∈ r := by
  rw [List.getD_eq_getElem?_getD, List.getElem?_eq_getElem h]
  exact List.getElem_mem h
theorem set_mem {l : List Int} {j : Nat} {x n : Int} (h : n ∈ l.set j x) : n ∈ l ∨ n = x := List.mem_or_eq_of_mem_set h
theorem swL_fine (g : RotaFine t r) (hi : i < r.length) (hk : k < r.length) : RotaFine t (swL r i k) := by
  refine ⟨by rw [swL_len]; exact g.len, fun n hn => ?_⟩
  rcases set_mem hn with hn | rfl
  · rcases set_mem hn with hn | rfl
    · exact g.who n hn
    · exact g.who _ (getD_mem hk)
  · exact g.who _ (getD_mem hi)
theorem swL_of (hl : r.length ≤ 5) (hi : i < r.length) (hk : k < r.length) : ((ofL r).set i (r.getD k 0)).set k (r.getD i 0) = ofL (swL r i k) := by
  unfold ofL
  rw [swL_len, List.set_append_left _ _ hi, List.set_append_left _ _ (by simpa using hk)]
  rfl
theorem ofL_inj {a b : List Int} (h : a.length = b.length) (e : ofL a = ofL b) : a = b := (List.append_inj e h).1
theorem swL_get (hi : i < r.length) (hk : k < r.length) (j : Nat) : (swL r i k)[j]? = if j = k then some (r.getD i 0) else if j = i then some (r.getD k 0) else r[j]? := by
  unfold swL
  rw [List.getElem?_set]
  by_cases e : k = j
  · subst e
    simp [hk]
  · rw [if_neg e, if_neg (fun h => e h.symm), List.getElem?_set]
    by_cases e2 : i = j
    · subst e2
      simp [hi]
    · rw [if_neg e2, if_neg (fun h => e2 h.symm)]
theorem swL_same (hi : i < r.length) (hk : k < r.length) : swL r i k = r ↔ r.getD i 0 = r.getD k 0 := by
  have gi : r[i]? = some (r.getD i 0) := by rw [List.getD_eq_getElem?_getD, List.getElem?_eq_getElem hi]; rfl
  have gk : r[k]? = some (r.getD k 0) := by rw [List.getD_eq_getElem?_getD, List.getElem?_eq_getElem hk]; rfl
  constructor
  · intro e
    have := swL_get hi hk k
    rw [if_pos rfl, e, gk] at this
    injection this with this
    exact this.symm
  · intro e
    apply List.ext_getElem?
    intro j
    rw [swL_get hi hk j]
    by_cases e1 : j = k
    · rw [if_pos e1, e1, gk, e]
    · rw [if_neg e1]
      by_cases e2 : j = i
      · rw [if_pos e2, e2, gi, e]
      · rw [if_neg e2]
theorem tradRow_low (h : k ≤ i + 1) : tradRow t r i k = [] := by
  induction k with
  | zero => rfl
  | succ k ih =>
    unfold tradRow
    rw [ih (by omega), if_neg (by omega)]
    rfl
theorem partT_zero : partT t r i (i + 1) = tradTo t r i := by
  unfold partT
  rw [tradRow_low (Nat.le_refl _), List.append_nil]
theorem partT_yes (hik : i < k) (hc : canSw t r i k = true) : partT t r i (k + 1) = partT t r i k ++ [pairL i k] := by
  unfold partT
  conv => lhs; unfold tradRow
  rw [if_pos ⟨hik, hc⟩, List.append_assoc]
theorem partT_no (hc : canSw t r i k = false) : partT t r i (k + 1) = partT t r i k := by
  unfold partT
  conv => lhs; unfold tradRow
  rw [if_neg (by rw [hc]; simp), List.append_nil]
theorem tradRow_few : (tradRow t r i k).length ≤ k := by
  induction k with
  | zero => exact Nat.zero_le _
  | succ k ih =>
    unfold tradRow
    rw [List.length_append]
    split
    · simp; omega
    · simp; omega
theorem tradTo_few : (tradTo t r i).length ≤ i * r.length := by
  induction i with
  | zero => simp [tradTo]
  | succ i ih =>
    unfold tradTo
    rw [List.length_append, Nat.succ_mul]
    have := tradRow_few (t := t) (r := r) (i := i) (k := r.length)
    omega
theorem partT_few (g : RotaFine t r) (hi : i ≤ r.length) (hk : k ≤ r.length) : (partT t r i k).length ≤ 30 := by
  have h1 := tradTo_few (t := t) (r := r) (i := i)
  have h2 := tradRow_few (t := t) (r := r) (i := i) (k := k)
  have h3 := g.len.2
  have : i * r.length ≤ 5 * 5 := Nat.mul_le_mul (by omega) (by omega)
  unfold partT
  rw [List.length_append]
  omega
end
theorem teqA (a b c d e a' b' c' d' e' : Int) : teq prog 10000 119 (.agg ⟨[vint a, vint b, vint c, vint d, vint e]⟩) (.agg ⟨[vint a', vint b', vint c', vint d', vint e']⟩) =
    (match some (a == a') with
    | some true => (match some (b == b') with
      | some true => (match some (c == c') with
        | some true => (match some (d == d') with
          | some true => (match some (e == e') with
            | some true => some true
            | some false => some false
            | none => none)
          | some false => some false
          | none => none)
        | some false => some false
        | none => none)
      | some false => some false
      | none => none)
    | some false => some false
    | none => none) := by kernel_rfl
theorem teqA2 {a b : List Int} (ha : a.length = 5) (hb : b.length = 5) : teq prog 10000 119 (.agg ⟨a.map vint⟩) (.agg ⟨b.map vint⟩) = some (decide (a = b)) := by
  match a, ha with
  | [a0, a1, a2, a3, a4], _ =>
    match b, hb with
    | [b0, b1, b2, b3, b4], _ =>
      show teq prog 10000 119 (.agg ⟨[vint a0, vint a1, vint a2, vint a3, vint a4]⟩) (.agg ⟨[vint b0, vint b1, vint b2, vint b3, vint b4]⟩) = _
      rw [teqA]
      by_cases e0 : a0 = b0
      · rw [beq_iff_eq.2 e0]
        by_cases e1 : a1 = b1
        · rw [beq_iff_eq.2 e1]
          by_cases e2 : a2 = b2
          · rw [beq_iff_eq.2 e2]
            by_cases e3 : a3 = b3
            · rw [beq_iff_eq.2 e3]
              by_cases e4 : a4 = b4
              · rw [beq_iff_eq.2 e4]
                simp [e0, e1, e2, e3, e4]
              · rw [beq_eq_false_iff_ne.2 e4]
                simp [e4]
            · rw [beq_eq_false_iff_ne.2 e3]
              simp [e3]
          · rw [beq_eq_false_iff_ne.2 e2]
            simp [e2]
        · rw [beq_eq_false_iff_ne.2 e1]
          simp [e1]
      · rw [beq_eq_false_iff_ne.2 e0]
        simp [e0]
section
variable {main : Bool} {J : JT} {h H : List AObj} {K : Value → List AObj → Prop} {KV : Value → Prop} {HL : List AObj → Prop} {n0 : Nat}
theorem neqArr {a b : List Int} (ha : a.length = 5) (hb : b.length = 5) (hk : KV (.bool (decide (a ≠ b)))) : aBin prog .neq 119 (.agg ⟨a.map vint⟩) (.agg ⟨b.map vint⟩) KV := by
  show aEq prog true 119 _ _ KV
  unfold aEq
  rw [teqA2 ha hb]
  refine ⟨by kernel_rfl, ?_⟩
  simp only [cond_true, ← decide_not]
  exact hk
theorem idxA {s len b : Nat} {j : Nat} (h1 : j < len) (hk : KV (ptr b (j * s))) : aIdxA len s (ptr b 0) (vint (j : Nat)) KV :=
  ⟨⟨by omega, by omega⟩, by rw [Int.toNat_natCast, Nat.zero_add]; exact hk⟩
theorem slA {b n : Nat} (hn : n ≤ 5) (hk : KV (.slice (some ⟨b, 0, none⟩) n 5)) : aSlA 5 1 (ptr b 0) none (some (vint (n : Nat))) KV := by
  have e : bnd 5 (some (vint (n : Nat))) = some n := by
    show (bif decide (0 ≤ (n : Int)) then some (n : Int).toNat else none) = _
    rw [decide_eq_true (by omega)]
    rfl
  unfold aSlA
  simp only [e, ptr]
  exact ⟨⟨Nat.zero_le _, hn, by decide⟩, hk⟩
theorem slA0 {b : Nat} (hk : KV (.slice (some ⟨b, 0, none⟩) 5 5)) : aSlA 5 1 (ptr b 0) none none KV := ⟨⟨Nat.zero_le _, Nat.le_refl _, by decide⟩, hk⟩
theorem kn_vint (l : List Int) : kn (l.map vint) = true := by
  simp [kn, kn1]
theorem one_vint (l : List Int) : (l.map vint).all one = true := by simp [one]
theorem sli_arr {b n : Nat} {c : List Int} {wr : Bool} {sz : Nat} {l : List Int} (hb : H[b]? = some (.cells (c.map vint) wr sz)) (hl : c.take n = l) (hn : n ≤ c.length) : Sli H (.slice (some ⟨b, 0, none⟩) n 5) 1 n (l.map vint) := by
  subst hl
  refine ⟨some ⟨b, 0, none⟩, 5, rfl, ⟨by simp; omega, kn_vint _⟩, .inr ⟨b, 0, rfl, .inr ⟨_, wr, sz, hb, ?_⟩⟩⟩
  rw [List.drop_zero, Nat.mul_one, List.map_take]
theorem copyA {p : Nat} {c : List Value} {rv : Value} {xs : List Int} (hp : H[p]? = some (.cells c true 0)) (hc : c.length = 5) (hs : Sli H rv 1 xs.length (xs.map vint)) (hl : xs.length ≤ 5)
    (hk : ∀ v H', SameX [p] H H' → H'[p]? = some (.cells (wrAt c 0 (xs.map vint)) true 0) → H'.length = H.length → K v H') : aCopy 1 (.slice (some ⟨p, 0, none⟩) 5 5) rv H K := by
  obtain ⟨base, cc, rfl, ⟨hcl, hkn⟩, hh⟩ := id hs
  have em : min xs.length 5 = xs.length := by omega
  unfold aCopy
  simp only [em]
  refine src_sli hs (by omega) ?_
  simp only [hp]
  refine ⟨by omega, hk _ _ (SameX.refl.set (.inl (by simp))) (List.getElem?_set_self (lt_of_get hp)) (by simp)⟩
theorem wrAt_of : ∀ (xs : List Int) (c : List Value), xs.length ≤ c.length → wrAt c 0 (xs.map vint) = xs.map vint ++ c.drop xs.length := by
  have key : ∀ (xs : List Value) (c : List Value) (o : Nat), o + xs.length ≤ c.length → wrAt c o xs = c.take o ++ xs ++ c.drop (o + xs.length) := by
    intro xs
    induction xs with
    | nil => intro c o h; simp [wrAt]
    | cons x xs ih =>
      intro c o h
      simp only [List.length_cons] at h
      unfold wrAt
      rw [ih _ _ (by simp; omega)]
      have h1 : (c.set o x).take (o + 1) = c.take o ++ [x] := by
        rw [List.take_succ_eq_append_getElem (by simp; omega), List.take_set_of_le (Nat.le_refl _)]
        simp
      have h2 : (c.set o x).drop (o + 1 + xs.length) = c.drop (o + (x :: xs).length) := by
        rw [List.drop_set_of_lt (by omega), List.length_cons]
        congr 1
        omega
      rw [h1, h2]
      simp
  intro xs c h
  rw [key _ _ _ (by simpa using h)]
  simp
theorem good100 (hJ : Closed prog main J) {rv : Value} {r : List Int} (hs : Sli H rv 1 r.length (r.map vint)) (hl : r.length ≤ 5) (hK : ∀ H', SameX [] H H' → K (.agg ⟨(ofL r).map vint⟩) H') : Good prog J 100 [rv] H K := by
  refine g100 hJ fun ok => ?_
  rw [e100]
  refine qAl fun H1 p1 e1 S1 c1 l1 => qAl fun H2 p2 e2 S2 c2 l2 => ?_
  refine l100_1 hJ (fun i : Nat => 5 - i) (fun i F H' => i ≤ 5 ∧ SameX [] H H' ∧ H'[p1]? = some (.cells [vint 0, vint 0, vint 0, vint 0, vint 0] true 0) ∧ H'[p2]? = some (.cells ((List.replicate i (-2) ++ List.replicate (5 - i) 0).map vint) true 0) ∧ F.ds = [] ∧ F.r 0 = rv ∧ F.r 2 = ptr p1 0 ∧ F.r 3 = ptr p2 0 ∧ F.r 5 = vint (i : Nat)) ?_ (s := 0)
    (.inl ⟨by omega, S1.trans S2, S2.get c1 (by simp), c2, rfl, rfl, rfl, rfl, rfl⟩)
  rintro i F H' ⟨hi, S, d1, d2, ds, r0, r2, r3, r5⟩ okc hnc
  rw [s100_1, r0, r2, r3, r5]
  have hlt1 := lt_of_get d1
  have hlt2 := lt_of_get d2
  refine lssI (cndI (fun hlt => ?_) fun hge => ?_)
  · refine idxA (by omega) (qSt d2 (by simp; omega) rfl rfl fun H3 S3 c3 l3 => addI (by omega) ⟨i + 1, by dsimp only; omega, .inl ⟨by omega, S.thru S3 (by simp; omega), S3.get d1 (by simp; omega), ?_, ds, r0, r2, r3, by show vint _ = vint _; congr 1⟩⟩)
    rw [c3]
    congr 2
    have : i < 5 := by omega
    have hcase : i = 0 ∨ i = 1 ∨ i = 2 ∨ i = 3 ∨ i = 4 := by omega
    rcases hcase with rfl | rfl | rfl | rfl | rfl <;> rfl
  · have : i = 5 := by omega
    subst this
    refine slA0 ⟨by decide, copyA d2 rfl (S.sli hs (by simp)) hl fun v H3 S3 c3 l3 => ?_⟩
    have e3 : wrAt ((List.replicate 5 (-2 : Int) ++ List.replicate (5 - 5) 0).map vint) 0 (r.map vint) = (ofL r).map vint := by
      rw [wrAt_of _ _ (by simpa using hl)]
      unfold ofL
      conv => rhs; rw [List.map_append]
      congr 1
      have hcase : r.length = 0 ∨ r.length = 1 ∨ r.length = 2 ∨ r.length = 3 ∨ r.length = 4 ∨ r.length = 5 := by omega
      rcases hcase with e | e | e | e | e | e <;> rw [e] <;> rfl
    rw [e3] at c3
    have hol := ofL_len hl
    refine load_part (c := (ofL r).map vint) c3 (by simp [hol]) ?_ (kn_vint _) ?_
    · rw [List.drop_zero, List.take_of_length_le (by simp [hol])]
    · have d1' := S3.get d1 (by simp; omega)
      refine qStA d1' (by simp [hol]) rfl (one_vint _) fun H4 S4 c4 l4 => ?_
      refine retQ_same ds (resW_cell (gg := true) (s := 5) (by kernel_rfl) ?_)
      show aLoad true 5 (F.r 2) H4 _
      rw [r2]
      refine load_part (c := (ofL r).map vint) c4 (by simp [hol]) ?_ (kn_vint _) (resW_nil (hK H4 ?_))
      · rw [List.drop_zero, List.take_of_length_le (by simp [hol])]
      · have T : SameX [] H H3 := S.thru S3 (by simp; omega)
        exact T.thru S4 (by simp; omega)
end
end Go.Proofs.Ytindillghipjjaa
namespace Go.Proofs.Ytindillghipjjaa
open Go.Conc Go.Proofs.Try
set_option maxRecDepth 100000
set_option maxHeartbeats 4000000
set_option linter.unusedVariables false
section
variable {main : Bool} {J : JT} {n0 : Nat} {h : List AObj} {K : Value → List AObj → Prop}
theorem at3 : prog.funcs[3]? = some f3 := by kernel_rfl
theorem body3 : f3.body = some (codeOf f3) := by kernel_rfl
def pl3 : Plans := [(14, false, .take 0 (.take 1 (.take 2 (.take 3 (.take 5 (.take 6 (.take 7 (.take 8 (.alt 4 true (.alt 9 false (.last 10 true (.last 11 false (.take 12 (.fin)))) (.last 10 true (.last 9 false (.last 11 false (.take 12 (.fin)))))) (.last 10 true (.last 4 true (.last 9 false (.last 11 false (.take 12 (.fin))))))))))))))),
  (16, true, .take 0 (.take 1 (.take 2 (.take 3 (.take 4 (.take 5 (.take 6 (.take 7 (.last 8 false (.take 9 (.take 10 (.take 11 (.take 12 (.take 13 (.take 14 (.take 15 (.fin))))))))))))))))),
  (17, false, .take 0 (.take 1 (.take 2 (.take 3 (.take 4 (.take 5 (.take 6 (.take 7 (.take 8 (.take 9 (.take 10 (.last 11 true (.take 12 (.take 13 (.take 14 (.take 15 (.take 16 (.take 17 (.take 18 (.take 19 (.last 20 true (.take 21 (.take 22 (.take 23 (.take 24 (.take 25 (.take 26 (.take 27 (.take 28 (.last 29 true (.take 30 (.take 31 (.fin)))))))))))))))))))))))))))))))))]
def ct3 : Cuts := .bin (.go) (.bin (.go) (.bin (.go) (.bin (.go) (.bin (.go) (.bin (.go) (.bin (.go) (.bin (.bin (.go) (.un (.un (.bin (.go) (.bin (.un (.bin (.go) (.cut (.bin (.go) (.bin (.go) (.bin (.go) (.cut (.go)))))))) (.go)))))) (.go))))))))
theorem pok3 : plansOk prog pl3 (codeOf f3) = true := by kernel_rfl
theorem e3 {a0 a1 a2 : Value} : W prog J 124 h.length 3 (codeOf f3) (RG.mk (regs [a0, a1, a2]) []) h (RetQ prog [.tmp 6] h.length K) =
(aBox a0 h fun v1 h2 =>
aLoad true 4 v1 h2 fun v3 =>
Good prog J 18 [v3, a1] h2 fun v4 h5 =>
cnd v4
(Good prog J 19 [] h5 fun v6 h7 =>
retL h.length K [] [v6] h7)
(Good prog J 20 [a2] h5 fun v8 h9 =>
Good prog J 21 [v8, (vint 3), (vint 20)] h9 fun v10 h11 =>
aAlloc [(vint 0), (vint 0), (vint 0), (Value.slice none 0 0)] h11 fun v12 h13 =>
aStore 4 v12 v10 h13 fun h14 =>
Sem J 124 h.length 3 (subC [1, 1, 1, 1, 1, 0, 1, 0] (codeOf f3)) (RG.p (RG.p (RG.p (RG.p (RG.p (RG.p (RG.p (RG.p (RG.p (RG.p (RG.p (RG.p (RG.p (RG.mk (regs [a0, a1, a2]) []) 3 v1) 6 (Value.bool false)) 22 v3) 23 a1) 24 v4) 26 a2) 27 v8) 7 v8) 28 v8) 29 v10) 8 v12) 9 (Value.slice none 0 0)) 10 (vint 0)) h14 (contX pl3 prog J 124 h.length 3 ct3 [1, 1, 1, 1, 1, 0, 1, 0] (codeOf f3) [] (RetQ prog [.tmp 6] h.length K)))) := top_eq pok3 ct3 (by kernel_rfl)
theorem g3 (hJ : Closed prog main J) {a0 a1 a2 : Value} (hs : heapOk h → W prog J 124 h.length 3 (codeOf f3) (RG.mk (regs [a0, a1, a2]) []) h (RetQ prog [.tmp 6] h.length K)) : Good prog J 3 [a0, a1, a2] h K :=
  good_of_W hJ mixed at3 body3 (by kernel_rfl) (Nat.le_of_ble_eq_true rfl) hs
end
section
variable {main : Bool} {J : JT} {n0 : Nat} {h : List AObj} {K : Value → List AObj → Prop}
theorem at6 : prog.funcs[6]? = some f6 := by kernel_rfl
theorem body6 : f6.body = some (codeOf f6) := by kernel_rfl
def pl6 : Plans := [(14, true, .take 0 (.take 1 (.take 2 (.take 3 (.take 4 (.take 5 (.last 6 false (.take 7 (.fin))))))))),
  (15, true, .take 0 (.take 1 (.take 2 (.take 3 (.take 4 (.take 5 (.take 6 (.take 7 (.take 8 (.take 9 (.take 10 (.take 11 (.take 12 (.last 13 false (.take 14 (.take 15 (.take 16 (.fin)))))))))))))))))),
  (19, false, .take 0 (.take 1 (.take 2 (.take 3 (.take 4 (.take 5 (.take 6 (.take 7 (.last 8 true (.take 9 (.take 10 (.take 11 (.take 12 (.take 13 (.take 14 (.take 15 (.take 16 (.take 17 (.last 18 true (.take 19 (.take 20 (.take 21 (.last 22 true (.take 23 (.take 24 (.fin))))))))))))))))))))))))))]
def ct6 : Cuts := .bin (.go) (.bin (.go) (.bin (.go) (.bin (.go) (.bin (.go) (.bin (.go) (.bin (.go) (.bin (.go) (.bin (.bin (.go) (.un (.un (.bin (.go) (.bin (.un (.bin (.go) (.bin (.go) (.cut (.go))))) (.go)))))) (.go)))))))))
theorem pok6 : plansOk prog pl6 (codeOf f6) = true := by kernel_rfl
theorem e6 {a0 : Value} : W prog J 120 h.length 6 (codeOf f6) (RG.mk (regs [a0]) []) h (RetQ prog [.tmp 2] h.length K) =
(Good prog J 20 [a0] h fun v1 h2 =>
Good prog J 21 [v1, (vint 3), (vint 20)] h2 fun v3 h4 =>
aAlloc [(vint 0), (vint 0), (vint 0), (Value.slice none 0 0)] h4 fun v5 h6 =>
aStore 4 v5 v3 h6 fun h7 =>
Sem J 120 h.length 6 (subC [1, 1, 1, 1, 0, 1, 0] (codeOf f6)) (RG.p (RG.p (RG.p (RG.p (RG.p (RG.p (RG.p (RG.p (RG.p (RG.p (RG.mk (regs [a0]) []) 2 (Value.bool false)) 15 a0) 16 v1) 3 v1) 17 v1) 18 v3) 4 v5) 5 (Value.slice none 0 0)) 6 (Value.slice none 0 0)) 7 (vint 0)) h7 (contX pl6 prog J 120 h.length 6 ct6 [1, 1, 1, 1, 0, 1, 0] (codeOf f6) [] (RetQ prog [.tmp 2] h.length K))) := top_eq pok6 ct6 (by kernel_rfl)
theorem g6 (hJ : Closed prog main J) {a0 : Value} (hs : heapOk h → W prog J 120 h.length 6 (codeOf f6) (RG.mk (regs [a0]) []) h (RetQ prog [.tmp 2] h.length K)) : Good prog J 6 [a0] h K :=
  good_of_W hJ mixed at6 body6 (by kernel_rfl) (Nat.le_of_ble_eq_true rfl) hs
end
end Go.Proofs.Ytindillghipjjaa
namespace Go.Proofs.Ytindillghipjjaa
open Go.Conc Go.Proofs.Try
set_option maxRecDepth 100000
def Best (t : Tro) (cs : List Int) (H : List AObj) (i : Nat) (a b : Value) : Prop :=
  (pickTo (waits26 t cs) i < 0 ∧ a = .slice none 0 0 ∧ b = vint (-1)) ∨ ∃ (j : Nat) (os : List Nat), pickTo (waits26 t cs) i = j ∧ (allOf26 cs)[j]? = some os ∧ Sli H a 1 os.length (nvs os) ∧ a ≠ unk ∧ b = vint ((waits26 t cs).getD j 0)
theorem Best.same {t : Tro} {cs : List Int} {H H' : List AObj} {i : Nat} {a b : Value} (B : Best t cs H i a b) (S : SameX [] H H') : Best t cs H' i a b := by
  rcases B with h | ⟨j, os, h1, h2, h3, h4, h5⟩
  · exact .inl h
  · exact .inr ⟨j, os, h1, h2, S.sli h3 (by simp), h4, h5⟩
structure Sm (h H : List AObj) : Prop where
  len : h.length ≤ H.length
  get : ∀ (i : Nat) (x : AObj), h[i]? = some x → H[i]? = some x ∨ (∃ cap, x = .chan cap) ∧ H[i]? = some .dead
theorem Sm.refl {h : List AObj} : Sm h h := ⟨Nat.le_refl _, fun _ _ h => .inl h⟩
theorem Sm.of {h H : List AObj} (S : SameX [] h H) : Sm h H := ⟨S.1, fun i x hx => .inl (S.get hx (by simp))⟩
theorem Sm.unch {h H : List AObj} (S : SameX [] (unch h) H) : Sm h H := ⟨by have := S.1; rwa [unch_len] at this, fun i x hx => by
  have h1 : (Go.Proofs.Ytindillghipjjaa.unch h)[i]? = some (unchO x) := by
    unfold Go.Proofs.Ytindillghipjjaa.unch
    rw [List.getElem?_map, hx]
    rfl
  have h2 := S.get h1 (by simp)
  cases x with
  | chan cap => exact .inr ⟨⟨cap, rfl⟩, h2⟩
  | _ => exact .inl h2⟩
theorem Sm.trans {h H G : List AObj} (a : Sm h H) (b : Sm H G) : Sm h G := ⟨Nat.le_trans a.1 b.1, fun i x hx => by
  rcases a.2 i x hx with h1 | ⟨h1, h2⟩
  · exact b.2 i x h1
  · rcases b.2 i _ h2 with h3 | ⟨⟨cap, h3⟩, _⟩
    · exact .inr ⟨h1, h3⟩
    · cases h3⟩
theorem Sm.at {h H : List AObj} (a : Sm h H) {i : Nat} {c : List Value} {wr : Bool} {sz : Nat} (hx : h[i]? = some (.cells c wr sz)) : H[i]? = some (.cells c wr sz) := by
  rcases a.2 i _ hx with h1 | ⟨⟨cap, h1⟩, _⟩
  · exact h1
  · cases h1
theorem Sm.sli {h H : List AObj} (a : Sm h H) {v : Value} {s n : Nat} {cs : List Value} (hs : Sli h v s n cs) : Sli H v s n cs := by
  obtain ⟨base, c, rfl, hk, hh⟩ := hs
  refine ⟨base, c, rfl, hk, hh.imp id ?_⟩
  rintro ⟨b, o, e, h0⟩
  exact ⟨b, o, e, h0.imp id fun ⟨cs, wr, sz, hb, ht⟩ => ⟨cs, wr, sz, a.at hb, ht⟩⟩
end Go.Proofs.Ytindillghipjjaa
namespace Go.Proofs.Ytindillghipjjaa
open Go.Conc Go.Proofs.Try
set_option maxRecDepth 100000
set_option maxHeartbeats 4000000
set_option linter.unusedVariables false
section
variable {main : Bool} {J : JT} {n0 : Nat} {h : List AObj} {K : Value → List AObj → Prop}
theorem at29 : prog.funcs[29]? = some f29 := by kernel_rfl
theorem body29 : f29.body = some (codeOf f29) := by kernel_rfl
def pl29 : Plans := [(6, true, .take 0 (.take 1 (.take 2 (.take 3 (.take 4 (.take 5 (.take 6 (.take 7 (.take 8 (.take 9 (.take 10 (.fin))))))))))))]
def ct29 : Cuts := .bin (.go) (.bin (.bin (.go) (.cut (.go))) (.go))
theorem pok29 : plansOk prog pl29 (codeOf f29) = true := by kernel_rfl
theorem e29 {a0 a1 : Value} : W prog J 38 h.length 29 (codeOf f29) (RG.mk (regs [a0, a1]) []) h (RetQ prog [.tmp 4] h.length K) =
(aBox a0 h fun v1 h2 =>
aBox a1 h2 fun v3 h4 =>
aOff v1 0 fun v5 =>
aLoad true 3 v5 h4 fun v6 =>
aOff v3 0 fun v7 =>
aLoad true 3 v7 h4 fun v8 =>
aBin prog .neq 23 v6 v8 fun v9 =>
cnd v9
(Hold (W prog J 38 h.length 29 (subC [1, 0, 1] (codeOf f29)) (RG.p (RG.p (RG.p (RG.p (RG.p (RG.p (RG.p (RG.p (RG.p (RG.p (RG.p (RG.p (RG.p (RG.p (RG.p (RG.p (RG.p (RG.p (RG.mk (regs [a0, a1]) []) 2 v1) 3 v3) 4 (Value.bool false)) 6 v5) 7 v6) 8 v7) 9 v8) 10 v9) 11 v9) 11 (Value.bool true)) 12 undef) 13 undef) 14 undef) 15 undef) 16 undef) 17 undef) 18 undef) 19 (Value.bool true)) h4 (contX pl29 prog J 38 h.length 29 ct29 [1, 0, 1] (codeOf f29) [] (RetQ prog [.tmp 4] h.length K))))
(aOff v1 3 fun v10 =>
aLoad false 1 v10 h4 fun v11 =>
aLenS v11 fun v12 =>
aOff v3 3 fun v13 =>
aLoad false 1 v13 h4 fun v14 =>
aLenS v14 fun v15 =>
aBin prog .neq 3 v12 v15 fun v16 =>
Hold (W prog J 38 h.length 29 (subC [1, 0, 1] (codeOf f29)) (RG.p (RG.p (RG.p (RG.p (RG.p (RG.p (RG.p (RG.p (RG.p (RG.p (RG.p (RG.p (RG.p (RG.p (RG.p (RG.p (RG.p (RG.p (RG.mk (regs [a0, a1]) []) 2 v1) 3 v3) 4 (Value.bool false)) 6 v5) 7 v6) 8 v7) 9 v8) 10 v9) 11 v9) 11 (Value.bool false)) 12 v10) 13 v11) 14 v12) 15 v13) 16 v14) 17 v15) 18 v16) 19 v16) h4 (contX pl29 prog J 38 h.length 29 ct29 [1, 0, 1] (codeOf f29) [] (RetQ prog [.tmp 4] h.length K))))) := top_eq pok29 ct29 (by kernel_rfl)
theorem g29 (hJ : Closed prog main J) {a0 a1 : Value} (hs : heapOk h → W prog J 38 h.length 29 (codeOf f29) (RG.mk (regs [a0, a1]) []) h (RetQ prog [.tmp 4] h.length K)) : Good prog J 29 [a0, a1] h K :=
  good_of_W hJ mixed at29 body29 (by kernel_rfl) (Nat.le_of_ble_eq_true rfl) hs
theorem s29_1 {f : RG} : W prog J 38 n0 29 (subC [1, 0, 1] (codeOf f29)) f h (contX pl29 prog J 38 n0 29 ct29 [1, 0, 1] (codeOf f29) [] (RetQ prog [.tmp 4] n0 K)) =
(cnd (f.r 19)
(retL n0 K f.ds [(Value.bool false)] h)
(Sem J 38 n0 29 (subC [1, 1, 0, 1, 0] (codeOf f29)) (RG.p f 5 (vint 0)) h (contX pl29 prog J 38 n0 29 ct29 [1, 1, 0, 1, 0] (codeOf f29) [] (RetQ prog [.tmp 4] n0 K)))) := sub_eq pok29 ct29 (by kernel_rfl)
theorem s29_2 {f : RG} {nx0 : RG → List AObj → Prop} : W prog J 38 n0 29 (subC [1, 1, 0, 1, 0, 0] (codeOf f29)) f h (thenK nx0 (contX pl29 prog J 38 n0 29 ct29 [1, 1, 0, 1, 0] (codeOf f29) [] (RetQ prog [.tmp 4] n0 K))) =
(aOff (f.r 2) 3 fun v1 =>
aLoad false 1 v1 h fun v2 =>
aLenS v2 fun v3 =>
aBin prog .lss 3 (f.r 5) v3 fun v4 =>
cnd v4
(aOff (f.r 2) 3 fun v5 =>
aLoad false 1 v5 h fun v6 =>
aIdx 2 v6 (f.r 5) fun v7 =>
aLoad true 2 v7 h fun v8 =>
aOff (f.r 3) 3 fun v9 =>
aLoad false 1 v9 h fun v10 =>
aIdx 2 v10 (f.r 5) fun v11 =>
aLoad true 2 v11 h fun v12 =>
aBin prog .neq 74 v8 v12 fun v13 =>
cnd v13
(retL n0 K f.ds [(Value.bool false)] h)
(aBin prog .add 3 (f.r 5) (vint 1) fun v14 =>
nx0 (RG.p (RG.p (RG.p (RG.p (RG.p (RG.p (RG.p (RG.p (RG.p (RG.p (RG.p (RG.p (RG.p (RG.p (RG.p (RG.p (RG.p (RG.p (RG.p f 20 (f.r 5)) 21 v1) 22 v2) 23 v3) 24 v4) 27 v5) 28 v6) 29 (f.r 5)) 30 v7) 31 v8) 32 v9) 33 v10) 34 (f.r 5)) 35 v11) 36 v12) 37 v13) 25 (f.r 5)) 26 v14) 5 v14) h))
(retL n0 K f.ds [(Value.bool true)] h)) := sub_eq pok29 ct29 (by kernel_rfl)
theorem l29_2 (hJ : Closed prog main J) {S : Type} (μ : S → Nat) (I : S → RG → List AObj → Prop) (hI : ∀ s f h, I s f h → heapOk h → n0 ≤ h.length → W prog J 38 n0 29 (subC [1, 1, 0, 1, 0, 0] (codeOf f29)) f h (thenK (Nx n0 μ I s) (contX pl29 prog J 38 n0 29 ct29 [1, 1, 0, 1, 0] (codeOf f29) [] (RetQ prog [.tmp 4] n0 K))))
  {s : S} {f : RG} (hi : Gets n0 I s f h) : Sem J 38 n0 29 (subC [1, 1, 0, 1, 0] (codeOf f29)) f h (contX pl29 prog J 38 n0 29 ct29 [1, 1, 0, 1, 0] (codeOf f29) [] (RetQ prog [.tmp 4] n0 K)) :=
  loop_rule hJ mixed (b := subC [1, 1, 0, 1, 0, 0] (codeOf f29)) (by kernel_rfl) μ I hI hi
theorem at18 : prog.funcs[18]? = some f18 := by kernel_rfl
theorem body18 : f18.body = some (codeOf f18) := by kernel_rfl
def pl18 : Plans := []
def ct18 : Cuts := .go
theorem pok18 : plansOk prog pl18 (codeOf f18) = true := by kernel_rfl
theorem e18 {a0 a1 : Value} : W prog J 14 h.length 18 (codeOf f18) (RG.mk (regs [a0, a1]) []) h (RetQ prog [.tmp 4] h.length K) =
(aBox a0 h fun v1 h2 =>
aOff v1 3 fun v3 =>
aLoad false 1 v3 h2 fun v4 =>
aLenS v4 fun v5 =>
aBin prog .gtr 3 v5 (vint 20) fun v6 =>
cnd v6
(retL h.length K [] [(Value.bool true)] h2)
(aLenS a1 fun v7 =>
aBin prog .gtr 3 v7 (vint 20) fun v8 =>
retL h.length K [] [v8] h2)) := top_eq pok18 ct18 (by kernel_rfl)
theorem g18 (hJ : Closed prog main J) {a0 a1 : Value} (hs : heapOk h → W prog J 14 h.length 18 (codeOf f18) (RG.mk (regs [a0, a1]) []) h (RetQ prog [.tmp 4] h.length K)) : Good prog J 18 [a0, a1] h K :=
  good_of_W hJ mixed at18 body18 (by kernel_rfl) (Nat.le_of_ble_eq_true rfl) hs
end
end Go.Proofs.Ytindillghipjjaa
namespace Go.Proofs.Ytindillghipjjaa
open Go.Conc Go.Proofs.Try
set_option maxRecDepth 100000
theorem teqW (a b c d e f : Int) : teq prog 10000 23 (.agg ⟨[vint a, vint b, vint c]⟩) (.agg ⟨[vint d, vint e, vint f]⟩) =
    (match some (a == d) with
    | some true => (match some (b == e) with
      | some true => (match some (c == f) with
        | some true => some true
        | some false => some false
        | none => none)
      | some false => some false
      | none => none)
    | some false => some false
    | none => none) := by kernel_rfl
theorem teqW_same (w : Wel) : teq prog 10000 23 (.agg ⟨w.cells⟩) (.agg ⟨w.cells⟩) = some true := by
  unfold Wel.cells
  rw [teqW]
  simp
theorem teqD (a b c d : Int) : teq prog 10000 74 (.agg ⟨[vint a, vint b]⟩) (.agg ⟨[vint c, vint d]⟩) =
    (match some (a == c) with
    | some true => (match some (b == d) with
      | some true => some true
      | some false => some false
      | none => none)
    | some false => some false
    | none => none) := by kernel_rfl
theorem teqD_same (d : Dro) : teq prog 10000 74 (.agg ⟨d.cells⟩) (.agg ⟨d.cells⟩) = some true := by
  unfold Dro.cells
  rw [teqD]
  simp
section
variable {main : Bool} {J : JT} {h H : List AObj} {K : Value → List AObj → Prop} {KV : Value → Prop} {HL : List AObj → Prop} {n0 : Nat}
theorem neqSame {t : TypeId} {c : Array Value} (ht : teq prog 10000 t (.agg c) (.agg c) = some true) (hg : prog.eqGuardType prog.depth t = false) (hk : KV (.bool false)) : aBin prog .neq t (.agg c) (.agg c) KV := by
  show aEq prog true t (.agg c) (.agg c) KV
  unfold aEq
  rw [ht]
  exact ⟨hg, hk⟩
theorem good18 (hJ : Closed prog main J) {v fv rv : Value} {t : Tro} {r : List Int} (ht : TroAt H v t fv) (hr : Sli H rv 1 r.length (r.map vint)) (hK : ∀ H', SameX [] H H' → K (.bool (decide ((t.flocks.length : Int) > 20 ∨ (r.length : Int) > 20))) H') : Good prog J 18 [v, rv] H K := by
  refine g18 hJ fun ok => ?_
  rw [e18, ht.val]
  have kf := (sli_val ht.fl).2.2
  refine qBox (tro_one ht) fun H1 p1 e1 S1 c1 l1 => offI (ldI (v := fv) c1 rfl kf (lenI (S1.sli ht.fl (by simp)) (gtrI (cndI (fun h1 => ?_) fun h1 => lenI (S1.sli hr (by simp)) (gtrI ?_)))))
  · have := hK H1 S1
    rw [decide_eq_true (show (t.flocks.length : Int) > 20 ∨ (r.length : Int) > 20 from .inl h1)] at this
    exact retL_same (by simp [unk]) this
  · have := hK H1 S1
    rw [show decide ((t.flocks.length : Int) > 20 ∨ (r.length : Int) > 20) = decide ((r.length : Int) > 20) from decide_eq_decide.2 ⟨fun h => h.resolve_left h1, .inr⟩] at this
    exact retL_same (by simp [unk]) this
theorem good29 (hJ : Closed prog main J) {v w fv gv : Value} {t : Tro} (ht : TroAt H v t fv) (hw : TroAt H w t gv) (hl : t.flocks.length < 1000000) (hK : ∀ H', SameX [] H H' → K (.bool true) H') : Good prog J 29 [v, w] H K := by
  refine g29 hJ fun ok => ?_
  rw [e29, ht.val, hw.val]
  have kf := (sli_val ht.fl).2.2
  have kg := (sli_val hw.fl).2.2
  refine qBox (tro_one ht) fun H1 p1 e1 S1 c1 l1 => qBox (tro_one hw) fun H2 p2 e2 S2 c2 l2 => ?_
  have c12 := S2.get c1 (by simp)
  have T2 := S1.trans S2
  have st : SliE H2 fv 2 Dro.cells t.flocks := T2.sli ht.fl (by simp)
  have sw : SliE H2 gv 2 Dro.cells t.flocks := T2.sli hw.fl (by simp)
  refine offI (load_part (c := t.well.cells) c12 (by simp [troCells]) rfl rfl (offI (load_part (c := t.well.cells) c2 (by simp [troCells]) rfl rfl ?_)))
  refine neqSame (teqW_same t.well) (by kernel_rfl) (cnd_false.2 ?_)
  refine offI (ldI (v := fv) c12 rfl kf (lenI st (offI (ldI (v := gv) c2 rfl kg (lenI sw (neqI (hold.2 ?_)))))))
  rw [s29_1]
  have e : ∀ {A B : Prop}, B → cnd (Value.bool (decide ((t.flocks.length : Int) ≠ t.flocks.length))) A B := fun hB => cndI (fun hx => absurd rfl hx) fun _ => hB
  refine e ?_
  refine l29_2 hJ (fun i : Nat => t.flocks.length - i) (fun i F H' => H' = H2 ∧ i ≤ t.flocks.length ∧ F.ds = [] ∧ F.r 2 = ptr p1 0 ∧ F.r 3 = ptr p2 0 ∧ F.r 5 = vint (i : Nat)) ?_ (s := 0)
    (.inl ⟨rfl, by omega, rfl, rfl, rfl, rfl⟩)
  rintro i F H' ⟨rfl, hi, ds, r2, r3, r5⟩ okc hnc
  rw [s29_2, r2, r3, r5, ds]
  refine offI (ldI (v := fv) c12 rfl kf (lenI st (lssI (cndI (fun hlt => ?_) fun hge => retL_same (by simp [unk]) (hK H' T2)))))
  have hil : i < t.flocks.length := by omega
  obtain ⟨b, o, cs, wr, sz, hidx, hb, hol, hft, hkn⟩ := sliE_elem dro_len (by omega) st hil
  obtain ⟨b', o', cs', wr', sz', hidx', hb', hol', hft', hkn'⟩ := sliE_elem dro_len (by omega) sw hil
  refine offI (ldI (v := fv) c12 rfl kf (hidx _ (load_part hb hol hft hkn ?_)))
  refine offI (ldI (v := gv) c2 rfl kg (hidx' _ (load_part hb' hol' hft' hkn' ?_)))
  refine neqSame (teqD_same t.flocks[i]) (by kernel_rfl) (cnd_false.2 ?_)
  exact addI (by omega) ⟨i + 1, by dsimp only; omega, .inl ⟨rfl, by omega, ds, r2, r3, by show vint _ = vint _; congr 1⟩⟩
end
abbrev TF := Tro × Value
def tfC (x : TF) : List Value := troCells x.1 x.2
theorem tfC_len (x : TF) : (tfC x).length = 4 := rfl
section
variable {W0 : World} {Post : Value → World → Prop} {h H : List AObj} {K : Value → List AObj → Prop} {n0 : Nat} {nx0 : RG → List AObj → Prop}
theorem same28 {main : Bool} {J : JT} (hJ : Closed prog main J) {av bv : Value} {l : List Int} (ha : Sli H av 1 l.length (l.map vint)) (hb : Sli H bv 1 l.length (l.map vint)) (hl : l.length < 1000000) (hK : K (.bool true) H) : Good prog J 28 [av, bv] H K :=
  good28 hJ ha hb (by omega) (by rw [decide_eq_true rfl]; exact hK)
end
def TradO (t : Tro) (r : List Int) (n : Nat) (H : List AObj) (w : Value) : Prop := ∃ o, OwnL n H w (tradA t r) o
theorem fillP {a b : Int} {KL : List Value → Prop} (hk : KL ([a, b].map vint)) : aFill (zrep [vint 0] 2) [(0, 1, vint a), (1, 1, vint b)] KL := by
  unfold aFill
  refine ⟨rfl, rfl, by decide, ?_⟩
  unfold aFill
  refine ⟨rfl, rfl, by rw [wrAt_length]; decide, ?_⟩
  unfold aFill
  exact hk
theorem cndBI {b : Bool} {A B : Prop} (h1 : b = true → A) (h2 : b = false → B) : cnd (.bool b) A B := by
  cases b
  · exact cnd_false.2 (h2 rfl)
  · exact cnd_true.2 (h1 rfl)
theorem RotaFine.small {t : Tro} {r : List Int} (g : RotaFine t r) : ∀ i, i < r.length → r[i]? = some (r.getD i 0) := fun i hi => by
  rw [List.getD_eq_getElem?_getD, List.getElem?_eq_getElem hi]; rfl
section
variable {main : Bool} {J : JT} {h H : List AObj} {K : Value → List AObj → Prop} {KV : Value → Prop} {HL : List AObj → Prop} {n0 : Nat}
theorem mapBlk_sli {v : Value} {s n : Nat} {c : List Value} (hs : Sli H v s n c) : mapBlk v = none := by
  obtain ⟨base, c, rfl, _⟩ := id hs
  rfl
theorem set_own {xs : List Int} {v : Value} {o : Option Nat} (O : OwnX H 1 (xs.map vint) xs.length v o) {i : Nat} {x : Int} (hi : i < xs.length)
    (hk : ∀ H', SameX o.toList H H' → OwnX H' 1 ((xs.set i x).map vint) (xs.set i x).length v o → HL H') : aIdx 1 v (vint (i : Nat)) fun p => aStore 1 p (vint x) H HL := by
  obtain ⟨h1, h2, ⟨h0, _⟩ | ⟨b, c, sz, rfl, rfl, hb, hc⟩⟩ := O
  · omega
  · refine idxI ⟨by omega, by omega⟩ ?_
    rw [Int.toNat_natCast, Nat.zero_add, Nat.mul_one]
    refine qSt hb (by simpa using hi) rfl rfl fun H' S c' l' => hk H' (by simpa using S) ?_
    rw [List.length_set, List.map_set]
    exact ⟨by simp, by rw [← List.map_set]; exact kn_vint _, .inr ⟨b, c, sz, rfl, rfl, c', hc⟩⟩
theorem sli_blk {v : Value} {xs : List Int} (hs : Sli H v 1 xs.length (xs.map vint)) (h0 : 0 < xs.length) : ∃ b, b < H.length ∧ ∀ {H' : List AObj} {i : Nat} {x : Int} {K2 : Value → Value → Prop}, SameX [] H H' → xs[i]? = some x → (∀ o, K2 (ptr b o) (vint x)) → aIdx 1 v (vint (i : Nat)) fun p => aLoad false 1 p H' (K2 p) := by
  obtain ⟨base, c, rfl, ⟨hl, hkn⟩, ⟨_, hz⟩ | ⟨b, o, rfl, hz | ⟨cs, wr, sz, hb, hc⟩⟩⟩ := hs
  · omega
  · omega
  · refine ⟨b, lt_of_get hb, fun {H' i x K2} S hx hk => ?_⟩
    have hi := (List.getElem?_eq_some_iff.1 hx).1
    refine idxI ⟨by omega, by omega⟩ (ldI (v := vint x) (S.get hb (by simp)) ?_ rfl (hk _))
    have e : (xs.map vint)[i]? = some (vint x) := by rw [List.getElem?_map, hx]; rfl
    rw [← hc, List.getElem?_take_of_lt (by omega), List.getElem?_drop] at e
    rw [Int.toNat_natCast, Nat.mul_one]
    exact e
theorem pair_more {lo i k : Nat} {ls : List (List Int)} {o : Option Nat} {v : Value} (L : OwnL lo H v ls o) (hlo : lo ≤ H.length) (hl : ls.length < 90000)
    (hK : ∀ v' H' o', SameX o.toList H H' → OwnL lo H' v' (ls ++ [pairL i k]) (some o') → H.length ≤ o' → v' ≠ unk → K v' H') :
    (((2 * 1 : Nat) ≤ 16777216 ∧ (2 : Nat) ≤ 16777216 ∧ List.length [(vint 0)] = 1) ∧ aFill (zrep [(vint 0)] 2) [(0, 1, vint (i : Nat)), (1, 1, vint (k : Nat))] fun c1 => aNewS 2 c1 H fun v2 h3 =>
      (((1 * 1 : Nat) ≤ 16777216 ∧ (1 : Nat) ≤ 16777216 ∧ List.length [(Value.slice none 0 0)] = 1) ∧ aFill (zrep [(Value.slice none 0 0)] 1) [(0, 1, v2)] fun c4 => aNewS 1 c4 h3 fun v5 h6 =>
        ((List.length [(Value.slice none 0 0)] = 1 ∧ 0 < (1 : Nat) ∧ 0 < (24 : Nat) ∧ (24 : Nat) ≤ 1024) ∧ aApp 1 v v5 h6 K))) := by
  refine ⟨by decide, fillP (qNew fun H1 p1 e1 S1 c1 l1 => ⟨by decide, fill_one (l := [.slice (some ⟨p1, 0, none⟩) 2 2]) rfl rfl rfl (by decide) (fillI (qNew fun H2 p2 e2 S2 c2 l2 => ⟨by decide, ?_⟩))⟩)⟩
  have c1 : H1[p1]? = some (.cells ((pairL i k).map vint) true 0) := c1
  have c2 : H2[p2]? = some (.cells [.slice (some ⟨p1, 0, none⟩) 2 2] true 0) := c2
  have h1 := S1.1
  have h2 := S2.1
  have hol := L.lt
  refine ((L.keep S1).keep S2).more (by omega) hl (ownX_keep (ownX_new (s := 1) (n := 2) c1 rfl rfl) S2 (by simp)) (by omega) (fun e => by have := hol p1 e.symm; omega) (ownX_sli (ownX_new (s := 1) (n := 1) c2 rfl rfl)) fun v' H' o' S' L' ho hn => ?_
  refine hK v' H' o' ?_ L' (by omega) hn
  have S12 : SameX o.toList H H2 := (S1.trans S2).weak0
  exact S12.trans S'
theorem good59 (hJ : Closed prog main J) {v fv rv : Value} {t : Tro} {r : List Int} (ht : TroAt H v t fv) (hr : Sli H rv 1 r.length (r.map vint)) (hl : t.flocks.length ≤ 1000000)
    (hK : ∀ H' w, SameX [] H H' → TradO t r H.length H' w → w ≠ unk → K (.tuple ⟨[w, vint (tradE t r)]⟩) H') : Good prog J 59 [v, rv] H K := by
  refine g59 hJ fun ok => ?_
  rw [e59, ht.val]
  refine qBox (tro_one ht) fun H1 p1 e1 S1 c1 l1 => ?_
  have tk := tro_kn ht
  have t1 : TroAt H1 (.agg ⟨troCells t fv⟩) t fv := ⟨rfl, S1.sli ht.fl (by simp)⟩
  refine load_part (c := troCells t fv) c1 (by simp [troCells]) rfl tk (good86 hJ t1 (S1.sli hr (by simp)) hl (neqI (cndI (fun g1 => ?_) fun g1 => ?_)))
  · have he : tradE t r = rotaE t r := by unfold tradE; rw [if_pos g1]
    have := hK H1 (.slice none 0 0) S1 ⟨none, by unfold tradA; rw [if_neg (by omega)]; exact OwnL.nil⟩ (by simp [unk])
    rw [he] at this
    exact retL_same (nuA (by simp [unk]) (by simp [unk])) this
  have g0 : rotaE t r = 0 := by omega
  obtain ⟨f, g⟩ := rotaE_fine g0
  refine load_part (c := troCells t fv) c1 (by simp [troCells]) rfl tk (good99 hJ t1 (S1.sli hr (by simp)) f g fun H2 S2 => notI (cndBI (fun gb => ?_) fun gb => ?_))
  · have gb : goodB t r = false := by simpa using gb
    have he : tradE t r = 9 := by unfold tradE; rw [if_neg (by omega), if_neg (by rw [gb]; simp)]
    have := hK H2 (.slice none 0 0) (S1.trans S2) ⟨none, by unfold tradA; rw [if_neg (by omega)]; exact OwnL.nil⟩ (by simp [unk])
    rw [he] at this
    exact retL_same (nuA (by simp [unk]) (by simp [unk])) this
  have gb : goodB t r = true := by simpa using gb
  have he : tradE t r = 0 := by unfold tradE; rw [if_neg (by omega), if_pos gb]
  have ha : tradA t r = tradTo t r r.length := by unfold tradA; rw [if_pos he]
  have gl := g.len
  have T2 := S1.trans S2
  have hT2 := T2.1
  refine lenI (T2.sli hr (by simp)) ?_
  refine l59_1 hJ (fun i : Nat => r.length - i) (fun i F H' => ∃ w o, SameX [] H2 H' ∧ i ≤ r.length ∧ OwnL H2.length H' w (tradTo t r i) o ∧ F.ds = [] ∧ F.r 1 = rv ∧ F.r 2 = ptr p1 0 ∧ F.r 7 = w ∧ F.r 22 = vint (r.length : Nat) ∧ F.r 23 = vint (i : Nat)) ?_ (s := 0)
    (.inl ⟨.slice none 0 0, none, SameX.refl, by omega, OwnL.nil, rfl, rfl, rfl, rfl, rfl, rfl⟩)
  rintro i F H' ⟨w, o, S, hi, L, ds, r1, r2, r7, r22, r23⟩ okc hnc
  rw [s59_1, r22, r23, r7, ds]
  refine lssI (cndI (fun hlt => ?_) fun hge => ?_)
  rotate_left
  · have : i = r.length := by omega
    subst this
    have := hK H' w (T2.trans S) ⟨o, by rw [ha]; exact L.lo hT2⟩ L.nunk
    rw [he] at this
    exact retL_same (nuA L.nunk (by simp [unk])) this
  have hil : i < r.length := by omega
  refine addI (by omega) ?_
  refine l59_2 hJ (fun k : Nat => r.length - k) (fun k F H' => ∃ w o, SameX [] H2 H' ∧ i + 1 ≤ k ∧ k ≤ r.length ∧ OwnL H2.length H' w (partT t r i k) o ∧ F.ds = [] ∧ F.r 1 = rv ∧ F.r 2 = ptr p1 0 ∧ F.r 7 = w ∧ F.r 8 = vint (i : Nat) ∧ F.r 22 = vint (r.length : Nat) ∧ F.r 23 = vint (i : Nat) ∧ F.r 9 = vint (k : Nat)) ?_ (s := i + 1)
    (.inl ⟨w, o, S, by omega, by omega, by rw [partT_zero]; exact L, ds, r1, r2, r7, rfl, r22, r23, by show vint _ = vint _; congr 1⟩)
  clear ds r1 r2 r7 r22 r23 okc hnc L S
  rintro k F Hc ⟨w, o, S, hk1, hk, L, ds, r1, r2, r7, r8, r22, r23, r9⟩ okc hnc
  have T := T2.trans S
  rw [s59_2, r1, r2, r8, r9, r23]
  refine lenI (T.sli hr (by simp)) (lssI (cndI (fun hltk => ?_) fun hgek => ?_))
  rotate_left
  · have hkl : k = r.length := by omega
    subst hkl
    exact addI (by omega) ⟨i + 1, by dsimp only; omega, .inl ⟨w, o, S, by omega, L, ds, r1, r2, r7, r22, by show vint _ = vint _; congr 1⟩⟩
  have hkl : k < r.length := by omega
  have gi := g.small i hil
  have gk := g.small k hkl
  have hol := ofL_len gl.2
  have hpf := partT_few (t := t) (i := i) (k := k) g (by omega) (by omega)
  -- the next pair
  have next : ∀ {b : Bool} {F2 : RG} {H4 : List AObj}, b = canSw t r i k → SameX [] Hc H4 → F2.ds = [] → F2.r 1 = rv → F2.r 2 = ptr p1 0 → F2.r 7 = w → F2.r 8 = vint (i : Nat) → F2.r 9 = vint (k : Nat) → F2.r 22 = vint (r.length : Nat) → F2.r 23 = vint (i : Nat) → F2.r 58 = .bool b →
      W prog J 67 H.length 59 (subC [1, 1, 1, 1, 0, 1, 0, 0, 1, 1, 0, 0, 1, 1, 0, 0, 1, 0, 0, 1, 1, 1, 1] (codeOf f59)) F2 H4 (contX pl59 prog J 67 H.length 59 ct59 [1, 1, 1, 1, 0, 1, 0, 0, 1, 1, 0, 0, 1, 1, 0, 0, 1, 0, 0, 1, 1, 1, 1] (codeOf f59)
        [Nx H.length (fun i : Nat => r.length - i) (fun i F H' => ∃ w o, SameX [] H2 H' ∧ i ≤ r.length ∧ OwnL H2.length H' w (tradTo t r i) o ∧ F.ds = [] ∧ F.r 1 = rv ∧ F.r 2 = ptr p1 0 ∧ F.r 7 = w ∧ F.r 22 = vint (r.length : Nat) ∧ F.r 23 = vint (i : Nat)) i,
         Nx H.length (fun k : Nat => r.length - k) (fun k F H' => ∃ w o, SameX [] H2 H' ∧ i + 1 ≤ k ∧ k ≤ r.length ∧ OwnL H2.length H' w (partT t r i k) o ∧ F.ds = [] ∧ F.r 1 = rv ∧ F.r 2 = ptr p1 0 ∧ F.r 7 = w ∧ F.r 8 = vint (i : Nat) ∧ F.r 22 = vint (r.length : Nat) ∧ F.r 23 = vint (i : Nat) ∧ F.r 9 = vint (k : Nat)) k]
        (RetQ prog [.tmp 4, .tmp 5] H.length K)) := by
    intro b F2 H4 hb S4 q0 q1 q2 q7 q8 q9 q22 q23 q58
    rw [s59_3, q58, q7, q8, q9]
    have hSl := S.1
    have hS4 := S4.1
    have hL := L.lt
    cases b with
    | true =>
      refine cnd_true.2 (pair_more (L.keep S4) (by omega) (by omega) fun v' H5 o5 S5 L5 ho5 hn5 => addI (by omega) ⟨k + 1, by dsimp only; omega, .inl ⟨v', some o5, ?_, by omega, by omega, ?_, q0, q1, q2, rfl, q8, q22, q23, by show vint _ = vint _; congr 1⟩⟩)
      · exact (S.trans S4).thru S5 fun y hy => .inr (hL y (Option.mem_toList.1 hy)).1
      · rw [partT_yes (by omega) hb.symm]
        exact L5
    | false =>
      refine cnd_false.2 (addI (by omega) ⟨k + 1, by dsimp only; omega, .inl ⟨w, o, S.trans S4, by omega, by omega, ?_, q0, q1, q2, q7, q8, q22, q23, by show vint _ = vint _; congr 1⟩⟩)
      rw [partT_no hb.symm]
      exact L.keep S4
  refine good100 hJ (T.sli hr (by simp)) gl.2 fun H3 S3 => ?_
  refine qAl fun H4 p4 e4 S4 c4 l4 => ?_
  refine qStA (c := (ofL r).map vint) c4 (by simp [hol]) rfl (one_vint _) fun H5 S5 c5 l5 => ?_
  have hs3 := S3.1
  have T5 : SameX [] Hc H5 := (S3.trans S4).thru S5 (by simp; omega)
  refine sli_num' ((T.trans T5).sli hr (by simp)) gk fun q => idxA (by omega) ?_
  rw [Nat.mul_one]
  refine qSt c5 (by simp [hol]; omega) rfl rfl fun H6 S6 c6 l6 => ?_
  have T6 : SameX [] Hc H6 := T5.thru S6 (by simp; omega)
  refine sli_num' ((T.trans T6).sli hr (by simp)) gi fun q => idxA (by omega) ?_
  rw [Nat.mul_one]
  refine qSt c6 (by simp [hol]; omega) rfl rfl fun H7 S7 c7 l7 => ?_
  have T7 : SameX [] Hc H7 := T6.thru S7 (by simp; omega)
  rw [← List.map_set, ← List.map_set, swL_of gl.2 hil hkl] at c7
  have gs := swL_fine g hil hkl
  have hos := ofL_len gs.len.2
  have hlt7 := lt_of_get c7
  have dp := ((S2.trans S).trans T7).get c1 (by simp)
  have hltp := lt_of_get dp
  refine ⟨[p4, p1], load_part (c := (ofL (swL r i k)).map vint) c7 (by simp [hos]) (by rw [List.drop_zero, List.take_of_length_le (by simp [hos])]) (kn_vint _) ⟨by simp [RdOk, ptr, ptrBlk], ?_⟩⟩
  have sb : ∀ {H''}, SameX [] H7 H'' → SameB (some [p4, p1]) H7 H'' := fun S'' b hb => S''.2 b (by simp at hb; rcases hb with rfl | rfl <;> omega) (by simp)
  refine good100 hJ ((T.trans T7).sli hr (by simp)) gl.2 fun H8 S8 => ⟨sb S8, ?_⟩
  refine neqArr hos hol (cndI (fun hne => ?_) fun heq => ?_)
  · have hsw : swL r i k ≠ r := fun e => hne (by rw [e])
    have c8 := S8.get c7 (by simp)
    have t8 := troAt_same t1 ((S2.trans S).trans (T7.trans S8)) (by simp)
    refine load_part (c := troCells t fv) (S8.get dp (by simp)) (by simp [troCells]) rfl tk ⟨by simp [RdOk, ptr, ptrBlk], ?_⟩
    refine lenI ((T.trans (T7.trans S8)).sli hr (by simp)) ⟨by simp [RdOk, mapBlk_sli hr], slA gl.2 ⟨sb S8, ?_⟩⟩
    have hsl : Sli H8 (.slice (some ⟨p4, 0, none⟩) r.length 5) 1 (swL r i k).length ((swL r i k).map vint) := by
      rw [swL_len]
      exact sli_arr c8 (by unfold ofL; rw [List.take_left' swL_len]) (by omega)
    refine good99 hJ t8 hsl f gs fun H9 S9 => ⟨sb (S8.trans S9), hold.2 (next (b := goodB t (swL r i k)) ?_ ((T7.trans S8).trans S9) ds r1 r2 r7 r8 r9 r22 r23 rfl)⟩
    unfold canSw
    rw [decide_eq_true (show r.getD i 0 ≠ r.getD k 0 from fun e => hsw ((swL_same hil hkl).2 e))]
    rfl
  · have hsw : swL r i k = r := by
      have := Classical.not_not.1 heq
      exact ofL_inj swL_len this
    refine hold.2 (next (b := false) ?_ (T7.trans S8) ds r1 r2 r7 r8 r9 r22 r23 rfl)
    unfold canSw
    rw [decide_eq_false (by rw [ne_eq, Classical.not_not]; exact (swL_same hil hkl).1 hsw)]
    rfl
theorem good105 (hJ : Closed prog main J) {rv : Value} {r : List Int} {i k : Nat} (hs : Sli H rv 1 r.length (r.map vint)) (hl : r.length ≤ 5) (hi : i < r.length) (hk : k < r.length)
    (hK : ∀ H' v, SameX [] H H' → Sli H' v 1 (swL r i k).length ((swL r i k).map vint) → v ≠ unk → K v H') : Good prog J 105 [rv, vint (i : Nat), vint (k : Nat)] H K := by
  refine g105 hJ fun ok => ?_
  rw [e105]
  have gi : r[i]? = some (r.getD i 0) := by rw [List.getD_eq_getElem?_getD, List.getElem?_eq_getElem hi]; rfl
  have gk : r[k]? = some (r.getD k 0) := by rw [List.getD_eq_getElem?_getD, List.getElem?_eq_getElem hk]; rfl
  refine ⟨by decide, fillI (qNew fun H1 p1 e1 S1 c1 l1 => ⟨by decide, ?_⟩)⟩
  have c1 : H1[p1]? = some (.cells [] true 0) := c1
  have h1 := S1.1
  refine appX c1 (by omega) (by omega) (S1.sli hs (by simp)) fun v H2 p2 O2 S2 hp2 => ?_
  have T2 := S1.trans S2
  have hlo : H.length ≤ p2 := by omega
  have ts : ∀ {H' : List AObj}, SameX (some p2).toList H2 H' → SameX [] H H' := fun S => T2.thru S (by simp; omega)
  refine sli_num' (T2.sli hs (by simp)) gk fun q => set_own O2 hi fun H3 S3 O3 => ?_
  refine sli_num' ((ts S3).sli hs (by simp)) gi fun q => set_own O3 (by simpa using hk) fun H4 S4 O4 => ?_
  have hv := (ownX_val O4).2.2
  have hu : v ≠ unk := by
    intro e
    rw [e] at hv
    cases hv
  refine retL_same (by simpa using hu) (hK H4 v (ts (S3.trans S4)) (ownX_sli O4) hu)
theorem good63 (hJ : Closed prog main J) {v fv rv : Value} {t : Tro} {r : List Int} (ht : TroAt H v t fv) (hr : Sli H rv 1 r.length (r.map vint)) (hl : t.flocks.length ≤ 1000000)
    (hK : ∀ H' w, SameX [] H H' → TradO t r H.length H' w → w ≠ unk → K (.tuple ⟨[w, vint (tradE t r)]⟩) H') : Good prog J 63 [v, rv] H K := by
  refine g63 hJ fun ok => ?_
  rw [e63, ht.val]
  refine qBox (tro_one ht) fun H1 p1 e1 S1 c1 l1 => ?_
  have tk := tro_kn ht
  have t1 : TroAt H1 (.agg ⟨troCells t fv⟩) t fv := ⟨rfl, S1.sli ht.fl (by simp)⟩
  refine load_part (c := troCells t fv) c1 (by simp [troCells]) rfl tk (good91 hJ t1 (S1.sli hr (by simp)) hl fun Ha Sa => neqI (cndI (fun g1 => ?_) fun g1 => ?_))
  · have he : tradE t r = rotaE t r := by unfold tradE; rw [if_pos g1]
    have := hK Ha (.slice none 0 0) (S1.trans Sa) ⟨none, by unfold tradA; rw [if_neg (by omega)]; exact OwnL.nil⟩ (by simp [unk])
    rw [he] at this
    exact retL_same (nuA (by simp [unk]) (by simp [unk])) this
  have g0 : rotaE t r = 0 := by omega
  obtain ⟨f, g⟩ := rotaE_fine g0
  have ta := troAt_same t1 Sa (by simp)
  have Ta := S1.trans Sa
  refine load_part (c := troCells t fv) (Sa.get c1 (by simp)) (by simp [troCells]) rfl tk (good104 hJ ta (Ta.sli hr (by simp)) f g fun H2 S2 => notI (cndBI (fun gb => ?_) fun gb => ?_))
  · have gb : goodB t r = false := by simpa using gb
    have he : tradE t r = 9 := by unfold tradE; rw [if_neg (by omega), if_neg (by rw [gb]; simp)]
    have := hK H2 (.slice none 0 0) (Ta.trans S2) ⟨none, by unfold tradA; rw [if_neg (by omega)]; exact OwnL.nil⟩ (by simp [unk])
    rw [he] at this
    exact retL_same (nuA (by simp [unk]) (by simp [unk])) this
  have gb : goodB t r = true := by simpa using gb
  have he : tradE t r = 0 := by unfold tradE; rw [if_neg (by omega), if_pos gb]
  have ha : tradA t r = tradTo t r r.length := by unfold tradA; rw [if_pos he]
  have gl := g.len
  have T2 := Ta.trans S2
  have hT2 := T2.1
  refine l63_1 hJ (fun i : Nat => r.length - i) (fun i F H' => ∃ w o, SameX [] H2 H' ∧ i ≤ r.length ∧ OwnL H2.length H' w (tradTo t r i) o ∧ F.ds = [] ∧ F.r 1 = rv ∧ F.r 2 = ptr p1 0 ∧ F.r 7 = w ∧ F.r 8 = vint (i : Nat)) ?_ (s := 0)
    (.inl ⟨.slice none 0 0, none, SameX.refl, by omega, OwnL.nil, rfl, rfl, rfl, rfl, rfl⟩)
  rintro i F H' ⟨w, o, S, hi, L, ds, r1, r2, r7, r8⟩ okc hnc
  rw [s63_1, r1, r8, r7, ds]
  refine lenI ((T2.trans S).sli hr (by simp)) (lssI (cndI (fun hlt => ?_) fun hge => ?_))
  rotate_left
  · have : i = r.length := by omega
    subst this
    have := hK H' w (T2.trans S) ⟨o, by rw [ha]; exact L.lo hT2⟩ L.nunk
    rw [he] at this
    exact retL_same (nuA L.nunk (by simp [unk])) this
  have hil : i < r.length := by omega
  refine addI (by omega) ?_
  refine l63_2 hJ (fun k : Nat => r.length - k) (fun k F H' => ∃ w o, SameX [] H2 H' ∧ i + 1 ≤ k ∧ k ≤ r.length ∧ OwnL H2.length H' w (partT t r i k) o ∧ F.ds = [] ∧ F.r 1 = rv ∧ F.r 2 = ptr p1 0 ∧ F.r 7 = w ∧ F.r 8 = vint (i : Nat) ∧ F.r 9 = vint (k : Nat)) ?_ (s := i + 1)
    (.inl ⟨w, o, S, by omega, by omega, by rw [partT_zero]; exact L, ds, r1, r2, r7, r8, by show vint _ = vint _; congr 1⟩)
  clear ds r1 r2 r7 r8 okc hnc L S
  rintro k F Hc ⟨w, o, S, hk1, hk, L, ds, r1, r2, r7, r8, r9⟩ okc hnc
  have T := T2.trans S
  rw [s63_2, r1, r2, r8, r9]
  refine lenI (T.sli hr (by simp)) (lssI (cndI (fun hltk => ?_) fun hgek => ?_))
  rotate_left
  · have hkl : k = r.length := by omega
    subst hkl
    exact addI (by omega) ⟨i + 1, by dsimp only; omega, .inl ⟨w, o, S, by omega, L, ds, r1, r2, r7, by show vint _ = vint _; congr 1⟩⟩
  have hkl : k < r.length := by omega
  have gi := g.small i hil
  have gk := g.small k hkl
  have hpf := partT_few (t := t) (i := i) (k := k) g (by omega) (by omega)
  have next : ∀ {b : Bool} {F2 : RG} {H4 : List AObj}, b = canSw t r i k → SameX [] Hc H4 → F2.ds = [] → F2.r 1 = rv → F2.r 2 = ptr p1 0 → F2.r 7 = w → F2.r 8 = vint (i : Nat) → F2.r 9 = vint (k : Nat) → F2.r 50 = .bool b →
      W prog J 58 H.length 63 (subC [1, 1, 1, 1, 0, 1, 0, 0, 1, 0, 0, 1, 0, 0, 1, 0, 0, 1] (codeOf f63)) F2 H4 (contX pl63 prog J 58 H.length 63 ct63 [1, 1, 1, 1, 0, 1, 0, 0, 1, 0, 0, 1, 0, 0, 1, 0, 0, 1] (codeOf f63)
        [Nx H.length (fun i : Nat => r.length - i) (fun i F H' => ∃ w o, SameX [] H2 H' ∧ i ≤ r.length ∧ OwnL H2.length H' w (tradTo t r i) o ∧ F.ds = [] ∧ F.r 1 = rv ∧ F.r 2 = ptr p1 0 ∧ F.r 7 = w ∧ F.r 8 = vint (i : Nat)) i,
         Nx H.length (fun k : Nat => r.length - k) (fun k F H' => ∃ w o, SameX [] H2 H' ∧ i + 1 ≤ k ∧ k ≤ r.length ∧ OwnL H2.length H' w (partT t r i k) o ∧ F.ds = [] ∧ F.r 1 = rv ∧ F.r 2 = ptr p1 0 ∧ F.r 7 = w ∧ F.r 8 = vint (i : Nat) ∧ F.r 9 = vint (k : Nat)) k]
        (RetQ prog [.tmp 4, .tmp 5] H.length K)) := by
    intro b F2 H4 hb S4 q0 q1 q2 q7 q8 q9 q50
    rw [s63_3, q50, q7, q8, q9]
    have hSl := S.1
    have hS4 := S4.1
    have hL := L.lt
    cases b with
    | true =>
      refine cnd_true.2 (pair_more (L.keep S4) (by omega) (by omega) fun v' H5 o5 S5 L5 ho5 hn5 => addI (by omega) ⟨k + 1, by dsimp only; omega, .inl ⟨v', some o5, ?_, by omega, by omega, ?_, q0, q1, q2, rfl, q8, by show vint _ = vint _; congr 1⟩⟩)
      · exact (S.trans S4).thru S5 fun y hy => .inr (hL y (Option.mem_toList.1 hy)).1
      · rw [partT_yes (by omega) hb.symm]
        exact L5
    | false =>
      refine cnd_false.2 (addI (by omega) ⟨k + 1, by dsimp only; omega, .inl ⟨w, o, S.trans S4, by omega, by omega, ?_, q0, q1, q2, q7, q8, by show vint _ = vint _; congr 1⟩⟩)
      rw [partT_no hb.symm]
      exact L.keep S4
  have dp := ((Sa.trans S2).trans S).get c1 (by simp)
  have hltp := lt_of_get dp
  have hsr := T.sli hr (by simp)
  obtain ⟨rb, hrb, get⟩ := sli_blk hsr (by omega)
  have sb : ∀ {H''}, SameX [] Hc H'' → SameB (some [p1, rb]) Hc H'' := fun S'' b hb => S''.2 b (by simp at hb; rcases hb with rfl | rfl <;> omega) (by simp)
  have tc := troAt_same ta (S2.trans S) (by simp)
  refine ⟨[p1, rb], get SameX.refl gi fun _ => ⟨by simp [RdOk, ptr, ptrBlk], get SameX.refl gk fun _ => ⟨by simp [RdOk, ptr, ptrBlk], neqI (cndI (fun hne => ?_) fun heq => ?_)⟩⟩⟩
  · refine load_part (c := troCells t fv) dp (by simp [troCells]) rfl tk ⟨by simp [RdOk, ptr, ptrBlk], ?_⟩
    refine good105 hJ hsr gl.2 hil hkl fun H3 x S3 X3 _ => ⟨sb S3, ?_⟩
    refine good104 hJ (troAt_same tc S3 (by simp)) X3 f (swL_fine g hil hkl) fun H4 S4 => ⟨sb (S3.trans S4), hold.2 (next (b := goodB t (swL r i k)) ?_ (S3.trans S4) ds r1 r2 r7 r8 r9 rfl)⟩
    unfold canSw
    rw [decide_eq_true hne]
    rfl
  · refine hold.2 (next (b := false) ?_ SameX.refl ds r1 r2 r7 r8 r9 rfl)
    unfold canSw
    rw [decide_eq_false heq]
    rfl
theorem good61 (hJ : Closed prog main J) {v fv rv : Value} {t : Tro} {r : List Int} (ht : TroAt H v t fv) (hr : Sli H rv 1 r.length (r.map vint)) (hl : t.flocks.length ≤ 1000000)
    (hK : ∀ H' lv, SameX [] H H' → Sli H' lv 1 (unfA t r).length ((unfA t r).map vint) → K (.tuple ⟨[lv, vint (rotaE t r)]⟩) H') : Good prog J 61 [v, rv] H K := by
  refine g61 hJ fun ok => ?_
  rw [e61, ht.val]
  refine qBox (tro_one ht) fun H1 p1 e1 S1 c1 l1 => ?_
  have tk := tro_kn ht
  have t1 : TroAt H1 (.agg ⟨troCells t fv⟩) t fv := ⟨rfl, S1.sli ht.fl (by simp)⟩
  refine load_part (c := troCells t fv) c1 (by simp [troCells]) rfl tk (good91 hJ t1 (S1.sli hr (by simp)) hl fun Ha Sa => neqI (cndI (fun g1 => ?_) fun g1 => ?_))
  · exact retL_same (nuA (by simp [unk]) (by simp [unk])) (hK Ha (.slice none 0 0) (S1.trans Sa) (by unfold unfA; rw [if_neg g1]; exact sli_nil))
  · have g0 : rotaE t r = 0 := by omega
    obtain ⟨f, g⟩ := rotaE_fine g0
    have gl := g.len
    have fl := f.len
    refine load_part (c := troCells t fv) (Sa.get c1 (by simp)) (by simp [troCells]) rfl tk (good102 hJ (troAt_same t1 Sa (by simp)) ((S1.trans Sa).sli hr (by simp)) (fun e => by rw [e] at gl; simp at gl) (by omega) (by omega) fun H2 w o S2 O2 => ?_)
    refine retL_same (nuA (own_nunkV O2) (by simp [unk])) ?_
    have := hK H2 w ((S1.trans Sa).trans S2) (by unfold unfA; rw [if_pos g0]; exact ownX_sli O2)
    rw [g0] at this
    exact this
theorem good62 (hJ : Closed prog main J) {v fv rv : Value} {t : Tro} {r : List Int} (ht : TroAt H v t fv) (hr : Sli H rv 1 r.length (r.map vint)) (hl : t.flocks.length ≤ 1000000)
    (hK : ∀ H', SameX [] H H' → K (.tuple ⟨[vint (lastA t r), vint (lastE t r)]⟩) H') : Good prog J 62 [v, rv] H K := by
  refine g62 hJ fun ok => ?_
  rw [e62, ht.val]
  refine qBox (tro_one ht) fun H1 p1 e1 S1 c1 l1 => ?_
  have tk := tro_kn ht
  have t1 : TroAt H1 (.agg ⟨troCells t fv⟩) t fv := ⟨rfl, S1.sli ht.fl (by simp)⟩
  refine load_part (c := troCells t fv) c1 (by simp [troCells]) rfl tk (good91 hJ t1 (S1.sli hr (by simp)) hl fun Ha Sa => neqI (cndI (fun g1 => ?_) fun g1 => ?_))
  · refine retL_same (nuA (by simp [unk]) (by simp [unk])) ?_
    have := hK Ha (S1.trans Sa)
    unfold lastA lastE at this
    rw [if_neg (fun e => g1 e.1), if_pos g1] at this
    exact this
  · have g0 : rotaE t r = 0 := by omega
    obtain ⟨f, g⟩ := rotaE_fine g0
    refine load_part (c := troCells t fv) (Sa.get c1 (by simp)) (by simp [troCells]) rfl tk (good103 hJ (troAt_same t1 Sa (by simp)) ((S1.trans Sa).sli hr (by simp)) f g fun H2 S2 => ?_)
    have := hK H2 ((S1.trans Sa).trans S2)
    unfold lastA lastE at this
    rw [if_neg (not_not_intro g0)] at this
    refine lssI (cndI (fun h0 => ?_) fun h0 => ?_)
    · rw [if_pos h0, if_neg (fun e => by omega)] at this
      exact retL_same (nuA (by simp [unk]) (by simp [unk])) this
    · rw [if_neg h0, if_pos ⟨g0, by omega⟩] at this
      exact retL_same (nuA (by simp [unk]) (by simp [unk])) this
theorem good60 (hJ : Closed prog main J) {v fv rv : Value} {t : Tro} {r : List Int} (ht : TroAt H v t fv) (hr : Sli H rv 1 r.length (r.map vint)) (hl : t.flocks.length ≤ 1000000)
    (hK : ∀ H' lv, SameX [] H H' → Sli H' lv 1 (gapsA t r).length ((gapsA t r).map vint) → K (.tuple ⟨[lv, vint (rotaE t r)]⟩) H') : Good prog J 60 [v, rv] H K := by
  refine g60 hJ fun ok => ?_
  rw [e60, ht.val]
  refine qBox (tro_one ht) fun H1 p1 e1 S1 c1 l1 => ?_
  have tk := tro_kn ht
  have kf := (sli_val ht.fl).2.2
  have t1 : TroAt H1 (.agg ⟨troCells t fv⟩) t fv := ⟨rfl, S1.sli ht.fl (by simp)⟩
  refine load_part (c := troCells t fv) c1 (by simp [troCells]) rfl tk (good91 hJ t1 (S1.sli hr (by simp)) hl fun Ha Sa => neqI (cndI (fun g1 => ?_) fun g1 => ?_))
  · exact retL_same (nuA (by simp [unk]) (by simp [unk])) (hK Ha (.slice none 0 0) (S1.trans Sa) (by unfold gapsA; rw [if_neg g1]; exact sli_nil))
  have g0 : rotaE t r = 0 := by omega
  obtain ⟨f, g⟩ := rotaE_fine g0
  have gl := g.len
  have fl := f.len
  have Ta := S1.trans Sa
  have hTa := Ta.1
  refine l60_1 hJ (fun i : Nat => t.flocks.length - i) (fun i F H' => SameX [] Ha H' ∧ i ≤ t.flocks.length ∧ F.ds = [] ∧ F.r 1 = rv ∧ F.r 2 = ptr p1 0 ∧ F.r 8 = vint (i : Nat) ∧ ∃ o, OwnX H' 1 ((gapsTo r i).map vint) (gapsTo r i).length (F.r 7) o ∧ ∀ j, o = some j → Ha.length ≤ j) ?_ (s := 0)
    (.inl ⟨SameX.refl, by omega, rfl, rfl, rfl, rfl, none, ⟨rfl, rfl, .inl ⟨rfl, rfl, rfl⟩⟩, by simp⟩)
  rintro i F H' ⟨S, hi, ds, r1, r2, r8, o, O, ho⟩ okc hnc
  have T := Ta.trans S
  rw [s60_1, r1, r2, r8, ds]
  refine offI (ldI (v := fv) ((Sa.trans S).get c1 (by simp)) rfl kf (lenI (T.sli ht.fl (by simp)) (lssI (cndI (fun hlt => ?_) fun hge => ?_))))
  · refine good101 hJ (T.sli hr (by simp)) (fun e => by rw [e] at gl; simp at gl) (by omega) ⟨by decide, fill_one rfl rfl rfl (by decide) (fillI (qNew fun H5 p5 e5 S5 c5 l5 => ⟨by decide, ?_⟩))⟩
    have c5 : H5[p5]? = some (.cells [vint (gapR r i)] true 0) := c5
    have hgl : (gapsTo r i).length = i := by simp [gapsTo]
    refine ownX_more (ownX_keep O S5 (by simp)) (by omega) (by omega) (ownX_sli (ownX_new (s := 1) (n := 1) (l := [vint (gapR r i)]) c5 rfl rfl)) fun lv' H6 p6 e6 O6 S6 => addI (by omega) ?_
    refine ⟨i + 1, by dsimp only; omega, .inl ⟨(S.trans S5).thru S6 fun y hy => .inr (ho y (by simpa using hy)), by omega, ds, r1, r2, by show vint _ = vint _; congr 1, some p6, ?_, fun j hj => by cases hj; have := S.1; have := S5.1; omega⟩⟩
    rw [gapsTo_succ, List.map_append, List.length_append]
    exact O6
  · have : i = t.flocks.length := by omega
    subst this
    refine retL_same (nuA (own_nunkV O) (by simp [unk])) ?_
    have := hK H' (F.r 7) T (by unfold gapsA; rw [if_pos g0]; exact ownX_sli O)
    rw [g0] at this
    exact this
theorem good64 (hJ : Closed prog main J) {av bv : Value} {ls : List (List Int)} {n m : Nat} {o o' : Option Nat} (ha : OwnL n H av ls o) (hb : OwnL m H bv ls o') (hl : ls.length < 1000000) (hs : ∀ l ∈ ls, l.length < 1000000)
    (hK : K (.bool true) H) : Good prog J 64 [av, bv] H K := by
  refine g64 hJ fun ok => ?_
  rw [e64]
  obtain ⟨ca, sa⟩ := ha.sli
  obtain ⟨cb, sb⟩ := hb.sli
  refine lenI sa (lenI sb (neqI (cndI (fun hx => absurd rfl hx) fun _ => ?_)))
  refine l64_1 hJ (fun i : Nat => ls.length - i) (fun i F H' => H' = H ∧ i ≤ ls.length ∧ F.ds = [] ∧ F.r 0 = av ∧ F.r 1 = bv ∧ F.r 5 = vint (i : Nat)) ?_ (s := 0)
    (.inl ⟨rfl, by omega, rfl, rfl, rfl, rfl⟩)
  rintro i F H' ⟨rfl, hi, ds, r0, r1, r5⟩ okc hnc
  rw [s64_1, r0, r1, r5, ds]
  refine lenI sa (lssI (cndI (fun hlt => ?_) fun hge => retL_same (by simp [unk]) hK))
  have hil : i < ls.length := by omega
  have hli : ls[i]? = some ls[i] := List.getElem?_eq_getElem hil
  refine ha.get hli fun p x b Ox _ => hb.get hli fun q y c Oy _ => ?_
  refine same28 hJ (ownX_sli Ox) (ownX_sli Oy) (hs _ (List.getElem_mem hil)) (notI (cnd_false.2 (addI (by omega) ⟨i + 1, by dsimp only; omega, .inl ⟨rfl, by omega, ds, r0, r1, by show vint _ = vint _; congr 1⟩⟩)))
end
end Go.Proofs.Ytindillghipjjaa
namespace Go.Proofs.Ytindillghipjjaa
open Go.Conc Go.Proofs.Try
set_option maxRecDepth 100000
set_option maxHeartbeats 4000000
set_option linter.unusedVariables false
section
variable {main : Bool} {J : JT} {n0 : Nat} {h : List AObj} {K : Value → List AObj → Prop}
def pl13 : Plans := [(3, false, .take 0 (.take 1 (.last 2 true (.last 3 true (.last 4 false (.take 5 (.fin))))))),
  (14, false, .take 0 (.take 1 (.take 2 (.take 3 (.take 4 (.take 5 (.take 6 (.take 7 (.take 8 (.take 9 (.take 10 (.take 11 (.take 12 (.take 13 (.take 14 (.take 15 (.take 16 (.take 17 (.take 18 (.take 19 (.take 20 (.take 21 (.take 22 (.take 23 (.take 24 (.take 25 (.last 26 true (.take 27 (.take 28 (.take 29 (.take 30 (.take 31 (.take 32 (.take 33 (.take 34 (.last 35 false (.take 36 (.take 37 (.fin)))))))))))))))))))))))))))))))))))))))]
def ct13 : Cuts := .bin (.go) (.bin (.go) (.bin (.go) (.bin (.bin (.go) (.un (.un (.bin (.go) (.bin (.un (.bin (.go) (.bin (.go) (.bin (.go) (.bin (.go) (.bin (.go) (.bin (.go) (.bin (.go) (.bin (.go) (.cut (.go))))))))))) (.go)))))) (.go))))
theorem pok13 : plansOk prog pl13 (codeOf f13) = true := by kernel_rfl
theorem e13 {a0 a1 : Value} : W prog J 117 h.length 13 (codeOf f13) (RG.mk (regs [a0, a1]) []) h (RetQ prog [.tmp 4] h.length K) =
(aBox a0 h fun v1 h2 =>
aLoad true 4 v1 h2 fun v3 =>
Good prog J 18 [v3, (Value.slice none 0 0)] h2 fun v4 h5 =>
cnd v4
(Good prog J 19 [] h5 fun v6 h7 =>
retL h.length K [] [v6] h7)
((∃ B, aLoad true 4 v1 h5 fun v8 =>
RdOk (some B) (ptrBlk v1) ∧ (Good prog J 20 [a1] h5 fun v9 h10 =>
SameB (some B) h5 h10 ∧ (Good prog J 21 [v9, (vint 2), (vint 10)] h10 fun v11 h12 =>
SameB (some B) h5 h12 ∧ ((((2 * 4 : Nat) ≤ 16777216 ∧ (2 : Nat) ≤ 16777216 ∧ List.length [(vint 0), (vint 0), (vint 0), (Value.slice none 0 0)] = 4) ∧ aFill (zrep [(vint 0), (vint 0), (vint 0), (Value.slice none 0 0)] 2) [(0, 4, v8), (4, 4, v11)] fun c13 =>
aNewS 2 c13 h12 fun v14 h15 =>
Sem J 117 h.length 13 (subC [1, 1, 1, 0, 1, 0] (codeOf f13)) (RG.p (RG.p (RG.p (RG.p (RG.p (RG.p (RG.p (RG.p (RG.p (RG.p (RG.p (RG.mk (regs [a0, a1]) []) 2 v1) 4 (Value.bool false)) 20 v3) 21 v4) 23 v8) 24 a1) 25 v9) 26 v11) 27 v14) 5 v14) 6 (vint 0)) h15 (contX pl13 prog J 117 h.length 13 ct13 [1, 1, 1, 0, 1, 0] (codeOf f13) [] (RetQ prog [.tmp 4] h.length K))))))))) := top_eq pok13 ct13 (by kernel_rfl)
end
section
variable {main : Bool} {J : JT} {n0 : Nat} {h : List AObj} {K : Value → List AObj → Prop}
def pl8 : Plans := [(5, false, .take 0 (.take 1 (.take 2 (.take 4 (.take 5 (.take 6 (.take 8 (.take 10 (.take 11 (.take 13 (.alt 3 true (.last 7 true (.alt 9 true (.last 12 true (.take 15 (.take 16 (.last 14 true (.take 17 (.fin)))))) (.last 12 true (.take 15 (.alt 9 true (.take 16 (.last 14 true (.take 17 (.fin)))) (.last 14 true (.last 9 true (.take 16 (.take 17 (.fin)))))))))) (.last 7 true (.alt 3 true (.alt 9 true (.last 12 true (.take 15 (.take 16 (.last 14 true (.take 17 (.fin)))))) (.last 12 true (.take 15 (.alt 9 true (.take 16 (.last 14 true (.take 17 (.fin)))) (.last 14 true (.last 9 true (.take 16 (.take 17 (.fin))))))))) (.alt 9 true (.alt 3 true (.last 12 true (.take 15 (.take 16 (.last 14 true (.take 17 (.fin)))))) (.last 12 true (.alt 3 true (.take 15 (.take 16 (.last 14 true (.take 17 (.fin))))) (.last 14 true (.last 3 true (.take 15 (.take 16 (.take 17 (.fin))))))))) (.last 12 true (.alt 3 true (.take 15 (.alt 9 true (.take 16 (.last 14 true (.take 17 (.fin)))) (.last 14 true (.last 9 true (.take 16 (.take 17 (.fin))))))) (.alt 9 true (.alt 3 true (.take 15 (.take 16 (.last 14 true (.take 17 (.fin))))) (.last 14 true (.last 3 true (.take 15 (.take 16 (.take 17 (.fin))))))) (.last 14 true (.alt 3 true (.take 15 (.last 9 true (.take 16 (.take 17 (.fin))))) (.last 9 true (.last 3 true (.take 15 (.take 16 (.take 17 (.fin))))))))))))))))))))))))),
  (9, false, .take 0 (.take 1 (.take 2 (.take 3 (.take 5 (.take 6 (.take 7 (.take 8 (.alt 4 true (.alt 9 false (.last 10 true (.last 11 false (.take 12 (.fin)))) (.last 10 true (.last 9 false (.last 11 false (.take 12 (.fin)))))) (.last 10 true (.last 4 true (.last 9 false (.last 11 false (.take 12 (.fin))))))))))))))),
  (10, true, .take 0 (.take 1 (.take 2 (.take 3 (.take 4 (.take 5 (.last 6 false (.take 7 (.take 8 (.take 9 (.take 10 (.take 11 (.fin))))))))))))),
  (11, true, .take 0 (.take 1 (.take 2 (.take 3 (.take 4 (.take 5 (.take 6 (.take 7 (.take 8 (.take 9 (.take 10 (.take 11 (.last 12 false (.take 13 (.take 14 (.take 15 (.take 16 (.take 17 (.fin))))))))))))))))))),
  (12, true, .take 0 (.take 1 (.take 2 (.take 3 (.take 4 (.take 5 (.last 6 false (.take 7 (.take 8 (.take 9 (.take 10 (.take 11 (.fin))))))))))))),
  (13, true, .take 0 (.take 1 (.take 2 (.take 3 (.take 4 (.take 5 (.take 6 (.take 7 (.take 8 (.take 9 (.take 10 (.take 11 (.last 12 false (.take 13 (.take 14 (.take 15 (.take 16 (.take 17 (.fin))))))))))))))))))),
  (14, false, .take 0 (.take 2 (.take 3 (.take 4 (.take 5 (.last 1 true (.last 6 true (.take 7 (.take 8 (.take 9 (.take 10 (.take 11 (.take 12 (.take 13 (.take 14 (.take 15 (.take 16 (.take 17 (.take 18 (.take 19 (.take 20 (.last 21 true (.take 22 (.take 23 (.take 24 (.take 25 (.take 26 (.last 27 true (.take 28 (.take 29 (.take 30 (.take 31 (.take 32 (.take 33 (.take 34 (.take 35 (.last 36 true (.take 37 (.take 38 (.take 39 (.take 40 (.take 41 (.take 42 (.take 43 (.take 44 (.last 45 true (.take 46 (.take 47 (.fin)))))))))))))))))))))))))))))))))))))))))))))))))]
def ct8 : Cuts := .bin (.go) (.bin (.go) (.bin (.go) (.bin (.go) (.bin (.go) (.cut (.bin (.bin (.go) (.un (.un (.bin (.go) (.bin (.un (.bin (.go) (.cut (.bin (.go) (.bin (.go) (.cut (.bin (.go) (.bin (.go) (.cut (.bin (.go) (.cut (.go)))))))))))) (.go)))))) (.go)))))))
theorem pok8 : plansOk prog pl8 (codeOf f8) = true := by kernel_rfl
theorem e8 {a0 a1 a2 a3 : Value} : W prog J 165 h.length 8 (codeOf f8) (RG.mk (regs [a0, a1, a2, a3]) []) h (RetQ prog [.tmp 8] h.length K) =
(aBox a0 h fun v1 h2 =>
aLoad true 4 v1 h2 fun v3 =>
Good prog J 18 [v3, a1] h2 fun v4 h5 =>
cnd v4
(Good prog J 19 [] h5 fun v6 h7 =>
retL h.length K [] [v6] h7)
(Good prog J 20 [a3] h5 fun v8 h9 =>
Good prog J 21 [v8, (vint 3), (vint 20)] h9 fun v10 h11 =>
aAlloc [(vint 0), (vint 0), (vint 0), (Value.slice none 0 0)] h11 fun v12 h13 =>
aStore 4 v12 v10 h13 fun h14 =>
(∃ B, aLoad true 4 v1 h14 fun v15 =>
RdOk (some B) (ptrBlk v1) ∧ (aLoad true 4 v12 h14 fun v16 =>
RdOk (some B) (ptrBlk v12) ∧ (aLoad true 4 v12 h14 fun v17 =>
RdOk (some B) (ptrBlk v12) ∧ (aLoad true 4 v12 h14 fun v18 =>
RdOk (some B) (ptrBlk v12) ∧ (((((3 * 4 : Nat) ≤ 16777216 ∧ (3 : Nat) ≤ 16777216 ∧ List.length [(vint 0), (vint 0), (vint 0), (Value.slice none 0 0)] = 4) ∧ aFill (zrep [(vint 0), (vint 0), (vint 0), (Value.slice none 0 0)] 3) [(0, 4, v15), (4, 4, v16), (8, 4, v17)] fun c19 =>
aNewS 3 c19 h14 fun v20 h21 =>
SameB (some B) h14 h21 ∧ (Good prog J 36 [v8, v18, (vint 5)] h21 fun v22 h23 =>
SameB (some B) h14 h23 ∧ (((((3 * 1 : Nat) ≤ 16777216 ∧ (3 : Nat) ≤ 16777216 ∧ List.length [(Value.slice none 0 0)] = 1) ∧ aFill (zrep [(Value.slice none 0 0)] 3) [(0, 1, a1), (1, 1, v22), (2, 1, a1)] fun c24 =>
aNewS 3 c24 h23 fun v25 h26 =>
SameB (some B) h14 h26 ∧ (Good prog J 33 [v8, (vint 1), (vint 48)] h26 fun v27 h28 =>
SameB (some B) h14 h28 ∧ ((((3 * 1 : Nat) ≤ 16777216 ∧ (3 : Nat) ≤ 16777216 ∧ List.length [(vint 0)] = 1) ∧ aFill (zrep [(vint 0)] 3) [(0, 1, a2), (1, 1, v27), (2, 1, a2)] fun c29 =>
aNewS 3 c29 h28 fun v30 h31 =>
SameB (some B) h14 h31 ∧ (Hold (W prog J 165 h.length 8 (subC [1, 1, 1, 1, 1] (codeOf f8)) (RG.p (RG.p (RG.p (RG.p (RG.p (RG.p (RG.p (RG.p (RG.p (RG.p (RG.p (RG.p (RG.p (RG.p (RG.p (RG.p (RG.p (RG.p (RG.p (RG.p (RG.p (RG.p (RG.p (RG.p (RG.p (RG.p (RG.p (RG.p (RG.p (RG.mk (regs [a0, a1, a2, a3]) []) 4 v1) 8 (Value.bool false)) 25 v3) 26 a1) 27 v4) 29 a3) 30 v8) 9 v8) 31 v8) 32 v10) 10 v12) 33 v15) 34 v16) 35 v17) 37 a1) 38 v8) 39 v18) 41 a1) 43 a2) 44 v8) 46 a2) 36 v20) 40 v22) 42 v25) 45 v27) 11 v20) 12 v25) 47 v30) 13 v30) h31 (contX pl8 prog J 165 h.length 8 ct8 [1, 1, 1, 1, 1] (codeOf f8) [] (RetQ prog [.tmp 8] h.length K))))))))) ∧ (Good prog J 33 [v8, (vint 1), (vint 48)] h23 fun v32 h33 =>
SameB (some B) h14 h33 ∧ (((((3 * 1 : Nat) ≤ 16777216 ∧ (3 : Nat) ≤ 16777216 ∧ List.length [(Value.slice none 0 0)] = 1) ∧ aFill (zrep [(Value.slice none 0 0)] 3) [(0, 1, a1), (1, 1, v22), (2, 1, a1)] fun c34 =>
aNewS 3 c34 h33 fun v35 h36 =>
SameB (some B) h14 h36 ∧ ((((3 * 1 : Nat) ≤ 16777216 ∧ (3 : Nat) ≤ 16777216 ∧ List.length [(vint 0)] = 1) ∧ aFill (zrep [(vint 0)] 3) [(0, 1, a2), (1, 1, v32), (2, 1, a2)] fun c37 =>
aNewS 3 c37 h36 fun v38 h39 =>
SameB (some B) h14 h39 ∧ (Hold (W prog J 165 h.length 8 (subC [1, 1, 1, 1, 1] (codeOf f8)) (RG.p (RG.p (RG.p (RG.p (RG.p (RG.p (RG.p (RG.p (RG.p (RG.p (RG.p (RG.p (RG.p (RG.p (RG.p (RG.p (RG.p (RG.p (RG.p (RG.p (RG.p (RG.p (RG.p (RG.p (RG.p (RG.p (RG.p (RG.p (RG.p (RG.mk (regs [a0, a1, a2, a3]) []) 4 v1) 8 (Value.bool false)) 25 v3) 26 a1) 27 v4) 29 a3) 30 v8) 9 v8) 31 v8) 32 v10) 10 v12) 33 v15) 34 v16) 35 v17) 37 a1) 38 v8) 39 v18) 41 a1) 43 a2) 44 v8) 46 a2) 36 v20) 40 v22) 45 v32) 11 v20) 42 v35) 12 v35) 47 v38) 13 v38) h39 (contX pl8 prog J 165 h.length 8 ct8 [1, 1, 1, 1, 1] (codeOf f8) [] (RetQ prog [.tmp 8] h.length K)))))))) ∧ ((((3 * 1 : Nat) ≤ 16777216 ∧ (3 : Nat) ≤ 16777216 ∧ List.length [(vint 0)] = 1) ∧ aFill (zrep [(vint 0)] 3) [(0, 1, a2), (1, 1, v32), (2, 1, a2)] fun c40 =>
aNewS 3 c40 h33 fun v41 h42 =>
SameB (some B) h14 h42 ∧ ((((3 * 1 : Nat) ≤ 16777216 ∧ (3 : Nat) ≤ 16777216 ∧ List.length [(Value.slice none 0 0)] = 1) ∧ aFill (zrep [(Value.slice none 0 0)] 3) [(0, 1, a1), (1, 1, v22), (2, 1, a1)] fun c43 =>
aNewS 3 c43 h42 fun v44 h45 =>
SameB (some B) h14 h45 ∧ (Hold (W prog J 165 h.length 8 (subC [1, 1, 1, 1, 1] (codeOf f8)) (RG.p (RG.p (RG.p (RG.p (RG.p (RG.p (RG.p (RG.p (RG.p (RG.p (RG.p (RG.p (RG.p (RG.p (RG.p (RG.p (RG.p (RG.p (RG.p (RG.p (RG.p (RG.p (RG.p (RG.p (RG.p (RG.p (RG.p (RG.p (RG.p (RG.mk (regs [a0, a1, a2, a3]) []) 4 v1) 8 (Value.bool false)) 25 v3) 26 a1) 27 v4) 29 a3) 30 v8) 9 v8) 31 v8) 32 v10) 10 v12) 33 v15) 34 v16) 35 v17) 37 a1) 38 v8) 39 v18) 41 a1) 43 a2) 44 v8) 46 a2) 36 v20) 40 v22) 45 v32) 11 v20) 47 v41) 42 v44) 12 v44) 13 v41) h45 (contX pl8 prog J 165 h.length 8 ct8 [1, 1, 1, 1, 1] (codeOf f8) [] (RetQ prog [.tmp 8] h.length K)))))))))))))) ∧ (Good prog J 36 [v8, v18, (vint 5)] h14 fun v46 h47 =>
SameB (some B) h14 h47 ∧ (((((3 * 4 : Nat) ≤ 16777216 ∧ (3 : Nat) ≤ 16777216 ∧ List.length [(vint 0), (vint 0), (vint 0), (Value.slice none 0 0)] = 4) ∧ aFill (zrep [(vint 0), (vint 0), (vint 0), (Value.slice none 0 0)] 3) [(0, 4, v15), (4, 4, v16), (8, 4, v17)] fun c48 =>
aNewS 3 c48 h47 fun v49 h50 =>
SameB (some B) h14 h50 ∧ (((((3 * 1 : Nat) ≤ 16777216 ∧ (3 : Nat) ≤ 16777216 ∧ List.length [(Value.slice none 0 0)] = 1) ∧ aFill (zrep [(Value.slice none 0 0)] 3) [(0, 1, a1), (1, 1, v46), (2, 1, a1)] fun c51 =>
aNewS 3 c51 h50 fun v52 h53 =>
SameB (some B) h14 h53 ∧ (Good prog J 33 [v8, (vint 1), (vint 48)] h53 fun v54 h55 =>
SameB (some B) h14 h55 ∧ ((((3 * 1 : Nat) ≤ 16777216 ∧ (3 : Nat) ≤ 16777216 ∧ List.length [(vint 0)] = 1) ∧ aFill (zrep [(vint 0)] 3) [(0, 1, a2), (1, 1, v54), (2, 1, a2)] fun c56 =>
aNewS 3 c56 h55 fun v57 h58 =>
SameB (some B) h14 h58 ∧ (Hold (W prog J 165 h.length 8 (subC [1, 1, 1, 1, 1] (codeOf f8)) (RG.p (RG.p (RG.p (RG.p (RG.p (RG.p (RG.p (RG.p (RG.p (RG.p (RG.p (RG.p (RG.p (RG.p (RG.p (RG.p (RG.p (RG.p (RG.p (RG.p (RG.p (RG.p (RG.p (RG.p (RG.p (RG.p (RG.p (RG.p (RG.p (RG.mk (regs [a0, a1, a2, a3]) []) 4 v1) 8 (Value.bool false)) 25 v3) 26 a1) 27 v4) 29 a3) 30 v8) 9 v8) 31 v8) 32 v10) 10 v12) 33 v15) 34 v16) 35 v17) 37 a1) 38 v8) 39 v18) 41 a1) 43 a2) 44 v8) 46 a2) 40 v46) 36 v49) 42 v52) 45 v54) 11 v49) 12 v52) 47 v57) 13 v57) h58 (contX pl8 prog J 165 h.length 8 ct8 [1, 1, 1, 1, 1] (codeOf f8) [] (RetQ prog [.tmp 8] h.length K))))))))) ∧ (Good prog J 33 [v8, (vint 1), (vint 48)] h50 fun v59 h60 =>
SameB (some B) h14 h60 ∧ (((((3 * 1 : Nat) ≤ 16777216 ∧ (3 : Nat) ≤ 16777216 ∧ List.length [(Value.slice none 0 0)] = 1) ∧ aFill (zrep [(Value.slice none 0 0)] 3) [(0, 1, a1), (1, 1, v46), (2, 1, a1)] fun c61 =>
aNewS 3 c61 h60 fun v62 h63 =>
SameB (some B) h14 h63 ∧ ((((3 * 1 : Nat) ≤ 16777216 ∧ (3 : Nat) ≤ 16777216 ∧ List.length [(vint 0)] = 1) ∧ aFill (zrep [(vint 0)] 3) [(0, 1, a2), (1, 1, v59), (2, 1, a2)] fun c64 =>
aNewS 3 c64 h63 fun v65 h66 =>
SameB (some B) h14 h66 ∧ (Hold (W prog J 165 h.length 8 (subC [1, 1, 1, 1, 1] (codeOf f8)) (RG.p (RG.p (RG.p (RG.p (RG.p (RG.p (RG.p (RG.p (RG.p (RG.p (RG.p (RG.p (RG.p (RG.p (RG.p (RG.p (RG.p (RG.p (RG.p (RG.p (RG.p (RG.p (RG.p (RG.p (RG.p (RG.p (RG.p (RG.p (RG.p (RG.mk (regs [a0, a1, a2, a3]) []) 4 v1) 8 (Value.bool false)) 25 v3) 26 a1) 27 v4) 29 a3) 30 v8) 9 v8) 31 v8) 32 v10) 10 v12) 33 v15) 34 v16) 35 v17) 37 a1) 38 v8) 39 v18) 41 a1) 43 a2) 44 v8) 46 a2) 40 v46) 36 v49) 45 v59) 11 v49) 42 v62) 12 v62) 47 v65) 13 v65) h66 (contX pl8 prog J 165 h.length 8 ct8 [1, 1, 1, 1, 1] (codeOf f8) [] (RetQ prog [.tmp 8] h.length K)))))))) ∧ ((((3 * 1 : Nat) ≤ 16777216 ∧ (3 : Nat) ≤ 16777216 ∧ List.length [(vint 0)] = 1) ∧ aFill (zrep [(vint 0)] 3) [(0, 1, a2), (1, 1, v59), (2, 1, a2)] fun c67 =>
aNewS 3 c67 h60 fun v68 h69 =>
SameB (some B) h14 h69 ∧ ((((3 * 1 : Nat) ≤ 16777216 ∧ (3 : Nat) ≤ 16777216 ∧ List.length [(Value.slice none 0 0)] = 1) ∧ aFill (zrep [(Value.slice none 0 0)] 3) [(0, 1, a1), (1, 1, v46), (2, 1, a1)] fun c70 =>
aNewS 3 c70 h69 fun v71 h72 =>
SameB (some B) h14 h72 ∧ (Hold (W prog J 165 h.length 8 (subC [1, 1, 1, 1, 1] (codeOf f8)) (RG.p (RG.p (RG.p (RG.p (RG.p (RG.p (RG.p (RG.p (RG.p (RG.p (RG.p (RG.p (RG.p (RG.p (RG.p (RG.p (RG.p (RG.p (RG.p (RG.p (RG.p (RG.p (RG.p (RG.p (RG.p (RG.p (RG.p (RG.p (RG.p (RG.mk (regs [a0, a1, a2, a3]) []) 4 v1) 8 (Value.bool false)) 25 v3) 26 a1) 27 v4) 29 a3) 30 v8) 9 v8) 31 v8) 32 v10) 10 v12) 33 v15) 34 v16) 35 v17) 37 a1) 38 v8) 39 v18) 41 a1) 43 a2) 44 v8) 46 a2) 40 v46) 36 v49) 45 v59) 11 v49) 47 v68) 42 v71) 12 v71) 13 v68) h72 (contX pl8 prog J 165 h.length 8 ct8 [1, 1, 1, 1, 1] (codeOf f8) [] (RetQ prog [.tmp 8] h.length K))))))))))))) ∧ ((((3 * 1 : Nat) ≤ 16777216 ∧ (3 : Nat) ≤ 16777216 ∧ List.length [(Value.slice none 0 0)] = 1) ∧ aFill (zrep [(Value.slice none 0 0)] 3) [(0, 1, a1), (1, 1, v46), (2, 1, a1)] fun c73 =>
aNewS 3 c73 h47 fun v74 h75 =>
SameB (some B) h14 h75 ∧ (((((3 * 4 : Nat) ≤ 16777216 ∧ (3 : Nat) ≤ 16777216 ∧ List.length [(vint 0), (vint 0), (vint 0), (Value.slice none 0 0)] = 4) ∧ aFill (zrep [(vint 0), (vint 0), (vint 0), (Value.slice none 0 0)] 3) [(0, 4, v15), (4, 4, v16), (8, 4, v17)] fun c76 =>
aNewS 3 c76 h75 fun v77 h78 =>
SameB (some B) h14 h78 ∧ (Good prog J 33 [v8, (vint 1), (vint 48)] h78 fun v79 h80 =>
SameB (some B) h14 h80 ∧ ((((3 * 1 : Nat) ≤ 16777216 ∧ (3 : Nat) ≤ 16777216 ∧ List.length [(vint 0)] = 1) ∧ aFill (zrep [(vint 0)] 3) [(0, 1, a2), (1, 1, v79), (2, 1, a2)] fun c81 =>
aNewS 3 c81 h80 fun v82 h83 =>
SameB (some B) h14 h83 ∧ (Hold (W prog J 165 h.length 8 (subC [1, 1, 1, 1, 1] (codeOf f8)) (RG.p (RG.p (RG.p (RG.p (RG.p (RG.p (RG.p (RG.p (RG.p (RG.p (RG.p (RG.p (RG.p (RG.p (RG.p (RG.p (RG.p (RG.p (RG.p (RG.p (RG.p (RG.p (RG.p (RG.p (RG.p (RG.p (RG.p (RG.p (RG.p (RG.mk (regs [a0, a1, a2, a3]) []) 4 v1) 8 (Value.bool false)) 25 v3) 26 a1) 27 v4) 29 a3) 30 v8) 9 v8) 31 v8) 32 v10) 10 v12) 33 v15) 34 v16) 35 v17) 37 a1) 38 v8) 39 v18) 41 a1) 43 a2) 44 v8) 46 a2) 40 v46) 42 v74) 36 v77) 45 v79) 11 v77) 12 v74) 47 v82) 13 v82) h83 (contX pl8 prog J 165 h.length 8 ct8 [1, 1, 1, 1, 1] (codeOf f8) [] (RetQ prog [.tmp 8] h.length K))))))))) ∧ (Good prog J 33 [v8, (vint 1), (vint 48)] h75 fun v84 h85 =>
SameB (some B) h14 h85 ∧ (((((3 * 4 : Nat) ≤ 16777216 ∧ (3 : Nat) ≤ 16777216 ∧ List.length [(vint 0), (vint 0), (vint 0), (Value.slice none 0 0)] = 4) ∧ aFill (zrep [(vint 0), (vint 0), (vint 0), (Value.slice none 0 0)] 3) [(0, 4, v15), (4, 4, v16), (8, 4, v17)] fun c86 =>
aNewS 3 c86 h85 fun v87 h88 =>
SameB (some B) h14 h88 ∧ ((((3 * 1 : Nat) ≤ 16777216 ∧ (3 : Nat) ≤ 16777216 ∧ List.length [(vint 0)] = 1) ∧ aFill (zrep [(vint 0)] 3) [(0, 1, a2), (1, 1, v84), (2, 1, a2)] fun c89 =>
aNewS 3 c89 h88 fun v90 h91 =>
SameB (some B) h14 h91 ∧ (Hold (W prog J 165 h.length 8 (subC [1, 1, 1, 1, 1] (codeOf f8)) (RG.p (RG.p (RG.p (RG.p (RG.p (RG.p (RG.p (RG.p (RG.p (RG.p (RG.p (RG.p (RG.p (RG.p (RG.p (RG.p (RG.p (RG.p (RG.p (RG.p (RG.p (RG.p (RG.p (RG.p (RG.p (RG.p (RG.p (RG.p (RG.p (RG.mk (regs [a0, a1, a2, a3]) []) 4 v1) 8 (Value.bool false)) 25 v3) 26 a1) 27 v4) 29 a3) 30 v8) 9 v8) 31 v8) 32 v10) 10 v12) 33 v15) 34 v16) 35 v17) 37 a1) 38 v8) 39 v18) 41 a1) 43 a2) 44 v8) 46 a2) 40 v46) 42 v74) 45 v84) 36 v87) 11 v87) 12 v74) 47 v90) 13 v90) h91 (contX pl8 prog J 165 h.length 8 ct8 [1, 1, 1, 1, 1] (codeOf f8) [] (RetQ prog [.tmp 8] h.length K)))))))) ∧ ((((3 * 1 : Nat) ≤ 16777216 ∧ (3 : Nat) ≤ 16777216 ∧ List.length [(vint 0)] = 1) ∧ aFill (zrep [(vint 0)] 3) [(0, 1, a2), (1, 1, v84), (2, 1, a2)] fun c92 =>
aNewS 3 c92 h85 fun v93 h94 =>
SameB (some B) h14 h94 ∧ ((((3 * 4 : Nat) ≤ 16777216 ∧ (3 : Nat) ≤ 16777216 ∧ List.length [(vint 0), (vint 0), (vint 0), (Value.slice none 0 0)] = 4) ∧ aFill (zrep [(vint 0), (vint 0), (vint 0), (Value.slice none 0 0)] 3) [(0, 4, v15), (4, 4, v16), (8, 4, v17)] fun c95 =>
aNewS 3 c95 h94 fun v96 h97 =>
SameB (some B) h14 h97 ∧ (Hold (W prog J 165 h.length 8 (subC [1, 1, 1, 1, 1] (codeOf f8)) (RG.p (RG.p (RG.p (RG.p (RG.p (RG.p (RG.p (RG.p (RG.p (RG.p (RG.p (RG.p (RG.p (RG.p (RG.p (RG.p (RG.p (RG.p (RG.p (RG.p (RG.p (RG.p (RG.p (RG.p (RG.p (RG.p (RG.p (RG.p (RG.p (RG.mk (regs [a0, a1, a2, a3]) []) 4 v1) 8 (Value.bool false)) 25 v3) 26 a1) 27 v4) 29 a3) 30 v8) 9 v8) 31 v8) 32 v10) 10 v12) 33 v15) 34 v16) 35 v17) 37 a1) 38 v8) 39 v18) 41 a1) 43 a2) 44 v8) 46 a2) 40 v46) 42 v74) 45 v84) 47 v93) 36 v96) 11 v96) 12 v74) 13 v93) h97 (contX pl8 prog J 165 h.length 8 ct8 [1, 1, 1, 1, 1] (codeOf f8) [] (RetQ prog [.tmp 8] h.length K))))))))))))) ∧ (Good prog J 33 [v8, (vint 1), (vint 48)] h47 fun v98 h99 =>
SameB (some B) h14 h99 ∧ (((((3 * 4 : Nat) ≤ 16777216 ∧ (3 : Nat) ≤ 16777216 ∧ List.length [(vint 0), (vint 0), (vint 0), (Value.slice none 0 0)] = 4) ∧ aFill (zrep [(vint 0), (vint 0), (vint 0), (Value.slice none 0 0)] 3) [(0, 4, v15), (4, 4, v16), (8, 4, v17)] fun c100 =>
aNewS 3 c100 h99 fun v101 h102 =>
SameB (some B) h14 h102 ∧ (((((3 * 1 : Nat) ≤ 16777216 ∧ (3 : Nat) ≤ 16777216 ∧ List.length [(Value.slice none 0 0)] = 1) ∧ aFill (zrep [(Value.slice none 0 0)] 3) [(0, 1, a1), (1, 1, v46), (2, 1, a1)] fun c103 =>
aNewS 3 c103 h102 fun v104 h105 =>
SameB (some B) h14 h105 ∧ ((((3 * 1 : Nat) ≤ 16777216 ∧ (3 : Nat) ≤ 16777216 ∧ List.length [(vint 0)] = 1) ∧ aFill (zrep [(vint 0)] 3) [(0, 1, a2), (1, 1, v98), (2, 1, a2)] fun c106 =>
aNewS 3 c106 h105 fun v107 h108 =>
SameB (some B) h14 h108 ∧ (Hold (W prog J 165 h.length 8 (subC [1, 1, 1, 1, 1] (codeOf f8)) (RG.p (RG.p (RG.p (RG.p (RG.p (RG.p (RG.p (RG.p (RG.p (RG.p (RG.p (RG.p (RG.p (RG.p (RG.p (RG.p (RG.p (RG.p (RG.p (RG.p (RG.p (RG.p (RG.p (RG.p (RG.p (RG.p (RG.p (RG.p (RG.p (RG.mk (regs [a0, a1, a2, a3]) []) 4 v1) 8 (Value.bool false)) 25 v3) 26 a1) 27 v4) 29 a3) 30 v8) 9 v8) 31 v8) 32 v10) 10 v12) 33 v15) 34 v16) 35 v17) 37 a1) 38 v8) 39 v18) 41 a1) 43 a2) 44 v8) 46 a2) 40 v46) 45 v98) 36 v101) 11 v101) 42 v104) 12 v104) 47 v107) 13 v107) h108 (contX pl8 prog J 165 h.length 8 ct8 [1, 1, 1, 1, 1] (codeOf f8) [] (RetQ prog [.tmp 8] h.length K)))))))) ∧ ((((3 * 1 : Nat) ≤ 16777216 ∧ (3 : Nat) ≤ 16777216 ∧ List.length [(vint 0)] = 1) ∧ aFill (zrep [(vint 0)] 3) [(0, 1, a2), (1, 1, v98), (2, 1, a2)] fun c109 =>
aNewS 3 c109 h102 fun v110 h111 =>
SameB (some B) h14 h111 ∧ ((((3 * 1 : Nat) ≤ 16777216 ∧ (3 : Nat) ≤ 16777216 ∧ List.length [(Value.slice none 0 0)] = 1) ∧ aFill (zrep [(Value.slice none 0 0)] 3) [(0, 1, a1), (1, 1, v46), (2, 1, a1)] fun c112 =>
aNewS 3 c112 h111 fun v113 h114 =>
SameB (some B) h14 h114 ∧ (Hold (W prog J 165 h.length 8 (subC [1, 1, 1, 1, 1] (codeOf f8)) (RG.p (RG.p (RG.p (RG.p (RG.p (RG.p (RG.p (RG.p (RG.p (RG.p (RG.p (RG.p (RG.p (RG.p (RG.p (RG.p (RG.p (RG.p (RG.p (RG.p (RG.p (RG.p (RG.p (RG.p (RG.p (RG.p (RG.p (RG.p (RG.p (RG.mk (regs [a0, a1, a2, a3]) []) 4 v1) 8 (Value.bool false)) 25 v3) 26 a1) 27 v4) 29 a3) 30 v8) 9 v8) 31 v8) 32 v10) 10 v12) 33 v15) 34 v16) 35 v17) 37 a1) 38 v8) 39 v18) 41 a1) 43 a2) 44 v8) 46 a2) 40 v46) 45 v98) 36 v101) 11 v101) 47 v110) 42 v113) 12 v113) 13 v110) h114 (contX pl8 prog J 165 h.length 8 ct8 [1, 1, 1, 1, 1] (codeOf f8) [] (RetQ prog [.tmp 8] h.length K))))))))))) ∧ ((((3 * 1 : Nat) ≤ 16777216 ∧ (3 : Nat) ≤ 16777216 ∧ List.length [(Value.slice none 0 0)] = 1) ∧ aFill (zrep [(Value.slice none 0 0)] 3) [(0, 1, a1), (1, 1, v46), (2, 1, a1)] fun c115 =>
aNewS 3 c115 h99 fun v116 h117 =>
SameB (some B) h14 h117 ∧ (((((3 * 4 : Nat) ≤ 16777216 ∧ (3 : Nat) ≤ 16777216 ∧ List.length [(vint 0), (vint 0), (vint 0), (Value.slice none 0 0)] = 4) ∧ aFill (zrep [(vint 0), (vint 0), (vint 0), (Value.slice none 0 0)] 3) [(0, 4, v15), (4, 4, v16), (8, 4, v17)] fun c118 =>
aNewS 3 c118 h117 fun v119 h120 =>
SameB (some B) h14 h120 ∧ ((((3 * 1 : Nat) ≤ 16777216 ∧ (3 : Nat) ≤ 16777216 ∧ List.length [(vint 0)] = 1) ∧ aFill (zrep [(vint 0)] 3) [(0, 1, a2), (1, 1, v98), (2, 1, a2)] fun c121 =>
aNewS 3 c121 h120 fun v122 h123 =>
SameB (some B) h14 h123 ∧ (Hold (W prog J 165 h.length 8 (subC [1, 1, 1, 1, 1] (codeOf f8)) (RG.p (RG.p (RG.p (RG.p (RG.p (RG.p (RG.p (RG.p (RG.p (RG.p (RG.p (RG.p (RG.p (RG.p (RG.p (RG.p (RG.p (RG.p (RG.p (RG.p (RG.p (RG.p (RG.p (RG.p (RG.p (RG.p (RG.p (RG.p (RG.p (RG.mk (regs [a0, a1, a2, a3]) []) 4 v1) 8 (Value.bool false)) 25 v3) 26 a1) 27 v4) 29 a3) 30 v8) 9 v8) 31 v8) 32 v10) 10 v12) 33 v15) 34 v16) 35 v17) 37 a1) 38 v8) 39 v18) 41 a1) 43 a2) 44 v8) 46 a2) 40 v46) 45 v98) 42 v116) 36 v119) 11 v119) 12 v116) 47 v122) 13 v122) h123 (contX pl8 prog J 165 h.length 8 ct8 [1, 1, 1, 1, 1] (codeOf f8) [] (RetQ prog [.tmp 8] h.length K)))))))) ∧ ((((3 * 1 : Nat) ≤ 16777216 ∧ (3 : Nat) ≤ 16777216 ∧ List.length [(vint 0)] = 1) ∧ aFill (zrep [(vint 0)] 3) [(0, 1, a2), (1, 1, v98), (2, 1, a2)] fun c124 =>
aNewS 3 c124 h117 fun v125 h126 =>
SameB (some B) h14 h126 ∧ ((((3 * 4 : Nat) ≤ 16777216 ∧ (3 : Nat) ≤ 16777216 ∧ List.length [(vint 0), (vint 0), (vint 0), (Value.slice none 0 0)] = 4) ∧ aFill (zrep [(vint 0), (vint 0), (vint 0), (Value.slice none 0 0)] 3) [(0, 4, v15), (4, 4, v16), (8, 4, v17)] fun c127 =>
aNewS 3 c127 h126 fun v128 h129 =>
SameB (some B) h14 h129 ∧ (Hold (W prog J 165 h.length 8 (subC [1, 1, 1, 1, 1] (codeOf f8)) (RG.p (RG.p (RG.p (RG.p (RG.p (RG.p (RG.p (RG.p (RG.p (RG.p (RG.p (RG.p (RG.p (RG.p (RG.p (RG.p (RG.p (RG.p (RG.p (RG.p (RG.p (RG.p (RG.p (RG.p (RG.p (RG.p (RG.p (RG.p (RG.p (RG.mk (regs [a0, a1, a2, a3]) []) 4 v1) 8 (Value.bool false)) 25 v3) 26 a1) 27 v4) 29 a3) 30 v8) 9 v8) 31 v8) 32 v10) 10 v12) 33 v15) 34 v16) 35 v17) 37 a1) 38 v8) 39 v18) 41 a1) 43 a2) 44 v8) 46 a2) 40 v46) 45 v98) 42 v116) 47 v125) 36 v128) 11 v128) 12 v116) 13 v125) h129 (contX pl8 prog J 165 h.length 8 ct8 [1, 1, 1, 1, 1] (codeOf f8) [] (RetQ prog [.tmp 8] h.length K))))))))))) ∧ ((((3 * 1 : Nat) ≤ 16777216 ∧ (3 : Nat) ≤ 16777216 ∧ List.length [(vint 0)] = 1) ∧ aFill (zrep [(vint 0)] 3) [(0, 1, a2), (1, 1, v98), (2, 1, a2)] fun c130 =>
aNewS 3 c130 h99 fun v131 h132 =>
SameB (some B) h14 h132 ∧ (((((3 * 4 : Nat) ≤ 16777216 ∧ (3 : Nat) ≤ 16777216 ∧ List.length [(vint 0), (vint 0), (vint 0), (Value.slice none 0 0)] = 4) ∧ aFill (zrep [(vint 0), (vint 0), (vint 0), (Value.slice none 0 0)] 3) [(0, 4, v15), (4, 4, v16), (8, 4, v17)] fun c133 =>
aNewS 3 c133 h132 fun v134 h135 =>
SameB (some B) h14 h135 ∧ ((((3 * 1 : Nat) ≤ 16777216 ∧ (3 : Nat) ≤ 16777216 ∧ List.length [(Value.slice none 0 0)] = 1) ∧ aFill (zrep [(Value.slice none 0 0)] 3) [(0, 1, a1), (1, 1, v46), (2, 1, a1)] fun c136 =>
aNewS 3 c136 h135 fun v137 h138 =>
SameB (some B) h14 h138 ∧ (Hold (W prog J 165 h.length 8 (subC [1, 1, 1, 1, 1] (codeOf f8)) (RG.p (RG.p (RG.p (RG.p (RG.p (RG.p (RG.p (RG.p (RG.p (RG.p (RG.p (RG.p (RG.p (RG.p (RG.p (RG.p (RG.p (RG.p (RG.p (RG.p (RG.p (RG.p (RG.p (RG.p (RG.p (RG.p (RG.p (RG.p (RG.p (RG.mk (regs [a0, a1, a2, a3]) []) 4 v1) 8 (Value.bool false)) 25 v3) 26 a1) 27 v4) 29 a3) 30 v8) 9 v8) 31 v8) 32 v10) 10 v12) 33 v15) 34 v16) 35 v17) 37 a1) 38 v8) 39 v18) 41 a1) 43 a2) 44 v8) 46 a2) 40 v46) 45 v98) 47 v131) 36 v134) 11 v134) 42 v137) 12 v137) 13 v131) h138 (contX pl8 prog J 165 h.length 8 ct8 [1, 1, 1, 1, 1] (codeOf f8) [] (RetQ prog [.tmp 8] h.length K)))))))) ∧ ((((3 * 1 : Nat) ≤ 16777216 ∧ (3 : Nat) ≤ 16777216 ∧ List.length [(Value.slice none 0 0)] = 1) ∧ aFill (zrep [(Value.slice none 0 0)] 3) [(0, 1, a1), (1, 1, v46), (2, 1, a1)] fun c139 =>
aNewS 3 c139 h132 fun v140 h141 =>
SameB (some B) h14 h141 ∧ ((((3 * 4 : Nat) ≤ 16777216 ∧ (3 : Nat) ≤ 16777216 ∧ List.length [(vint 0), (vint 0), (vint 0), (Value.slice none 0 0)] = 4) ∧ aFill (zrep [(vint 0), (vint 0), (vint 0), (Value.slice none 0 0)] 3) [(0, 4, v15), (4, 4, v16), (8, 4, v17)] fun c142 =>
aNewS 3 c142 h141 fun v143 h144 =>
SameB (some B) h14 h144 ∧ (Hold (W prog J 165 h.length 8 (subC [1, 1, 1, 1, 1] (codeOf f8)) (RG.p (RG.p (RG.p (RG.p (RG.p (RG.p (RG.p (RG.p (RG.p (RG.p (RG.p (RG.p (RG.p (RG.p (RG.p (RG.p (RG.p (RG.p (RG.p (RG.p (RG.p (RG.p (RG.p (RG.p (RG.p (RG.p (RG.p (RG.p (RG.p (RG.mk (regs [a0, a1, a2, a3]) []) 4 v1) 8 (Value.bool false)) 25 v3) 26 a1) 27 v4) 29 a3) 30 v8) 9 v8) 31 v8) 32 v10) 10 v12) 33 v15) 34 v16) 35 v17) 37 a1) 38 v8) 39 v18) 41 a1) 43 a2) 44 v8) 46 a2) 40 v46) 45 v98) 47 v131) 42 v140) 36 v143) 11 v143) 12 v140) 13 v131) h144 (contX pl8 prog J 165 h.length 8 ct8 [1, 1, 1, 1, 1] (codeOf f8) [] (RetQ prog [.tmp 8] h.length K)))))))))))))))))))))) := top_eq pok8 ct8 (by kernel_rfl)
end
end Go.Proofs.Ytindillghipjjaa
namespace Go.Proofs.Ytindillghipjjaa
open Go.Conc Go.Proofs.Try
set_option maxRecDepth 100000
structure In8 (H0 : List AObj) (p11 p12 p13 i : Nat) (t : Tro) (fv sv : Value) (cs : List Int) (n : Int) : Prop where
  h11 : ∃ cells, H0[p11]? = some (.cells cells true 0) ∧ cells.length = 12 ∧ (cells.drop (i * 4)).take 4 = troCells t fv
  h12 : ∃ sc, H0[p12]? = some (.cells sc true 0) ∧ sc[i]? = some sv
  h13 : ∃ nc, H0[p13]? = some (.cells nc true 0) ∧ nc[i]? = some (vint n)
  hi : i < 3
  tx : TroAt H0 (.agg ⟨troCells t fv⟩) t fv
  ty : Sli H0 sv 1 cs.length (cs.map vint)
  b1 : t.flocks.length ≤ 20
  b2 : cs.length ≤ 20
structure Own8 (H : List AObj) (p15 : Nat) (t : Tro) (fv' w : Value) (cs : List Int) : Prop where
  c : H[p15]? = some (.cells (troCells t fv') true 0)
  to : TroAt H (.agg ⟨troCells t fv'⟩) t fv'
  so : Sli H w 1 cs.length (cs.map vint)
theorem Own8.same {H H' : List AObj} {p15 : Nat} {t : Tro} {fv' w : Value} {cs : List Int} (a : Own8 H p15 t fv' w cs) (S : SameX [] H H') : Own8 H' p15 t fv' w cs := ⟨S.get a.c (by simp), troAt_same a.to S (by simp), S.sli a.so (by simp)⟩
structure R8 (p11 p12 p13 p15 i : Nat) (w : Value) (F : RG) : Prop where
  ds : F.ds = []
  r11 : F.r 11 = .slice (some ⟨p11, 0, none⟩) 3 3
  r12 : F.r 12 = .slice (some ⟨p12, 0, none⟩) 3 3
  r13 : F.r 13 = .slice (some ⟨p13, 0, none⟩) 3 3
  r14 : F.r 14 = vint (i : Nat)
  r15 : F.r 15 = ptr p15 0
  r16 : F.r 16 = w
section
variable {main : Bool} {J : JT} {h H H0 : List AObj} {K : Value → List AObj → Prop} {n0 : Nat} {nx0 : RG → List AObj → Prop}
variable {p11 p12 p13 p15 i : Nat} {t : Tro} {fv fv' sv w : Value} {cs : List Int} {n : Int} {F : RG}
theorem In8.x (I : In8 H0 p11 p12 p13 i t fv sv cs n) {KI : Value → Value → Prop} (S : SameX [] H0 H) (hk : ∀ o, KI (ptr p11 o) (.agg ⟨troCells t fv⟩)) : aIdx 4 (.slice (some ⟨p11, 0, none⟩) 3 3) (vint (i : Nat)) fun v => aLoad true 4 v H (KI v) := by
  obtain ⟨cells, h1, h2, h3⟩ := I.h11
  have hi := I.hi
  refine idxI ⟨by omega, by omega⟩ ?_
  rw [Int.toNat_natCast, Nat.zero_add]
  exact load_part (c := troCells t fv) (S.get h1 (by simp)) (by omega) h3 (tro_kn I.tx) (hk _)
theorem In8.y (I : In8 H0 p11 p12 p13 i t fv sv cs n) {KI : Value → Value → Prop} (S : SameX [] H0 H) (hk : ∀ o, KI (ptr p12 o) sv) : aIdx 1 (.slice (some ⟨p12, 0, none⟩) 3 3) (vint (i : Nat)) fun v => aLoad false 1 v H (KI v) := by
  obtain ⟨sc, h1, h2⟩ := I.h12
  have hi := I.hi
  refine idxI ⟨by omega, by omega⟩ ?_
  rw [Int.toNat_natCast, Nat.zero_add, Nat.mul_one]
  exact ldI (S.get h1 (by simp)) h2 (sli_val I.ty).2.2 (hk _)
theorem In8.z (I : In8 H0 p11 p12 p13 i t fv sv cs n) {KI : Value → Value → Prop} (S : SameX [] H0 H) (hk : ∀ o, KI (ptr p13 o) (vint n)) : aIdx 1 (.slice (some ⟨p13, 0, none⟩) 3 3) (vint (i : Nat)) fun v => aLoad false 1 v H (KI v) := by
  obtain ⟨sc, h1, h2⟩ := I.h13
  have hi := I.hi
  refine idxI ⟨by omega, by omega⟩ ?_
  rw [Int.toNat_natCast, Nat.zero_add, Nat.mul_one]
  exact ldI (S.get h1 (by simp)) h2 rfl (hk _)
theorem same28' (hJ : Closed prog main J) {av bv : Value} {l : List Int} (ha : Sli H av 1 l.length (l.map vint)) (hb : Sli H bv 1 l.length (l.map vint)) (hl : l.length < 1000000) (hK : K (.bool true) H) : Good prog J 28 [av, bv] H K :=
  good28 hJ ha hb (by omega) (by rw [decide_eq_true rfl]; exact hK)
end
section
variable {W0 : World} {Post : Value → World → Prop} {h H : List AObj} {K : Value → List AObj → Prop} {n0 : Nat}
def B3 (hb : Nat) (H : List AObj) (v : Value) (c : List Value) : Prop := ∃ p, v = .slice (some ⟨p, 0, none⟩) 3 3 ∧ p ≠ hb ∧ H[p]? = some (.cells c true 0)
theorem B3.same {hb : Nat} {H H' : List AObj} {v : Value} {c : List Value} (a : B3 hb H v c) (S : SameX [hb] H H') : B3 hb H' v c := by
  obtain ⟨p, h1, h2, h3⟩ := a
  exact ⟨p, h1, h2, S.get h3 (by simpa using h2)⟩
def BR (hb : Nat) (H : List AObj) (w : Value) (r : List Int) : Prop := r.length ≤ 20 ∧ ∃ o, OwnX H 1 (r.map vint) r.length w o ∧ ∀ i, o = some i → hb < i
theorem BR.same {hb : Nat} {H H' : List AObj} {w : Value} {r : List Int} (a : BR hb H w r) (S : SameX [hb] H H') : BR hb H' w r := by
  obtain ⟨h1, o, h2, h3⟩ := a
  exact ⟨h1, o, ownX_keep h2 S (fun i hi => by have := h3 i hi; simp; omega), h3⟩
structure K8 (Hb Hs : List AObj) (ns : List Int) (P : List AObj → Prop) (H : List AObj) (k : Nat) : Prop where
  hx : HX Hb H ns k
  S : SameX [Hb.length] Hs H
  p : P H
  st : ∀ A B, SameX [Hb.length] A B → P A → P B
theorem K8.step {Hb Hs : List AObj} {ns : List Int} {P Q : List AObj → Prop} {H H' : List AObj} {k k' : Nat} (a : K8 Hb Hs ns P H k) (S : SameX [Hb.length] H H') (hx : HX Hb H' ns k') (q : Q H') (hq : ∀ A B, SameX [Hb.length] A B → Q A → Q B) : K8 Hb Hs ns (fun H => P H ∧ Q H) H' k' :=
  ⟨hx, a.S.trans S, ⟨a.st _ _ S a.p, q⟩, fun A B S h => ⟨a.st A B S h.1, hq A B S h.2⟩⟩
end
def rotaL (t : Tro) : List Int := (rotaA t).getD []
theorem rotaL_few (t : Tro) : (rotaL t).length ≤ 5 := by
  unfold rotaL rotaA
  split
  · cases e : rotF t with
    | none => exact Nat.zero_le _
    | some r => exact (rotF_is e).2.len.2
  · exact Nat.zero_le _
theorem found_sli {n : Nat} {H : List AObj} {v : Value} {t : Tro} (a : Found n H v (rotaA t)) : Sli H v 1 (rotaL t).length ((rotaL t).map vint) := by
  unfold rotaL
  cases e : rotaA t with
  | none =>
    rw [e] at a
    have hv : v = .slice none 0 0 := a
    rw [hv]
    exact sli_nil
  | some r =>
    rw [e] at a
    obtain ⟨o, O, _⟩ := a
    exact ownX_sli O
theorem gapsA_few (t : Tro) (r : List Int) : (gapsA t r).length ≤ t.flocks.length := by
  unfold gapsA
  split
  · simp [gapsTo]
  · exact Nat.zero_le _
theorem unfA_few (t : Tro) (r : List Int) : (unfA t r).length ≤ t.flocks.length := by
  unfold unfA unfL unfTo
  split
  · rw [List.length_map]
    have := List.length_filter_le (fun (i : Nat) => decide (gapR r i = 0 ∨ gapR r i > (droAt t i).every)) (List.range t.flocks.length)
    rw [List.length_range] at this
    exact this
  · exact Nat.zero_le _
theorem tradRow_two {t : Tro} {r : List Int} {i k : Nat} : ∀ l ∈ tradRow t r i k, l.length = 2 := by
  induction k with
  | zero => intro l hl; cases hl
  | succ k ih =>
    intro l hl
    unfold tradRow at hl
    rcases List.mem_append.1 hl with hl | hl
    · exact ih l hl
    · split at hl
      · rw [List.mem_singleton.1 hl]
        rfl
      · cases hl
theorem tradTo_two {t : Tro} {r : List Int} {i : Nat} : ∀ l ∈ tradTo t r i, l.length = 2 := by
  induction i with
  | zero => intro l hl; cases hl
  | succ i ih =>
    intro l hl
    unfold tradTo at hl
    rcases List.mem_append.1 hl with hl | hl
    · exact ih l hl
    · exact tradRow_two l hl
theorem tradA_two {t : Tro} {r : List Int} : ∀ l ∈ tradA t r, l.length = 2 := by
  intro l hl
  unfold tradA at hl
  split at hl
  · exact tradTo_two l hl
  · cases hl
theorem tradE_zero {t : Tro} {r : List Int} (h : tradE t r = 0) : rotaE t r = 0 ∧ goodB t r = true := by
  unfold tradE at h
  by_cases e : rotaE t r = 0
  · rw [if_neg (not_not_intro e)] at h
    split at h
    · rename_i g
      exact ⟨e, g⟩
    · cases h
  · rw [if_pos e] at h
    exact absurd h e
theorem tradA_few (t : Tro) (r : List Int) : (tradA t r).length ≤ 30 := by
  unfold tradA
  split
  · rename_i h
    have g := (rotaE_fine (tradE_zero h).1).2
    have h1 := tradTo_few (t := t) (r := r) (i := r.length)
    have h3 := g.len.2
    have : r.length * r.length ≤ 5 * 5 := Nat.mul_le_mul h3 h3
    omega
  · exact Nat.zero_le _
structure In16 (H0 : List AObj) (p11 p12 i : Nat) (t : Tro) (fv sv : Value) (cs : List Int) : Prop where
  h11 : ∃ cells, H0[p11]? = some (.cells cells true 0) ∧ cells.length = 16 ∧ (cells.drop (i * 4)).take 4 = troCells t fv
  h12 : ∃ sc, H0[p12]? = some (.cells sc true 0) ∧ sc[i]? = some sv
  hi : i < 4
  tx : TroAt H0 (.agg ⟨troCells t fv⟩) t fv
  ty : Sli H0 sv 1 cs.length (cs.map vint)
  b1 : t.flocks.length ≤ 20
  b2 : cs.length ≤ 20
structure R16 (p11 p12 p14 i : Nat) (w : Value) (F : RG) : Prop where
  ds : F.ds = []
  r11 : F.r 11 = .slice (some ⟨p11, 0, none⟩) 4 4
  r12 : F.r 12 = .slice (some ⟨p12, 0, none⟩) 4 4
  r13 : F.r 13 = vint (i : Nat)
  r14 : F.r 14 = ptr p14 0
  r15 : F.r 15 = w
section
variable {main : Bool} {J : JT} {h H H0 : List AObj} {K : Value → List AObj → Prop} {n0 : Nat} {nx0 : RG → List AObj → Prop}
variable {p11 p12 p14 i : Nat} {t : Tro} {fv fv' sv w : Value} {cs : List Int} {F : RG}
theorem In16.x (I : In16 H0 p11 p12 i t fv sv cs) {KI : Value → Value → Prop} (S : SameX [] H0 H) (hk : ∀ o, KI (ptr p11 o) (.agg ⟨troCells t fv⟩)) : aIdx 4 (.slice (some ⟨p11, 0, none⟩) 4 4) (vint (i : Nat)) fun v => aLoad true 4 v H (KI v) := by
  obtain ⟨cells, h1, h2, h3⟩ := I.h11
  have hi := I.hi
  refine idxI ⟨by omega, by omega⟩ ?_
  rw [Int.toNat_natCast, Nat.zero_add]
  exact load_part (c := troCells t fv) (S.get h1 (by simp)) (by omega) h3 (tro_kn I.tx) (hk _)
theorem In16.y (I : In16 H0 p11 p12 i t fv sv cs) {KI : Value → Value → Prop} (S : SameX [] H0 H) (hk : ∀ o, KI (ptr p12 o) sv) : aIdx 1 (.slice (some ⟨p12, 0, none⟩) 4 4) (vint (i : Nat)) fun v => aLoad false 1 v H (KI v) := by
  obtain ⟨sc, h1, h2⟩ := I.h12
  have hi := I.hi
  refine idxI ⟨by omega, by omega⟩ ?_
  rw [Int.toNat_natCast, Nat.zero_add, Nat.mul_one]
  exact ldI (S.get h1 (by simp)) h2 (sli_val I.ty).2.2 (hk _)
theorem body16_7 (hJ : Closed prog main J) {L1 L2 : List Int} {L3 : List (List Int)} {n1 n2 : Nat} {o1 o2 : Option Nat} {v16 v18 v20 v22 v28 v30 : Value} {e1 e2 e3 e4 e5 : Int} (I : In16 H0 p11 p12 i t fv sv cs) (S : SameX [] H0 H) (O : Own8 H p14 t fv' w cs) (R : R16 p11 p12 p14 i w F)
    (l1 : L1.length ≤ 48) (l2 : L2.length ≤ 48) (l3 : L3.length ≤ 48) (m3 : ∀ l ∈ L3, l.length = 2) (s16 : Sli H v16 1 L1.length (L1.map vint)) (s18 : Sli H v18 1 L1.length (L1.map vint)) (s20 : Sli H v20 1 L2.length (L2.map vint)) (s22 : Sli H v22 1 L2.length (L2.map vint))
    (s28 : OwnL n1 H v28 L3 o1) (s30 : OwnL n2 H v30 L3 o2)
    (q16 : F.r 16 = v16) (q17 : F.r 17 = vint e1) (q18 : F.r 18 = v18) (q19 : F.r 19 = vint e1) (q20 : F.r 20 = v20) (q21 : F.r 21 = vint e2) (q22 : F.r 22 = v22) (q23 : F.r 23 = vint e2)
    (q24 : F.r 24 = vint e3) (q25 : F.r 25 = vint e4) (q26 : F.r 26 = vint e3) (q27 : F.r 27 = vint e4) (q28 : F.r 28 = v28) (q29 : F.r 29 = vint e5) (q30 : F.r 30 = v30) (q31 : F.r 31 = vint e5)
    (hnx : ∀ F' H', SameX [] H H' → F'.ds = [] → F'.r 11 = .slice (some ⟨p11, 0, none⟩) 4 4 → F'.r 12 = .slice (some ⟨p12, 0, none⟩) 4 4 → F'.r 13 = vint ((i + 1 : Nat) : Int) → nx0 F' H') :
    W prog J 205 n0 16 (subC [1, 1, 1, 1, 1, 1, 0, 1, 0, 0, 1, 0, 0, 1, 1, 1, 1, 1, 1, 1, 1, 1] (codeOf f16)) F H (contX pl16 prog J 205 n0 16 ct16 [1, 1, 1, 1, 1, 1, 0, 1, 0, 0, 1, 0, 0, 1, 1, 1, 1, 1, 1, 1, 1, 1] (codeOf f16) [nx0] (RetQ prog [.tmp 6] n0 K)) := by
  rw [s16_7, R.r11, R.r12, R.r13, R.r14, R.r15, q16, q17, q18, q19, q20, q21, q22, q23, q24, q25, q26, q27, q28, q29, q30, q31]
  have hb1 := I.b1
  have hb2 := I.b2
  have hi := I.hi
  have ko : kn (troCells t fv') = true := tro_kn O.to
  have tx := troAt_same I.tx S (by simp)
  have l14 := lt_of_get O.c
  obtain ⟨xc, hx1, _⟩ := I.h11
  obtain ⟨yc, hy1, _⟩ := I.h12
  have l11 := lt_of_get (S.get hx1 (by simp))
  have l12 := lt_of_get (S.get hy1 (by simp))
  have sb : ∀ {H''}, SameX [] H H'' → SameB (some [p14, p11, p12]) H H'' := fun S'' b hb => S''.2 b (by
    simp at hb
    rcases hb with rfl | rfl | rfl <;> omega) (by simp)
  refine ⟨[p14, p11, p12], ?_⟩
  refine neqI (cndI (fun hx => absurd rfl hx) fun _ => neqI (cndI (fun hx => absurd rfl hx) fun _ => neqI (cndI (fun hx => absurd rfl hx) fun _ => neqI (cndI (fun hx => absurd rfl hx) fun _ => neqI (cndI (fun hx => absurd rfl hx) fun _ => ?_)))))
  refine same28' hJ s16 s18 (by omega) ⟨sb SameX.refl, notI (cnd_false.2 ?_)⟩
  refine same28' hJ s20 s22 (by omega) ⟨sb SameX.refl, notI (cnd_false.2 ?_)⟩
  refine good64 hJ s28 s30 (by omega) (fun l hl => by rw [m3 l hl]; decide) ⟨sb SameX.refl, notI (cnd_false.2 ?_)⟩
  refine load_part (c := troCells t fv') O.c (by simp [troCells]) rfl ko ⟨by simp [RdOk, ptr, ptrBlk], ?_⟩
  refine I.x S fun o => ⟨by simp [RdOk, ptr, ptrBlk], ?_⟩
  refine good29 hJ O.to tx (by omega) fun H4 S4 => ⟨sb S4, notI (cnd_false.2 ?_)⟩
  refine I.y (S.trans S4) fun o => ⟨by simp [RdOk, ptr, ptrBlk], ?_⟩
  refine same28' hJ (O.same S4).so ((S.trans S4).sli I.ty (by simp)) (by omega) ⟨sb S4, notI (hold.2 ?_)⟩
  rw [s16_8]
  show cnd (.bool false) _ _
  refine cnd_false.2 ?_
  show aBin prog .add 3 (F.r 13) (vint 1) _
  rw [R.r13]
  refine addI (by omega) ?_
  exact hnx _ H4 S4 R.ds R.r11 R.r12 (by show vint _ = vint _; congr 1)
theorem body16_3 (hJ : Closed prog main J) (I : In16 H0 p11 p12 i t fv sv cs) (S : SameX [] H0 H) (O : Own8 H p14 t fv' w cs) (R : R16 p11 p12 p14 i w F)
    (hnx : ∀ F' H', SameX [] H H' → F'.ds = [] → F'.r 11 = .slice (some ⟨p11, 0, none⟩) 4 4 → F'.r 12 = .slice (some ⟨p12, 0, none⟩) 4 4 → F'.r 13 = vint ((i + 1 : Nat) : Int) → nx0 F' H') :
    W prog J 205 n0 16 (subC [1, 1, 1, 1, 1, 1, 0, 1, 0, 0, 1, 0, 0, 1] (codeOf f16)) F H (contX pl16 prog J 205 n0 16 ct16 [1, 1, 1, 1, 1, 1, 0, 1, 0, 0, 1, 0, 0, 1] (codeOf f16) [nx0] (RetQ prog [.tmp 6] n0 K)) := by
  have hb1 := I.b1
  have hg := gapsA_few t cs
  have hu := unfA_few t cs
  have ht := tradA_few t cs
  rw [s16_3, R.r11, R.r12, R.r13, R.r14, R.r15]
  refine load_part (c := troCells t fv') O.c (by simp [troCells]) rfl (tro_kn O.to) ?_
  refine good53 hJ O.to O.so (by omega) fun H2 a2 S2 A2 => vext0 (vext1 ?_)
  have T2 := S.trans S2
  refine I.x T2 fun _ => I.y T2 fun _ => ?_
  refine good60 hJ (troAt_same I.tx T2 (by simp)) (T2.sli I.ty (by simp)) (by omega) fun H3 b3 S3 B3 => vext0 (vext1 (hold.2 ?_))
  have T3 := T2.trans S3
  have Q3 := S2.trans S3
  have O3 := O.same Q3
  generalize hF3 : RG.p _ 19 _ = F3
  have R3 : R16 p11 p12 p14 i w F3 := by subst hF3; exact ⟨R.ds, R.r11, R.r12, R.r13, R.r14, R.r15⟩
  have q16 : F3.r 16 = a2 := by subst hF3; rfl
  have q17 : F3.r 17 = vint (rotaE t cs) := by subst hF3; rfl
  have q18 : F3.r 18 = b3 := by subst hF3; rfl
  have q19 : F3.r 19 = vint (rotaE t cs) := by subst hF3; rfl
  clear hF3
  rw [s16_4, R3.r11, R3.r12, R3.r13, R3.r14, R3.r15]
  refine load_part (c := troCells t fv') O3.c (by simp [troCells]) rfl (tro_kn O3.to) ?_
  refine good52 hJ O3.to O3.so (by omega) fun H4 a4 S4 A4 => vext0 (vext1 ?_)
  have T4 := T3.trans S4
  refine I.x T4 fun _ => I.y T4 fun _ => ?_
  refine good61 hJ (troAt_same I.tx T4 (by simp)) (T4.sli I.ty (by simp)) (by omega) fun H5 b5 S5 B5 => vext0 (vext1 (hold.2 ?_))
  have T5 := T4.trans S5
  have Q5 := S4.trans S5
  have O5 := O3.same Q5
  generalize hF5 : RG.p _ 23 _ = F5
  have R5 : R16 p11 p12 p14 i w F5 := by subst hF5; exact ⟨R3.ds, R3.r11, R3.r12, R3.r13, R3.r14, R3.r15⟩
  have q16 : F5.r 16 = a2 := by subst hF5; exact q16
  have q17 : F5.r 17 = vint (rotaE t cs) := by subst hF5; exact q17
  have q18 : F5.r 18 = b3 := by subst hF5; exact q18
  have q19 : F5.r 19 = vint (rotaE t cs) := by subst hF5; exact q19
  have q20 : F5.r 20 = a4 := by subst hF5; rfl
  have q21 : F5.r 21 = vint (rotaE t cs) := by subst hF5; rfl
  have q22 : F5.r 22 = b5 := by subst hF5; rfl
  have q23 : F5.r 23 = vint (rotaE t cs) := by subst hF5; rfl
  clear hF5
  rw [s16_5, R5.r11, R5.r12, R5.r13, R5.r14, R5.r15]
  refine load_part (c := troCells t fv') O5.c (by simp [troCells]) rfl (tro_kn O5.to) ?_
  refine good38 hJ O5.to O5.so (by omega) fun H6 S6 => vext0 (vext1 ?_)
  have T6 := T5.trans S6
  refine I.x T6 fun _ => I.y T6 fun _ => ?_
  refine good62 hJ (troAt_same I.tx T6 (by simp)) (T6.sli I.ty (by simp)) (by omega) fun H7 S7 => vext0 (vext1 (hold.2 ?_))
  have T7 := T6.trans S7
  have Q7 := S6.trans S7
  have O7 := O5.same Q7
  generalize hF7 : RG.p _ 27 _ = F7
  have R7 : R16 p11 p12 p14 i w F7 := by subst hF7; exact ⟨R5.ds, R5.r11, R5.r12, R5.r13, R5.r14, R5.r15⟩
  have q16 : F7.r 16 = a2 := by subst hF7; exact q16
  have q17 : F7.r 17 = vint (rotaE t cs) := by subst hF7; exact q17
  have q18 : F7.r 18 = b3 := by subst hF7; exact q18
  have q19 : F7.r 19 = vint (rotaE t cs) := by subst hF7; exact q19
  have q20 : F7.r 20 = a4 := by subst hF7; exact q20
  have q21 : F7.r 21 = vint (rotaE t cs) := by subst hF7; exact q21
  have q22 : F7.r 22 = b5 := by subst hF7; exact q22
  have q23 : F7.r 23 = vint (rotaE t cs) := by subst hF7; exact q23
  have q24 : F7.r 24 = vint (lastA t cs) := by subst hF7; rfl
  have q25 : F7.r 25 = vint (lastE t cs) := by subst hF7; rfl
  have q26 : F7.r 26 = vint (lastA t cs) := by subst hF7; rfl
  have q27 : F7.r 27 = vint (lastE t cs) := by subst hF7; rfl
  clear hF7
  rw [s16_6, R7.r11, R7.r12, R7.r13, R7.r14, R7.r15]
  refine load_part (c := troCells t fv') O7.c (by simp [troCells]) rfl (tro_kn O7.to) ?_
  refine good59 hJ O7.to O7.so (by omega) fun H8 a8 S8 A8 _ => vext0 (vext1 ?_)
  have T8 := T7.trans S8
  refine I.x T8 fun _ => I.y T8 fun _ => ?_
  refine good63 hJ (troAt_same I.tx T8 (by simp)) (T8.sli I.ty (by simp)) (by omega) fun H9 b9 S9 B9 _ => vext0 (vext1 (hold.2 ?_))
  have T9 := T8.trans S9
  have Q9 := S8.trans S9
  obtain ⟨o1, A8⟩ := A8
  obtain ⟨o2, B9⟩ := B9
  exact body16_7 hJ I T9 (O7.same Q9) ⟨R7.ds, R7.r11, R7.r12, R7.r13, R7.r14, R7.r15⟩ (by omega) (by omega) (by omega) tradA_two
    ((S3.trans ((Q5.trans Q7).trans Q9)).sli A2 (by simp)) (((Q5.trans Q7).trans Q9).sli B3 (by simp)) ((S5.trans (Q7.trans Q9)).sli A4 (by simp)) ((Q7.trans Q9).sli B5 (by simp)) (A8.keep S9) B9
    q16 q17 q18 q19 q20 q21 q22 q23 q24 q25 q26 q27 rfl rfl rfl rfl fun F' H' S' => hnx F' H' (((Q3.trans Q5).trans (Q7.trans Q9)).trans S')
end
theorem tf16 {z0 z1 z2 z3 a0 a1 a2 a3 b0 b1 b2 b3 c0 c1 c2 c3 d0 d1 d2 d3 : Value} :
    wrAt (wrAt (wrAt (wrAt (zrep [z0, z1, z2, z3] 4) 0 [a0, a1, a2, a3]) 4 [b0, b1, b2, b3]) 8 [c0, c1, c2, c3]) 12 [d0, d1, d2, d3] = [a0, a1, a2, a3, b0, b1, b2, b3, c0, c1, c2, c3, d0, d1, d2, d3] := by kernel_rfl
theorem tz16 {z0 z1 z2 z3 : Value} : (zrep [z0, z1, z2, z3] 4).length = 16 := by kernel_rfl
theorem fillT4 {x y z u : TF} {KL : List Value → Prop} (hx : (tfC x).all one = true) (hy : (tfC y).all one = true) (hz : (tfC z).all one = true) (hu : (tfC u).all one = true) (hk : KL ([x, y, z, u].flatMap tfC)) :
    aFill (zrep [vint 0, vint 0, vint 0, .slice none 0 0] 4) [(0, 4, .agg ⟨tfC x⟩), (4, 4, .agg ⟨tfC y⟩), (8, 4, .agg ⟨tfC z⟩), (12, 4, .agg ⟨tfC u⟩)] KL := by
  unfold aFill
  refine ⟨rfl, hx, by rw [tz16]; decide, ?_⟩
  unfold aFill
  refine ⟨rfl, hy, by rw [wrAt_length, tz16]; decide, ?_⟩
  unfold aFill
  refine ⟨rfl, hz, by rw [wrAt_length, wrAt_length, tz16]; decide, ?_⟩
  unfold aFill
  refine ⟨rfl, hu, by rw [wrAt_length, wrAt_length, wrAt_length, tz16]; decide, ?_⟩
  unfold aFill
  show KL (wrAt (wrAt (wrAt (wrAt _ 0 (tfC x)) 4 (tfC y)) 8 (tfC z)) 12 (tfC u))
  unfold tfC troCells
  rw [tf16]
  exact hk
theorem t4v {z a b c d : Value} : wrAt (wrAt (wrAt (wrAt (zrep [z] 4) 0 [a]) 1 [b]) 2 [c]) 3 [d] = [a, b, c, d] := by kernel_rfl
theorem tz4 {z : Value} : (zrep [z] 4).length = 4 := by kernel_rfl
theorem fillV4 {a b c d z : Value} {KL : List Value → Prop} (ha : a.cells = #[a] ∧ one a = true) (hb : b.cells = #[b] ∧ one b = true) (hc : c.cells = #[c] ∧ one c = true) (hd : d.cells = #[d] ∧ one d = true) (hk : KL [a, b, c, d]) :
    aFill (zrep [z] 4) [(0, 1, a), (1, 1, b), (2, 1, c), (3, 1, d)] KL := by
  refine fill_one (l := [a]) (by rw [ha.1]) rfl (by simp [ha.2]) (by rw [tz4]; decide) ?_
  refine fill_one (l := [b]) (by rw [hb.1]) rfl (by simp [hb.2]) (by rw [wrAt_length, tz4]; decide) ?_
  refine fill_one (l := [c]) (by rw [hc.1]) rfl (by simp [hc.2]) (by rw [wrAt_length, wrAt_length, tz4]; decide) ?_
  refine fill_one (l := [d]) (by rw [hd.1]) rfl (by simp [hd.2]) (by rw [wrAt_length, wrAt_length, wrAt_length, tz4]; decide) ?_
  unfold aFill
  rw [t4v]
  exact hk
def B4 (hb : Nat) (H : List AObj) (v : Value) (c : List Value) : Prop := ∃ p, v = .slice (some ⟨p, 0, none⟩) 4 4 ∧ p ≠ hb ∧ H[p]? = some (.cells c true 0)
theorem B4.same {hb : Nat} {H H' : List AObj} {v : Value} {c : List Value} (a : B4 hb H v c) (S : SameX [hb] H H') : B4 hb H' v c := by
  obtain ⟨p, h1, h2, h3⟩ := a
  exact ⟨p, h1, h2, S.get h3 (by simpa using h2)⟩
section
variable {W0 : World} {Post : Value → World → Prop} {h H : List AObj} {K : Value → List AObj → Prop} {n0 : Nat}
theorem loop16 {H0 : List AObj} {p11 p12 : Nat} {xs : List TF} {ys : List (List Int × Value)} {F : RG}
    (t0 : F.ds = []) (t11 : F.r 11 = .slice (some ⟨p11, 0, none⟩) 4 4) (t12 : F.r 12 = .slice (some ⟨p12, 0, none⟩) 4 4)
    (h11 : H0[p11]? = some (.cells (xs.flatMap tfC) true 0)) (h12 : H0[p12]? = some (.cells (ys.map (·.2)) true 0)) (lx : xs.length = 4) (ly : ys.length = 4)
    (hx : ∀ x ∈ xs, TroAt H0 (.agg ⟨tfC x⟩) x.1 x.2 ∧ x.1.flocks.length ≤ 20) (hy : ∀ y ∈ ys, Sli H0 y.2 1 y.1.length (y.1.map vint) ∧ y.1.length ≤ 20) (hK : ∀ h', K (.bool true) h') :
    W prog (J1 prog W0 Post) 205 n0 16 (subC [1, 1, 1, 1, 1, 1] (codeOf f16)) F H0 (contX pl16 prog (J1 prog W0 Post) 205 n0 16 ct16 [1, 1, 1, 1, 1, 1] (codeOf f16) [] (RetQ prog [.tmp 6] n0 K)) := by
  have hJ := J1.closed prog W0 Post
  rw [s16_1]
  refine l16_2 hJ (fun i : Nat => 4 - i) (fun i f H => SameX [] H0 H ∧ i ≤ 4 ∧ f.ds = [] ∧ f.r 11 = .slice (some ⟨p11, 0, none⟩) 4 4 ∧ f.r 12 = .slice (some ⟨p12, 0, none⟩) 4 4 ∧ f.r 13 = vint (i : Nat)) ?_ (s := 0)
    (.inl ⟨SameX.refl, by omega, t0, t11, t12, rfl⟩)
  rintro i f H ⟨S, hi, ds, r11, r12, r13⟩ ok' hn'
  rw [s16_2, r11, r12, r13, ds, lenS]
  refine lssI (cndI (fun hlt => ?_) fun hge => good19 fun H3 => retL_same (by simp [unk]) (hK _))
  have hi3 : i < 4 := by omega
  obtain ⟨tx, bx⟩ := hx xs[i] (List.getElem_mem (by omega))
  obtain ⟨ty, by_⟩ := hy ys[i] (List.getElem_mem (by omega))
  have hft := flat_take tfC_len xs i (by omega)
  have hfl : (xs.flatMap tfC).length = 16 := by
    have : ∀ l : List TF, (l.flatMap tfC).length = l.length * 4 := fun l => by
      induction l with
      | nil => rfl
      | cons x l ih => rw [List.flatMap_cons, List.length_append, ih, tfC_len, List.length_cons]; omega
    rw [this, lx]
  have hyi : (ys.map (·.2))[i]? = some ys[i].2 := by rw [List.getElem?_map, List.getElem?_eq_getElem (by omega)]; rfl
  generalize xs[i] = x at *
  generalize ys[i] = y at *
  obtain ⟨t, fv⟩ := x
  obtain ⟨cs, sv⟩ := y
  dsimp only at tx bx ty by_ hyi
  have I : In16 H0 p11 p12 i t fv sv cs := ⟨⟨_, h11, hfl, hft⟩, ⟨_, h12, hyi⟩, hi3, tx, ty, bx, by_⟩
  have d11 := S.get h11 (by simp)
  have d12 := S.get h12 (by simp)
  have sb : ∀ {H''}, SameX [] H H'' → SameB (some [p11, p12]) H H'' := fun S'' b hb => S''.2 b (by
    have := lt_of_get d11
    have := lt_of_get d12
    simp at hb
    rcases hb with rfl | rfl <;> omega) (by simp)
  have txH := troAt_same I.tx S (by simp)
  have tyH := S.sli ty (by simp)
  have nx : ∀ {H2 : List AObj}, SameX [] H H2 → ∀ F' H', SameX [] H2 H' → F'.ds = [] → F'.r 11 = .slice (some ⟨p11, 0, none⟩) 4 4 → F'.r 12 = .slice (some ⟨p12, 0, none⟩) 4 4 → F'.r 13 = vint ((i + 1 : Nat) : Int) → Nx n0 (fun i : Nat => 4 - i) (fun i f H => SameX [] H0 H ∧ i ≤ 4 ∧ f.ds = [] ∧ f.r 11 = .slice (some ⟨p11, 0, none⟩) 4 4 ∧ f.r 12 = .slice (some ⟨p12, 0, none⟩) 4 4 ∧ f.r 13 = vint (i : Nat)) i F' H' :=
    fun M2 F' H' M' a b c d => ⟨i + 1, by dsimp only; omega, .inl ⟨(S.trans M2).trans M', by omega, a, b, c, d⟩⟩
  refine ⟨[p11, p12], I.x S fun _ => ⟨by simp [RdOk, ptr, ptrBlk], I.y S fun _ => ⟨by simp [RdOk, ptr, ptrBlk], ?_, ?_⟩⟩⟩
  · refine good24 hJ txH (by omega) fun H1 fv' o1 S1 O1 ho1 => ⟨sb S1, ?_, ?_⟩
    · refine good25X hJ (S1.sli tyH (by simp)) (by omega) fun H2 w o2 S2 O2 ho2 => ?_
      refine qAl fun H3 p14 e3 S3 c3 l3 => ⟨sb ((S1.trans S2).trans S3), ?_⟩
      have S13 := S2.trans S3
      have to : TroAt H3 (.agg ⟨troCells t fv'⟩) t fv' := ⟨rfl, ownX_sli (ownX_keep O1 S13 (by simp))⟩
      have := S1.1
      have := S2.1
      refine qStA (c := troCells t fv') c3 rfl rfl (tro_one to) fun H4 S4 c4 l4 => hold.2 ?_
      have S24 : SameX [] H2 H4 := S3.thru S4 (by simp; omega)
      have S14 := S2.trans S24
      have SH4 := S1.trans S14
      exact body16_3 hJ I (S.trans SH4) ⟨c4, ⟨rfl, ownX_sli (ownX_keep O1 S14 (by simp))⟩, ownX_sli (ownX_keep O2 S24 (by simp))⟩ ⟨ds, r11, r12, r13, rfl, rfl⟩ (nx SH4)
    · refine qAl fun H2 p14 e2 S2 c2 l2 => ⟨sb (S1.trans S2), ?_⟩
      refine good25X hJ ((S1.trans S2).sli tyH (by simp)) (by omega) fun H3 w o2 S3 O2 ho2 => ?_
      have S13 := S2.trans S3
      have to : TroAt H3 (.agg ⟨troCells t fv'⟩) t fv' := ⟨rfl, ownX_sli (ownX_keep O1 S13 (by simp))⟩
      have := S1.1
      have := S2.1
      refine qStA (c := troCells t fv') (S3.get c2 (by simp)) rfl rfl (tro_one to) fun H4 S4 c4 l4 => hold.2 ?_
      have S14 : SameX [] H1 H4 := (S2.trans S3).thru S4 (by simp; omega)
      have SH4 := S1.trans S14
      exact body16_3 hJ I (S.trans SH4) ⟨c4, ⟨rfl, ownX_sli (ownX_keep O1 S14 (by simp))⟩, ownX_sli (ownX_keep O2 S4 (fun j hj => by cases hj; simp; omega))⟩ ⟨ds, r11, r12, r13, rfl, rfl⟩ (nx SH4)
  · refine qAl fun H1 p14 e1 S1 c1 l1 => ⟨sb S1, ?_⟩
    refine good24 hJ (troAt_same txH S1 (by simp)) (by omega) fun H2 fv' o1 S2 O1 ho1 => ⟨sb (S1.trans S2), ?_⟩
    refine good25X hJ ((S1.trans S2).sli tyH (by simp)) (by omega) fun H3 w o2 S3 O2 ho2 => ?_
    have to : TroAt H3 (.agg ⟨troCells t fv'⟩) t fv' := ⟨rfl, ownX_sli (ownX_keep O1 S3 (by simp))⟩
    have := S1.1
    have := S2.1
    have := S3.1
    refine qStA (c := troCells t fv') ((S2.trans S3).get c1 (by simp)) rfl rfl (tro_one to) fun H4 S4 c4 l4 => hold.2 ?_
    have SH4 : SameX [] H H4 := ((S1.trans S2).trans S3).thru S4 (by simp; omega)
    exact body16_3 hJ I (S.trans SH4) ⟨c4, ⟨rfl, ownX_sli (ownX_keep (ownX_keep O1 S3 (by simp)) S4 (fun j hj => by cases hj; simp; omega))⟩, ownX_sli (ownX_keep O2 S4 (fun j hj => by cases hj; simp; omega))⟩ ⟨ds, r11, r12, r13, rfl, rfl⟩ (nx SH4)
set_option maxHeartbeats 1000000 in
theorem walk16 {tv fv cv nv : Value} {t : Tro} {cs ns : List Int} (ht : TroAt h tv t fv) (hc : Sli h cv 1 cs.length (cs.map vint)) (sn : Sli h nv 1 ns.length (ns.map vint)) (hln : ns.length < 4611686018427387904) (hK : ∀ h', K (.bool true) h') :
    W prog (J1 prog W0 Post) 205 h.length 16 (codeOf f16) (RG.mk (regs [tv, cv, nv]) []) h (RetQ prog [.tmp 6] h.length K) := by
  have hJ := J1.closed prog W0 Post
  rw [e16, ht.val]
  refine qBox (tro_one ht) fun Ha p4 ea Sa ca la => ?_
  have ta : TroAt Ha (.agg ⟨troCells t fv⟩) t fv := ⟨rfl, Sa.sli ht.fl (by simp)⟩
  refine load_part (c := troCells t fv) ca (by simp [troCells]) rfl (tro_kn ta) ?_
  refine good18 hJ ta (Sa.sli hc (by simp)) fun Hb Sb => cndI (fun _ => good19 fun H3 => retL_same (by simp [unk]) (hK _)) fun hsm => ?_
  have Sab := Sa.trans Sb
  have cab := Sb.get ca (by simp)
  have tb := troAt_same ta Sb (by simp)
  have hcb := Sab.sli hc (by simp)
  refine newX hJ (Sab.sli sn (by simp)) hln fun H0 a0 => ?_
  refine good21 hJ a0 (by omega) (by omega) (by omega) fun t2 fv2 o H1 ot S1 a1 TO => ?_
  have f := ot.fine (by omega)
  have fl := f.len
  have tt := TO.at
  refine qAl fun H2 p10 e2 S2 c2 l2 => qStA (c := troCells t2 fv2) c2 rfl rfl (tro_one tt) fun H3 S3 c3' l3 => ?_
  have S13' : SameX [] H1 H3 := S2.thru S3 (by simp; omega)
  have t3' := TO.same S13' (by simp)
  refine load_part (c := troCells t2 fv2) c3' (by simp [troCells]) rfl (tro_kn t3'.at) ?_
  refine good54 hJ t3'.at (by omega) fun Hs gv S3s A3 => ext0 (ext1 ?_)
  have F3 := A3
  have A3 := found_sli A3
  have S13 := S13'.trans S3s
  have c3 := S3s.get c3' (by simp)
  have hfew := rotaL_few t2
  have vg := sli_val A3
  have t3 := TO.same S13 (by simp)
  have a3 := a1.same S13 (by simp)
  have hlb0 := a0.lt
  have hS1 := S1.1
  have bHs := a3.pre
  have d4 := bHs.get cab (by simp)
  have t1 := troAt_same tb bHs (by simp)
  have hcs := bHs.sli hcb (by simp)
  have l4 := lt_of_get cab
  have l10 := lt_of_get c3
  have hp10 : p10 ≠ Hb.length := by
    have := a1.lt
    omega
  have vc := sli_val hcs
  have sb : ∀ {H''}, SameX [Hb.length] Hs H'' → SameB (some [p4, p10]) Hs H'' := fun S'' b hb => S''.2 b (by
    have := lt_of_get d4
    simp at hb
    rcases hb with rfl | rfl <;> omega) (by simp at hb ⊢; rcases hb with rfl | rfl <;> omega)
  have stT : ∀ {P : List AObj → Prop} {H' : List AObj} {k : Nat} {KT : Value → List AObj → Prop}, K8 Hb Hs ns P H' k → (∀ v H'', K8 Hb Hs ns (fun H => P H ∧ B4 Hb.length H v ([((t, fv) : TF), (t2, fv2), (t2, fv2), (t2, fv2)].flatMap tfC)) H'' k → KT v H'') →
      (((4 * 4 : Nat) ≤ 16777216 ∧ (4 : Nat) ≤ 16777216 ∧ List.length [vint 0, vint 0, vint 0, Value.slice none 0 0] = 4) ∧ aFill (zrep [vint 0, vint 0, vint 0, Value.slice none 0 0] 4) [(0, 4, .agg ⟨troCells t fv⟩), (4, 4, .agg ⟨troCells t2 fv2⟩), (8, 4, .agg ⟨troCells t2 fv2⟩), (12, 4, .agg ⟨troCells t2 fv2⟩)] fun c => aNewS 4 c H' fun v h => SameB (some [p4, p10]) Hs h ∧ KT v h) :=
    fun {P H' k KT} a hk => ⟨by decide, fillT4 (x := (t, fv)) (y := (t2, fv2)) (z := (t2, fv2)) (u := (t2, fv2)) (tro_one t1) (tro_one t3.at) (tro_one t3.at) (tro_one t3.at) (qNew fun Hc pc ec Sc cc lc => by
      have b := a.step (Q := fun H => B4 Hb.length H (.slice (some ⟨pc, 0, none⟩) 4 4) ([((t, fv) : TF), (t2, fv2), (t2, fv2), (t2, fv2)].flatMap tfC)) Sc.weak0 (a.hx.same Sc (by simp)) ⟨pc, rfl, by have := a.hx.lt; omega, cc⟩ fun A B S h => h.same S
      exact ⟨sb b.S, hk _ _ b⟩)⟩
  have stV : ∀ {P : List AObj → Prop} {H' : List AObj} {k : Nat} {w : Value} {KT : Value → List AObj → Prop}, K8 Hb Hs ns P H' k → (w.cells = #[w] ∧ one w = true) → (∀ v H'', K8 Hb Hs ns (fun H => P H ∧ B4 Hb.length H v [cv, w, gv, cv]) H'' k → KT v H'') →
      (((4 * 1 : Nat) ≤ 16777216 ∧ (4 : Nat) ≤ 16777216 ∧ List.length [Value.slice none 0 0] = 1) ∧ aFill (zrep [Value.slice none 0 0] 4) [(0, 1, cv), (1, 1, w), (2, 1, gv), (3, 1, cv)] fun c => aNewS 4 c H' fun v h => SameB (some [p4, p10]) Hs h ∧ KT v h) :=
    fun {P H' k w KT} a hw hk => ⟨by decide, fillV4 ⟨vc.1, vc.2.1⟩ hw ⟨vg.1, vg.2.1⟩ ⟨vc.1, vc.2.1⟩ (qNew fun Hc pc ec Sc cc lc => by
      have b := a.step (Q := fun H => B4 Hb.length H (.slice (some ⟨pc, 0, none⟩) 4 4) [cv, w, gv, cv]) Sc.weak0 (a.hx.same Sc (by simp)) ⟨pc, rfl, by have := a.hx.lt; omega, cc⟩ fun A B S h => h.same S
      exact ⟨sb b.S, hk _ _ b⟩)⟩
  have stR : ∀ {P : List AObj → Prop} {H' : List AObj} {k : Nat} {KT : Value → List AObj → Prop}, K8 Hb Hs ns P H' k → k < 400000 → (∀ r w H'', (w.cells = #[w] ∧ one w = true) → K8 Hb Hs ns (fun H => P H ∧ BR Hb.length H w r) H'' (k + 10) → KT w H'') →
      Good prog (J1 prog W0 Post) 36 [ptr Hb.length 0, .agg ⟨troCells t2 fv2⟩, vint 5] H' fun v h => SameB (some [p4, p10]) Hs h ∧ KT v h :=
    fun {P H' k KT} a hlt hk => good36 hJ a.hx hlt (t3.same a.S (fun j hj => by have := t3.b j hj; simp; omega)).at (fun {H''} S => (t3.same (a.S.trans S) (fun j hj => by have := t3.b j hj; simp; omega)).at.fl) fl (by omega) fun r rv o2 H'' rf rl S hx ro ho => by
      have b := a.step (Q := fun H => BR Hb.length H rv r) S hx ⟨by omega, o2, ro.l, ro.b⟩ fun A B S h => h.same S
      have v := sli_val ro.sli
      exact ⟨sb b.S, hk r rv H'' ⟨v.1, v.2.1⟩ b⟩
  have leaf : ∀ {P : List AObj → Prop} {H' : List AObj} {k : Nat} {F : RG}, K8 Hb Hs ns P H' k → F.ds = [] →
      (P H' → Found H3.length H' gv (rotaA t2) ∧ B4 Hb.length H' (F.r 11) ([((t, fv) : TF), (t2, fv2), (t2, fv2), (t2, fv2)].flatMap tfC) ∧ (∃ w, B4 Hb.length H' (F.r 12) [cv, w, gv, cv] ∧ ∃ r, BR Hb.length H' w r)) →
      W prog (J1 prog W0 Post) 205 h.length 16 (subC [1, 1, 1, 1, 1, 1] (codeOf f16)) F H' (contX pl16 prog (J1 prog W0 Post) 205 h.length 16 ct16 [1, 1, 1, 1, 1, 1] (codeOf f16) [] (RetQ prog [.tmp 6] h.length K)) := by
    intro P H' k F a ds hp
    obtain ⟨hg, ⟨p1, q1, _, g1⟩, ⟨w, ⟨p2, q2, _, g2⟩, r, rl, o2, ro, _⟩⟩ := hp a.p
    have hg := found_sli hg
    have bH := a.hx.pre
    have u1 := troAt_same tb bH (by simp)
    have u2 := (t3.same a.S (fun j hj => by have := t3.b j hj; simp; omega)).at
    have hc' := bH.sli hcb (by simp)
    refine loop16 (xs := [(t, fv), (t2, fv2), (t2, fv2), (t2, fv2)]) (ys := [(cs, cv), (r, w), (rotaL t2, gv), (cs, cv)]) ds q1 q2 g1 g2 rfl rfl (fun x hx => ?_) (fun y hy => ?_) hK
    · simp only [List.mem_cons, List.not_mem_nil, or_false] at hx
      rcases hx with rfl | rfl | rfl | rfl
      · exact ⟨u1, by show t.flocks.length ≤ 20; omega⟩
      all_goals exact ⟨u2, by show t2.flocks.length ≤ 20; omega⟩
    · simp only [List.mem_cons, List.not_mem_nil, or_false] at hy
      rcases hy with rfl | rfl | rfl | rfl
      · exact ⟨hc', by show cs.length ≤ 20; omega⟩
      · exact ⟨ownX_sli ro, rl⟩
      · exact ⟨hg, by show (rotaL t2).length ≤ 20; omega⟩
      · exact ⟨hc', by show cs.length ≤ 20; omega⟩
  have k0 : K8 Hb Hs ns (fun H => Found H3.length H gv (rotaA t2)) Hs (0 + 30) := ⟨a3, SameX.refl, F3, fun A B S h => h.to (Nat.le_refl _) S (by simp; omega)⟩
  refine ⟨[p4, p10], load_part (c := troCells t fv) d4 (by simp [troCells]) rfl (tro_kn t1) ⟨by simp [RdOk, ptr, ptrBlk], ?_⟩⟩
  refine load_part (c := troCells t2 fv2) c3 (by simp [troCells]) rfl (tro_kn t3.at) ⟨by simp [RdOk, ptr, ptrBlk], ?_⟩
  refine load_part (c := troCells t2 fv2) c3 (by simp [troCells]) rfl (tro_kn t3.at) ⟨by simp [RdOk, ptr, ptrBlk], ?_⟩
  refine load_part (c := troCells t2 fv2) c3 (by simp [troCells]) rfl (tro_kn t3.at) ⟨by simp [RdOk, ptr, ptrBlk], ?_⟩
  refine load_part (c := troCells t2 fv2) c3 (by simp [troCells]) rfl (tro_kn t3.at) ⟨by simp [RdOk, ptr, ptrBlk], ?_⟩
  repeat' first
    | exact hold.2 (leaf (by assumption) rfl (by
        intro hp
        refine ⟨?_, ?_, ⟨?_, ?_, ?_, ?_⟩⟩
        any_goals (first | exact hp.1.1.1 | exact hp.2 | exact hp.1.2 | exact hp.1.1.2 | exact hp.1.1.1.2)))
    | refine stT (by assumption) fun v H'' hk => ?_
    | refine stV (by assumption) (by assumption) fun v H'' hk => ?_
    | refine stR (by assumption) (by decide) fun r w H'' hw hk => ?_
    | refine ⟨?_, ?_⟩
end
end Go.Proofs.Ytindillghipjjaa
namespace Go.Proofs.Ytindillghipjjaa
open Go.Conc
section
variable {P : Program} {W0 : World} {Post : Value → World → Prop} {ρ : Env} {h : List AObj} {FC : Frm} {w : World} {ft : Foot} {f : RG} {a : Act} {b : FB} {K : Value → List AObj → Prop} {n0 : Nat}
theorem leave_top {fn : Func} (hk : b.kind = .normal) (hf : P.funcs[b.fn]? = some fn) (hin : P.inits.idxOf? b.fn = none)
    (hc : ∀ v h' ρ' w' ft' cv, K v h' → HRel ρ' h' FC w' ft' → Env.upto n0 ρ ρ' → n0 ≤ h'.length → VRel h'.length ρ' v cv → Base W0 w' → Post cv w') :
    ∀ (ds : List Nat) (h : List AObj) (w : World) (ft : Foot) (a : Act) (fr : Frame), fr.fn = b.fn → fr.kind = .normal → fr.mode = .returning → fr.tmps = a.tmps → fr.defers = ds.map (fun d => { target := .collected (ρ.blk d), args := #[] }) → RegRel h.length ρ f.r a.tmps → HRel ρ h FC w ft → n0 ≤ h.length →
      takeW ds h (fun h => resW P fn.results.toList f.r h fun vs => K (pack vs) h ∨ ∃ σ h' v, GC n0 σ h h' ∧ pack vs = sub σ v ∧ VOk h'.length v ∧ K v h') → J1 P W0 Post (G fr []) w ft
  | [], h, w, ft, a, fr, e1, e2, e3, e4, e5, hr, H, hn, hq => by
    obtain ⟨fn', tmps, todo, defers, mode, kind, ro⟩ := fr
    simp only at e1 e2 e3 e4 e5
    subst e1 e2 e3 e4 e5
    refine J1.both rfl fun w₁ h₁ hbase => .inr ?_
    have H₁ := H.rely h₁
    have hrun : RunsTo P (EvOk ft) (results fn a.tmps) w₁ fun cv w' => w' = w₁ ∧ ∃ vs, cv = ren ρ (pack vs) ∧ (∀ v ∈ vs, VOk h.length v) ∧ (K (pack vs) h ∨ ∃ σ h' v, GC n0 σ h h' ∧ pack vs = sub σ v ∧ VOk h'.length v ∧ K v h') := by
      unfold results
      have : (fn.results.mapM (resF a.tmps)) = List.toArray <$> fn.results.toList.mapM (resF a.tmps) := by
        rw [Array.mapM_eq_mapM_toList]
      show RunsTo P (EvOk ft) (do
        let vs ← fn.results.mapM (resF a.tmps)
        pure (if h : vs.size = 1 then vs[0] else .tuple vs)) w₁ _
      rw [this]
      refine RunsTo.bind (RunsTo.map (res_run (n := 0) H₁ hr fn.results.toList hq fun vs hvs hok => RunsTo.pure ⟨rfl, vs, ?_, hok, hvs⟩))
      exact pack_ren vs
    obtain ⟨cv, w', es, hr', he, rfl, vs, rfl, hvok, hvs⟩ := hrun #[] (by simp)
    have hes : ∀ e ∈ seen P b.fn es, EvOk ft e := fun e hm => he e (mem_seen hm)
    refine ⟨ren ρ (pack vs), seen P b.fn es, ?_, hes, ?_⟩
    · simp only [G, stepG, unwind, List.map_nil, hf, hr']
      simp [doReturn, GStep.after, hin]
    · rcases hvs with hK | ⟨σ, h', v, g, hp, hok, hK⟩
      · exact hc _ h _ w' ft _ hK H₁ (Env.upto_refl _ _) hn (.inr ⟨pack_ok hvok, rfl⟩) hbase
      · rw [hp, ren_sub]
        exact hc v h' _ w' ft _ hK (g.rel H₁) g.upto g.le (.inr ⟨hok, rfl⟩) hbase
  | d :: ds, h, w, ft, a, fr, e1, e2, e3, e4, e5, hr, H, hn, hq => by
    obtain ⟨fn', tmps, todo, defers, mode, kind, ro⟩ := fr
    simp only at e1 e2 e3 e4 e5
    subst e1 e2 e3 e4 e5
    obtain ⟨hd, hq⟩ := hq
    refine (J1.closed P W0 Post).step rfl fun w₁ h₁ => ?_
    have H₁ := H.rely h₁
    obtain ⟨cv, w', es, hr', he, rfl, H', hst, hsz⟩ := take_run (P := P) H₁ hd (Q := fun l w' => l = [] ∧ HRel ρ (h.set d .dead) FC w' ft ∧ Stays ft w₁ w' ∧ w'.heap.size = w₁.heap.size) (fun w' a1 a2 a3 => ⟨rfl, a1, a2, a3⟩) #[] (by simp)
    have hes : ∀ e ∈ seen P b.fn es, EvOk ft e := fun e hm => he e (mem_seen hm)
    refine ⟨G { fn := b.fn, tmps := a.tmps, todo := todo, defers := ds.map (fun d => { target := .collected (ρ.blk d), args := #[] }), mode := .returning, kind := .normal, roundOf := ro } [], w', seen P b.fn es, ?_, rfl, hst.guar hes, ?_⟩
    · simp only [G, stepG, unwind, List.map_cons, hr']
      simp [GStep.after]
    · rw [hsz, Foot.ext_self]
      exact leave_top hk hf hin hc ds _ w' ft a _ rfl rfl rfl rfl rfl (by rw [List.length_set]; exact hr) H' (by rw [List.length_set]; exact hn) hq
theorem top_of_W (hm : P.follows .mixedOrders = true) {g : FuncId} {fn : Func} (hf : P.funcs[g]? = some fn) {c : Code} (hb : fn.body = some c) (hin : P.inits.idxOf? g = none) {args : List Value} {cargs : Array Value} (ha : args.length ≤ fn.ntmps) (hl : cargs.size = args.length)
    (hr : ∀ i : Nat, VRel h.length ρ (args.getD i unk) (cargs.toList.getD i undef)) (H : HRel ρ h FC w ft)
    (hs : W P (J1 P W0 Post) fn.ntmps h.length g c ⟨regs args, []⟩ h (RetQ P fn.results.toList h.length K))
    (hc : ∀ v h' ρ' w' ft' cv, K v h' → HRel ρ' h' FC w' ft' → Env.upto h.length ρ ρ' → h.length ≤ h'.length → VRel h'.length ρ' v cv → Base W0 w' → Post cv w') : J1 P W0 Post (G (Frame.enter P g cargs .normal) []) w ft := by
  have hJ := J1.closed P W0 Post
  obtain ⟨cargs⟩ := cargs
  simp only at hl hr
  have he : Frame.enter P g ⟨cargs⟩ .normal = FB.at ⟨g, .normal, none⟩ ⟨⟨cargs⟩ ++ Array.replicate (fn.ntmps - cargs.length) undef, []⟩ [.code c] := by
    simp [Frame.enter, FB.at, hf, hb]
  rw [he]
  have A : ActRel h.length ρ fn.ntmps ⟨regs args, []⟩ ⟨⟨cargs⟩ ++ Array.replicate (fn.ntmps - cargs.length) undef, []⟩ := by
    refine ⟨fun t => ?_, by simp at hl ⊢; omega, rfl, by simp⟩
    have := hr t
    have ht : ((⟨cargs⟩ : Array Value) ++ Array.replicate (fn.ntmps - cargs.length) undef).getD t undef = cargs.getD t undef := by
      rw [Array.getD_eq_getD_getElem?, List.getD_eq_getElem?_getD]
      by_cases hx : t < cargs.length
      · rw [Array.getElem?_append_left (by simpa using hx)]
        simp
      · rw [Array.getElem?_append_right (by simp; omega), List.getElem?_eq_none (by omega)]
        simp only [Array.getElem?_replicate]
        split <;> rfl
    rw [ht]
    exact this
  have last : ∀ f' h' ρ' w' ft' a' todo, RetQ P fn.results.toList h.length K .ret f' h' → ActRel h'.length ρ' fn.ntmps f' a' → HRel ρ' h' FC w' ft' → Env.upto h.length ρ ρ' → h.length ≤ h'.length →
      J1 P W0 Post (G { (FB.at ⟨g, .normal, none⟩ a' todo) with mode := .returning } []) w' ft' := by
    intro f' h' ρ' w' ft' a' todo q A' H' hu hl
    exact leave_top (b := ⟨g, .normal, none⟩) (f := f') (n0 := h.length) (ρ := ρ') rfl hf hin (fun v h2 ρ2 w2 ft2 cv k H2 u2 l2 v2 => hc v h2 ρ2 w2 ft2 cv k H2 (Env.upto_trans hu u2) l2 v2) f'.ds h' w' ft' a' _ rfl rfl rfl rfl A'.defers A'.regs H' hl q
  refine W_sound hJ hm c hs ⟨g, .normal, none⟩ _ [] [] (fun jump a w ft => jump = some .ret ∧ ∀ todo, J1 P W0 Post (G { (FB.at ⟨g, .normal, none⟩ a todo) with mode := .returning } []) w ft) ρ FC w ft rfl (by simp) ?_ A H (Nat.le_refl _) ?_
  · rintro jump a w ft todo ⟨rfl, hj⟩ hh
    rcases hh with ⟨_, k, rfl⟩ | ⟨id, k, e, _⟩ | ⟨e, _⟩
    · exact hJ.ctrl rfl rfl (fun w => by simp [G, stepG, stepG.exec, FB.at]) (hj (.code .ret :: k))
    · cases e
    · cases e
  · intro e f' h' ρ' w' ft' a' q A' H' hu hl
    cases e with
    | normal => exact hJ.ctrl rfl rfl (fun w => by simp [G, stepG, stepG.exec, FB.at]) (last f' h' ρ' w' ft' a' [] q A' H' hu hl)
    | ret => exact ⟨rfl, fun todo => last f' h' ρ' w' ft' a' todo q A' H' hu hl⟩
    | exit id => exact q.elim
    | goto l => exact q.elim
    | panic l => exact q.elim
    | outgrown => exact q.elim
theorem run_of_J1 {g : Goroutine} {w : World} {ft : Foot} (h : J1 P W0 Post g w ft) (hb : ∀ b, ft.rd b → b < w.heap.size) (hs : ∀ b, ft.wr b → ft.rd b) (hw : W0 = w) : Ends P Post (solo g w) #[] := by
  rw [solo_eq_crowd]
  exact h #[g] w none #[] (fun _ => 0) hb hs (RelyW.refl _ _) (by subst hw; exact ⟨rfl, rfl, rfl, Nat.le_refl _⟩) rfl (leavers_one P g) (past_nil.mono (Nat.zero_le _))
end
end Go.Proofs.Ytindillghipjjaa
