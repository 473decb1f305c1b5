/- Parts of the proof, 6. No conditions. -/
import Derived.Test.YtlladcglhjlbpaaGreatDoorK2
import Derived.Test.YtlladcglhjlbpaaGreatDoorK5
import Derived.Test.YtlladcglhjlbpaaGreatDoorK3
import Derived.Test.YtlladcglhjlbpaaGreatDoorK4
import Derived.Test.YtlladcglhjlbpaaGreatDoorProg
namespace Go.Proofs.YtlladcglhjlbpaaGreatDoor
open Go.Conc Go.Proofs.Tryz
set_option maxRecDepth 100000
set_option maxHeartbeats 4000000
set_option linter.unusedVariables false
section
variable {main : Bool} {J : JT} {n0 : Nat} {h : List AObj} {K : Value → List AObj → Prop}
theorem at85 : prog.funcs[85]? = some f85 := by kernel_rfl
theorem body85 : f85.body = some (codeOf f85) := by kernel_rfl
def pl85 : Plans := []
def ct85 : Cuts := .bin (.go) (.bin (.go) (.bin (.bin (.go) (.cut (.go))) (.bin (.go) (.bin (.bin (.go) (.un (.un (.bin (.go) (.bin (.go) (.bin (.un (.bin (.go) (.bin (.bin (.go) (.cut (.go))) (.go)))) (.go))))))) (.go)))))
theorem pok85 : plansOk prog pl85 (codeOf f85) = true := by kernel_rfl
theorem e85 {a0 a1 : Value} : W prog J 65 h.length 85 (codeOf f85) (RG.mk (regs [a0,a1]) []) h (RetQ prog [.tmp 4] h.length K) =
(Good prog J 84 [a0,(Value.string { data := #[45] })] h fun v1 h2 =>
aExt v1 0 fun v3 =>
aExt v1 1 fun v4 =>
aLenStr v3 fun v5 =>
aBin prog .lss 3 v5 (vint 1) fun v6 =>
cnd v6
(Hold (W prog J 65 h.length 85 (subC [1,1,0,1] (codeOf f85)) (RG.p (RG.p (RG.p (RG.p (RG.p (RG.p (RG.p (RG.p (RG.p (RG.p (RG.p (RG.p (RG.p (RG.p (RG.p (RG.p (RG.p (RG.p (RG.p (RG.p (RG.p (RG.p (RG.p (RG.p (RG.p (RG.p (RG.p (RG.p (RG.p (RG.p (RG.p (RG.mk (regs [a0,a1]) []) 4 (Value.bool false)) 10 a0) 11 v1) 9 v1) 12 v3) 13 v4) 5 v3) 6 v4) 14 v3) 15 v5) 16 v6) 17 v6) 17 (Value.bool true)) 18 undef) 19 undef) 20 undef) 21 (Value.bool true)) 22 (Value.bool true)) 22 (Value.bool true)) 23 undef) 24 undef) 25 undef) 26 undef) 27 undef) 28 undef) 29 undef) 30 undef) 31 undef) 32 undef) 33 undef) 34 (Value.bool true)) h2 (contX pl85 prog J 65 h.length 85 ct85 [1,1,0,1] (codeOf f85) [] (RetQ prog [.tmp 4] h.length K))))
(aLenStr v3 fun v7 =>
aBin prog .gtr 3 v7 (vint 3) fun v8 =>
cnd v8
(Hold (W prog J 65 h.length 85 (subC [1,1,0,1] (codeOf f85)) (RG.p (RG.p (RG.p (RG.p (RG.p (RG.p (RG.p (RG.p (RG.p (RG.p (RG.p (RG.p (RG.p (RG.p (RG.p (RG.p (RG.p (RG.p (RG.p (RG.p (RG.p (RG.p (RG.p (RG.p (RG.p (RG.p (RG.p (RG.p (RG.p (RG.p (RG.p (RG.mk (regs [a0,a1]) []) 4 (Value.bool false)) 10 a0) 11 v1) 9 v1) 12 v3) 13 v4) 5 v3) 6 v4) 14 v3) 15 v5) 16 v6) 17 v6) 17 (Value.bool false)) 18 v3) 19 v7) 20 v8) 21 v8) 22 v8) 22 (Value.bool true)) 23 undef) 24 undef) 25 undef) 26 undef) 27 undef) 28 undef) 29 undef) 30 undef) 31 undef) 32 undef) 33 undef) 34 (Value.bool true)) h2 (contX pl85 prog J 65 h.length 85 ct85 [1,1,0,1] (codeOf f85) [] (RetQ prog [.tmp 4] h.length K))))
(aIdxStr v3 (vint 0) fun v9 =>
aBin prog .eql 5 v9 (Value.int .u8 48) fun v10 =>
cnd v10
(cnd v4
(Hold (W prog J 65 h.length 85 (subC [1,1,0,1] (codeOf f85)) (RG.p (RG.p (RG.p (RG.p (RG.p (RG.p (RG.p (RG.p (RG.p (RG.p (RG.p (RG.p (RG.p (RG.p (RG.p (RG.p (RG.p (RG.p (RG.p (RG.p (RG.p (RG.p (RG.p (RG.p (RG.p (RG.p (RG.p (RG.p (RG.p (RG.p (RG.p (RG.p (RG.p (RG.mk (regs [a0,a1]) []) 4 (Value.bool false)) 10 a0) 11 v1) 9 v1) 12 v3) 13 v4) 5 v3) 6 v4) 14 v3) 15 v5) 16 v6) 17 v6) 17 (Value.bool false)) 18 v3) 19 v7) 20 v8) 21 v8) 22 v8) 22 (Value.bool false)) 23 v3) 24 v9) 25 v10) 26 v10) 26 (Value.bool true)) 27 v4) 28 v4) 28 (Value.bool true)) 29 undef) 30 undef) 31 undef) 32 (Value.bool true)) 33 (Value.bool true)) 34 (Value.bool true)) h2 (contX pl85 prog J 65 h.length 85 ct85 [1,1,0,1] (codeOf f85) [] (RetQ prog [.tmp 4] h.length K))))
(aLenStr v3 fun v11 =>
aBin prog .gtr 3 v11 (vint 1) fun v12 =>
Hold (W prog J 65 h.length 85 (subC [1,1,0,1] (codeOf f85)) (RG.p (RG.p (RG.p (RG.p (RG.p (RG.p (RG.p (RG.p (RG.p (RG.p (RG.p (RG.p (RG.p (RG.p (RG.p (RG.p (RG.p (RG.p (RG.p (RG.p (RG.p (RG.p (RG.p (RG.p (RG.p (RG.p (RG.p (RG.p (RG.p (RG.p (RG.p (RG.p (RG.p (RG.mk (regs [a0,a1]) []) 4 (Value.bool false)) 10 a0) 11 v1) 9 v1) 12 v3) 13 v4) 5 v3) 6 v4) 14 v3) 15 v5) 16 v6) 17 v6) 17 (Value.bool false)) 18 v3) 19 v7) 20 v8) 21 v8) 22 v8) 22 (Value.bool false)) 23 v3) 24 v9) 25 v10) 26 v10) 26 (Value.bool true)) 27 v4) 28 v4) 28 (Value.bool false)) 29 v3) 30 v11) 31 v12) 32 v12) 33 v12) 34 v12) h2 (contX pl85 prog J 65 h.length 85 ct85 [1,1,0,1] (codeOf f85) [] (RetQ prog [.tmp 4] h.length K)))))
(Hold (W prog J 65 h.length 85 (subC [1,1,0,1] (codeOf f85)) (RG.p (RG.p (RG.p (RG.p (RG.p (RG.p (RG.p (RG.p (RG.p (RG.p (RG.p (RG.p (RG.p (RG.p (RG.p (RG.p (RG.p (RG.p (RG.p (RG.p (RG.p (RG.p (RG.p (RG.p (RG.p (RG.p (RG.p (RG.p (RG.p (RG.p (RG.p (RG.p (RG.mk (regs [a0,a1]) []) 4 (Value.bool false)) 10 a0) 11 v1) 9 v1) 12 v3) 13 v4) 5 v3) 6 v4) 14 v3) 15 v5) 16 v6) 17 v6) 17 (Value.bool false)) 18 v3) 19 v7) 20 v8) 21 v8) 22 v8) 22 (Value.bool false)) 23 v3) 24 v9) 25 v10) 26 v10) 26 (Value.bool false)) 27 undef) 28 undef) 29 undef) 30 undef) 31 undef) 32 undef) 33 (Value.bool false)) 34 (Value.bool false)) h2 (contX pl85 prog J 65 h.length 85 ct85 [1,1,0,1] (codeOf f85) [] (RetQ prog [.tmp 4] h.length K))))))) := top_eq pok85 ct85 (by kernel_rfl)
theorem g85 (hJ : Closed prog main J) {a0 a1 : Value} (hs : heapOk h → W prog J 65 h.length 85 (codeOf f85) (RG.mk (regs [a0,a1]) []) h (RetQ prog [.tmp 4] h.length K)) : Good prog J 85 [a0,a1] h K :=
 good_of_W hJ mixed at85 body85 (by kernel_rfl) (Nat.le_of_ble_eq_true rfl) hs
theorem s85_1 {f : RG} : W prog J 65 n0 85 (subC [1,1,0,1] (codeOf f85)) f h (contX pl85 prog J 65 n0 85 ct85 [1,1,0,1] (codeOf f85) [] (RetQ prog [.tmp 4] n0 K)) =
(cnd (f.r 34)
(retL n0 K f.ds [(Value.bool false)] h)
(aLenStr (f.r 5) fun v1 =>
Sem J 65 n0 85 (subC yp0 (codeOf f85)) (RG.p (RG.p (RG.p (RG.p f 7 (vint 0)) 35 (f.r 5)) 36 v1) 37 (vint 0)) h (contX pl85 prog J 65 n0 85 ct85 yp0 (codeOf f85) [] (RetQ prog [.tmp 4] n0 K)))) := sub_eq pok85 ct85 (by kernel_rfl)
theorem s85_2 {f : RG} {nx0 : RG → List AObj → Prop} : W prog J 65 n0 85 (subC yp4 (codeOf f85)) f h (thenK nx0 (contX pl85 prog J 65 n0 85 ct85 yp0 (codeOf f85) [] (RetQ prog [.tmp 4] n0 K))) =
(aBin prog .lss 3 (f.r 37) (f.r 36) fun v1 =>
cnd v1
(aIdxStr (f.r 5) (f.r 37) fun v2 =>
aBin prog .lss 5 v2 (Value.int .u8 48) fun v3 =>
cnd v3
(Hold (W prog J 65 n0 85 (subC yp28 (codeOf f85)) (RG.p (RG.p (RG.p (RG.p (RG.p (RG.p (RG.p (RG.p (RG.p (RG.p (RG.p (RG.p (RG.p (RG.p f 38 v1) 39 (f.r 37)) 8 (f.r 37)) 40 (f.r 5)) 41 (f.r 37)) 42 v2) 43 v3) 44 v3) 44 (Value.bool true)) 45 undef) 46 undef) 47 undef) 48 undef) 49 (Value.bool true)) h (contX pl85 prog J 65 n0 85 ct85 yp28 (codeOf f85) [nx0] (RetQ prog [.tmp 4] n0 K))))
(aIdxStr (f.r 5) (f.r 37) fun v4 =>
aBin prog .gtr 5 v4 (Value.int .u8 57) fun v5 =>
Hold (W prog J 65 n0 85 (subC yp28 (codeOf f85)) (RG.p (RG.p (RG.p (RG.p (RG.p (RG.p (RG.p (RG.p (RG.p (RG.p (RG.p (RG.p (RG.p (RG.p f 38 v1) 39 (f.r 37)) 8 (f.r 37)) 40 (f.r 5)) 41 (f.r 37)) 42 v2) 43 v3) 44 v3) 44 (Value.bool false)) 45 (f.r 5)) 46 (f.r 37)) 47 v4) 48 v5) 49 v5) h (contX pl85 prog J 65 n0 85 ct85 yp28 (codeOf f85) [nx0] (RetQ prog [.tmp 4] n0 K)))))
(cnd (f.r 6)
(aUn .neg (f.r 7) fun v6 =>
aNil (f.r 1) fun v7 =>
aStore 1 v7 v6 h fun h8 =>
retL n0 K f.ds [(Value.bool true)] h8)
(aNil (f.r 1) fun v9 =>
aStore 1 v9 (f.r 7) h fun h10 =>
retL n0 K f.ds [(Value.bool true)] h10))) := sub_eq pok85 ct85 (by kernel_rfl)
theorem l85_2 (hJ : Closed prog main J) {S : Type} (μ : S → Nat) (I : S → RG → List AObj → Prop) (hI : ∀ s f h,I s f h → heapOk h → n0 ≤ h.length → W prog J 65 n0 85 (subC yp4 (codeOf f85)) f h (thenK (Nx n0 μ I s) (contX pl85 prog J 65 n0 85 ct85 yp0 (codeOf f85) [] (RetQ prog [.tmp 4] n0 K))))
 {s : S} {f : RG} (hi : Gets n0 I s f h) : Sem J 65 n0 85 (subC yp0 (codeOf f85)) f h (contX pl85 prog J 65 n0 85 ct85 yp0 (codeOf f85) [] (RetQ prog [.tmp 4] n0 K)) :=
 loop_rule hJ mixed (b := subC yp4 (codeOf f85)) (by kernel_rfl) μ I hI hi
theorem s85_3 {f : RG} {nx0 : RG → List AObj → Prop} : W prog J 65 n0 85 (subC yp28 (codeOf f85)) f h (contX pl85 prog J 65 n0 85 ct85 yp28 (codeOf f85) [nx0] (RetQ prog [.tmp 4] n0 K)) =
(cnd (f.r 49)
(retL n0 K f.ds [(Value.bool false)] h)
(aBin prog .mul 3 (f.r 7) (vint 10) fun v1 =>
aIdxStr (f.r 5) (f.r 8) fun v2 =>
aBin prog .sub 5 v2 (Value.int .u8 48) fun v3 =>
aConvI .i64 v3 fun v4 =>
aBin prog .add 3 v1 v4 fun v5 =>
aBin prog .add 3 (f.r 37) (vint 1) fun v6 =>
nx0 (RG.p (RG.p (RG.p (RG.p (RG.p (RG.p (RG.p (RG.p (RG.p (RG.p (RG.p f 50 (f.r 7)) 51 v1) 52 (f.r 5)) 53 (f.r 8)) 54 v2) 55 v3) 56 v4) 57 v5) 7 v5) 58 v6) 37 v6) h)) := sub_eq pok85 ct85 (by kernel_rfl)
theorem at57 : prog.funcs[57]? = some f57 := by kernel_rfl
theorem body57 : f57.body = some (codeOf f57) := by kernel_rfl
def pl57 : Plans := []
def ct57 : Cuts := .go
theorem pok57 : plansOk prog pl57 (codeOf f57) = true := by kernel_rfl
theorem e57 {a0 a1 a2 : Value} : W prog J 22 h.length 57 (codeOf f57) (RG.mk (regs [a0,a1,a2]) []) h (RetQ prog [.tmp 6] h.length K) =
(aBin prog .add 9 a1 (Value.string { data := #[61] }) fun v1 =>
Good prog J 84 [a0,v1] h fun v2 h3 =>
aExt v2 0 fun v4 =>
aExt v2 1 fun v5 =>
cnd v5
(Good prog J 85 [v4,a2] h3 fun v6 h7 =>
retL h.length K [] [v6] h7)
(retL h.length K [] [(Value.bool false)] h3)) := top_eq pok57 ct57 (by kernel_rfl)
theorem g57 (hJ : Closed prog main J) {a0 a1 a2 : Value} (hs : heapOk h → W prog J 22 h.length 57 (codeOf f57) (RG.mk (regs [a0,a1,a2]) []) h (RetQ prog [.tmp 6] h.length K)) : Good prog J 57 [a0,a1,a2] h K :=
 good_of_W hJ mixed at57 body57 (by kernel_rfl) (Nat.le_of_ble_eq_true rfl) hs
theorem at58 : prog.funcs[58]? = some f58 := by kernel_rfl
theorem body58 : f58.body = some (codeOf f58) := by kernel_rfl
def pl58 : Plans := []
def ct58 : Cuts := .go
theorem pok58 : plansOk prog pl58 (codeOf f58) = true := by kernel_rfl
theorem e58 {a0 a1 a2 : Value} : W prog J 43 h.length 58 (codeOf f58) (RG.mk (regs [a0,a1,a2]) []) h (RetQ prog [.tmp 6] h.length K) =
(aBin prog .add 9 a1 (Value.string { data := #[61] }) fun v1 =>
Good prog J 84 [a0,v1] h fun v2 h3 =>
aExt v2 0 fun v4 =>
aExt v2 1 fun v5 =>
Good prog J 86 [v4,(Value.string { data := #[46,46] })] h3 fun v6 h7 =>
aExt v6 0 fun v8 =>
aExt v6 1 fun v9 =>
aExt v6 2 fun v10 =>
cnd v5
(cnd v10
(aNil a2 fun v11 =>
aOff v11 0 fun v12 =>
Good prog J 85 [v8,v12] h7 fun v13 h14 =>
cnd v13
(aNil a2 fun v15 =>
aOff v15 1 fun v16 =>
Good prog J 85 [v9,v16] h14 fun v17 h18 =>
retL h.length K [] [v17] h18)
(retL h.length K [] [(Value.bool false)] h14))
(retL h.length K [] [(Value.bool false)] h7))
(retL h.length K [] [(Value.bool false)] h7)) := top_eq pok58 ct58 (by kernel_rfl)
theorem g58 (hJ : Closed prog main J) {a0 a1 a2 : Value} (hs : heapOk h → W prog J 43 h.length 58 (codeOf f58) (RG.mk (regs [a0,a1,a2]) []) h (RetQ prog [.tmp 6] h.length K)) : Good prog J 58 [a0,a1,a2] h K :=
 good_of_W hJ mixed at58 body58 (by kernel_rfl) (Nat.le_of_ble_eq_true rfl) hs
theorem at59 : prog.funcs[59]? = some f59 := by kernel_rfl
theorem body59 : f59.body = some (codeOf f59) := by kernel_rfl
def pl59 : Plans := [(5,false,.take 0 (.take 1 (.take 2 (.take 3 (.take 4 (.take 5 (.last 6 true (.last 7 true (.take 8 (.take 9 (.last 10 false (.fin)))))))))))),
 (7,false,.take 0 (.take 1 (.take 2 (.take 3 (.take 4 (.take 5 (.last 6 true (.last 7 true (.take 8 (.take 9 (.last 10 false (.fin))))))))))))]
def ct59 : Cuts := .bin (.go) (.bin (.go) (.bin (.go) (.bin (.un (.bin (.go) (.cut (.bin (.go) (.bin (.go) (.cut (.go))))))) (.go))))
theorem pok59 : plansOk prog pl59 (codeOf f59) = true := by kernel_rfl
theorem e59 {a0 a1 : Value} : W prog J 83 h.length 59 (codeOf f59) (RG.mk (regs [a0,a1]) []) h (RetQ prog [.tmp 4] h.length K) =
(aAlloc [(vint 0),(vint 0)] h fun v1 h2 =>
aAlloc [(vint 0),(vint 0),(vint 0),(vint 0)] h2 fun v3 h4 =>
aLenS a1 fun v5 =>
aBin prog .eql 3 v5 (vint 1) fun v6 =>
cnd v6
(aNil a0 fun v7 =>
aOff v7 5 fun v8 =>
aLoad false 1 v8 h4 fun v9 =>
aLenS v9 fun v10 =>
aBin prog .eql 3 v10 (vint 0) fun v11 =>
cnd v11
(aIdx 1 a1 (vint 0) fun v12 =>
aLoad false 1 v12 h4 fun v13 =>
Good prog J 58 [v13,(Value.string { data := #[99,104,97,110,103,101] }),v1] h4 fun v14 h15 =>
Hold (W prog J 83 h.length 59 (subC yp19 (codeOf f59)) (RG.p (RG.p (RG.p (RG.p (RG.p (RG.p (RG.p (RG.p (RG.p (RG.p (RG.p (RG.p (RG.p (RG.p (RG.p (RG.p (RG.p (RG.p (RG.p (RG.p (RG.p (RG.p (RG.p (RG.mk (regs [a0,a1]) []) 4 (Value.bool false)) 5 v1) 6 v3) 8 a1) 9 v5) 10 v6) 11 v6) 11 (Value.bool true)) 12 a0) 13 v7) 14 v8) 15 v9) 16 v10) 17 v11) 18 v11) 19 v11) 19 (Value.bool true)) 20 a1) 21 v12) 22 v13) 23 v14) 24 v14) 7 v14) h15 (contX pl59 prog J 83 h.length 59 ct59 yp19 (codeOf f59) [] (RetQ prog [.tmp 4] h.length K))))
(Hold (W prog J 83 h.length 59 (subC yp19 (codeOf f59)) (RG.p (RG.p (RG.p (RG.p (RG.p (RG.p (RG.p (RG.p (RG.p (RG.p (RG.p (RG.p (RG.p (RG.p (RG.p (RG.p (RG.p (RG.p (RG.p (RG.p (RG.p (RG.p (RG.p (RG.mk (regs [a0,a1]) []) 4 (Value.bool false)) 5 v1) 6 v3) 8 a1) 9 v5) 10 v6) 11 v6) 11 (Value.bool true)) 12 a0) 13 v7) 14 v8) 15 v9) 16 v10) 17 v11) 18 v11) 19 v11) 19 (Value.bool false)) 20 undef) 21 undef) 22 undef) 23 undef) 24 (Value.bool false)) 7 (Value.bool false)) h4 (contX pl59 prog J 83 h.length 59 ct59 yp19 (codeOf f59) [] (RetQ prog [.tmp 4] h.length K)))))
(Hold (W prog J 83 h.length 59 (subC yp19 (codeOf f59)) (RG.p (RG.p (RG.p (RG.p (RG.p (RG.p (RG.p (RG.p (RG.p (RG.p (RG.p (RG.p (RG.p (RG.p (RG.p (RG.p (RG.p (RG.p (RG.p (RG.p (RG.p (RG.p (RG.p (RG.mk (regs [a0,a1]) []) 4 (Value.bool false)) 5 v1) 6 v3) 8 a1) 9 v5) 10 v6) 11 v6) 11 (Value.bool false)) 12 undef) 13 undef) 14 undef) 15 undef) 16 undef) 17 undef) 18 (Value.bool false)) 19 (Value.bool false)) 19 (Value.bool false)) 20 undef) 21 undef) 22 undef) 23 undef) 24 (Value.bool false)) 7 (Value.bool false)) h4 (contX pl59 prog J 83 h.length 59 ct59 yp19 (codeOf f59) [] (RetQ prog [.tmp 4] h.length K))))) := top_eq pok59 ct59 (by kernel_rfl)
theorem g59 (hJ : Closed prog main J) {a0 a1 : Value} (hs : heapOk h → W prog J 83 h.length 59 (codeOf f59) (RG.mk (regs [a0,a1]) []) h (RetQ prog [.tmp 4] h.length K)) : Good prog J 59 [a0,a1] h K :=
 good_of_W hJ mixed at59 body59 (by kernel_rfl) (Nat.le_of_ble_eq_true rfl) hs
theorem s59_1 {f : RG} : W prog J 83 n0 59 (subC yp19 (codeOf f59)) f h (contX pl59 prog J 83 n0 59 ct59 yp19 (codeOf f59) [] (RetQ prog [.tmp 4] n0 K)) =
(cnd (f.r 7)
((∃ B,aNil (f.r 0) fun v1 =>
aOff v1 3 fun v2 =>
aLoad false 1 v2 h fun v3 =>
RdOk (some B) (ptrBlk v2) ∧ (aLoad true 2 (f.r 5) h fun v4 =>
RdOk (some B) (ptrBlk (f.r 5)) ∧ ((((1 * 2 : Nat) ≤ 16777216 ∧ (1 : Nat) ≤ 16777216 ∧ List.length [(vint 0),(vint 0)] = 2) ∧ aFill (zrep [(vint 0),(vint 0)] 1) [(0,2,v4)] fun c5 =>
aNewS 1 c5 h fun v6 h7 =>
SameB (some B) h h7 ∧ (((List.length [(vint 0),(vint 0)] = 2 ∧ 0 < (2 : Nat) ∧ 0 < (16 : Nat) ∧ (16 : Nat) ≤ 1024) ∧ aApp 2 v3 v6 h7 fun v8 h9 =>
SameB (some B) h h9 ∧ (aNil (f.r 0) fun v10 =>
aOff v10 3 fun v11 =>
aStore 1 v11 v8 h9 fun h12 =>
retL n0 K f.ds [(Value.bool true)] h12))))))))
(aLenS (f.r 1) fun v13 =>
aBin prog .eql 3 v13 (vint 5) fun v14 =>
cnd v14
(aIdx 1 (f.r 1) (vint 0) fun v15 =>
aLoad false 1 v15 h fun v16 =>
aBin prog .eql 9 v16 (Value.string { data := #[99,111,117,110,116] }) fun v17 =>
cnd v17
(aIdx 1 (f.r 1) (vint 1) fun v18 =>
aLoad false 1 v18 h fun v19 =>
aOff (f.r 6) 0 fun v20 =>
Good prog J 57 [v19,(Value.string { data := #[103,97,116,101] }),v20] h fun v21 h22 =>
cnd v21
(aIdx 1 (f.r 1) (vint 2) fun v23 =>
aLoad false 1 v23 h22 fun v24 =>
aOff (f.r 6) 1 fun v25 =>
Good prog J 57 [v24,(Value.string { data := #[109,97,110] }),v25] h22 fun v26 h27 =>
cnd v26
(aIdx 1 (f.r 1) (vint 3) fun v28 =>
aLoad false 1 v28 h27 fun v29 =>
aOff (f.r 6) 2 fun v30 =>
Good prog J 57 [v29,(Value.string { data := #[110,117,109,98,101,114] }),v30] h27 fun v31 h32 =>
cnd v31
(aIdx 1 (f.r 1) (vint 4) fun v33 =>
aLoad false 1 v33 h32 fun v34 =>
aOff (f.r 6) 3 fun v35 =>
Good prog J 57 [v34,(Value.string { data := #[101,114,114] }),v35] h32 fun v36 h37 =>
Hold (W prog J 83 n0 59 (subC yp9 (codeOf f59)) (RG.p (RG.p (RG.p (RG.p (RG.p (RG.p (RG.p (RG.p (RG.p (RG.p (RG.p (RG.p (RG.p (RG.p (RG.p (RG.p (RG.p (RG.p (RG.p (RG.p (RG.p (RG.p (RG.p (RG.p (RG.p (RG.p (RG.p (RG.p (RG.p (RG.p (RG.p (RG.p (RG.p (RG.p (RG.p (RG.p (RG.p (RG.p (RG.p (RG.p (RG.p (RG.p (RG.p f 36 (f.r 1)) 37 v13) 38 v14) 39 v14) 39 (Value.bool true)) 40 (f.r 1)) 41 v15) 42 v16) 43 v17) 44 v17) 45 v17) 45 (Value.bool true)) 46 (f.r 1)) 47 v18) 48 v19) 49 v20) 50 v21) 51 v21) 52 v21) 52 (Value.bool true)) 53 (f.r 1)) 54 v23) 55 v24) 56 v25) 57 v26) 58 v26) 59 v26) 59 (Value.bool true)) 60 (f.r 1)) 61 v28) 62 v29) 63 v30) 64 v31) 65 v31) 66 v31) 66 (Value.bool true)) 67 (f.r 1)) 68 v33) 69 v34) 70 v35) 71 v36) 72 v36) 35 v36) h37 (contX pl59 prog J 83 n0 59 ct59 yp9 (codeOf f59) [] (RetQ prog [.tmp 4] n0 K))))
(Hold (W prog J 83 n0 59 (subC yp9 (codeOf f59)) (RG.p (RG.p (RG.p (RG.p (RG.p (RG.p (RG.p (RG.p (RG.p (RG.p (RG.p (RG.p (RG.p (RG.p (RG.p (RG.p (RG.p (RG.p (RG.p (RG.p (RG.p (RG.p (RG.p (RG.p (RG.p (RG.p (RG.p (RG.p (RG.p (RG.p (RG.p (RG.p (RG.p (RG.p (RG.p (RG.p (RG.p (RG.p (RG.p (RG.p (RG.p (RG.p (RG.p f 36 (f.r 1)) 37 v13) 38 v14) 39 v14) 39 (Value.bool true)) 40 (f.r 1)) 41 v15) 42 v16) 43 v17) 44 v17) 45 v17) 45 (Value.bool true)) 46 (f.r 1)) 47 v18) 48 v19) 49 v20) 50 v21) 51 v21) 52 v21) 52 (Value.bool true)) 53 (f.r 1)) 54 v23) 55 v24) 56 v25) 57 v26) 58 v26) 59 v26) 59 (Value.bool true)) 60 (f.r 1)) 61 v28) 62 v29) 63 v30) 64 v31) 65 v31) 66 v31) 66 (Value.bool false)) 67 undef) 68 undef) 69 undef) 70 undef) 71 undef) 72 (Value.bool false)) 35 (Value.bool false)) h32 (contX pl59 prog J 83 n0 59 ct59 yp9 (codeOf f59) [] (RetQ prog [.tmp 4] n0 K)))))
(Hold (W prog J 83 n0 59 (subC yp9 (codeOf f59)) (RG.p (RG.p (RG.p (RG.p (RG.p (RG.p (RG.p (RG.p (RG.p (RG.p (RG.p (RG.p (RG.p (RG.p (RG.p (RG.p (RG.p (RG.p (RG.p (RG.p (RG.p (RG.p (RG.p (RG.p (RG.p (RG.p (RG.p (RG.p (RG.p (RG.p (RG.p (RG.p (RG.p (RG.p (RG.p (RG.p (RG.p (RG.p (RG.p (RG.p (RG.p (RG.p (RG.p f 36 (f.r 1)) 37 v13) 38 v14) 39 v14) 39 (Value.bool true)) 40 (f.r 1)) 41 v15) 42 v16) 43 v17) 44 v17) 45 v17) 45 (Value.bool true)) 46 (f.r 1)) 47 v18) 48 v19) 49 v20) 50 v21) 51 v21) 52 v21) 52 (Value.bool true)) 53 (f.r 1)) 54 v23) 55 v24) 56 v25) 57 v26) 58 v26) 59 v26) 59 (Value.bool false)) 60 undef) 61 undef) 62 undef) 63 undef) 64 undef) 65 (Value.bool false)) 66 (Value.bool false)) 66 (Value.bool false)) 67 undef) 68 undef) 69 undef) 70 undef) 71 undef) 72 (Value.bool false)) 35 (Value.bool false)) h27 (contX pl59 prog J 83 n0 59 ct59 yp9 (codeOf f59) [] (RetQ prog [.tmp 4] n0 K)))))
(Hold (W prog J 83 n0 59 (subC yp9 (codeOf f59)) (RG.p (RG.p (RG.p (RG.p (RG.p (RG.p (RG.p (RG.p (RG.p (RG.p (RG.p (RG.p (RG.p (RG.p (RG.p (RG.p (RG.p (RG.p (RG.p (RG.p (RG.p (RG.p (RG.p (RG.p (RG.p (RG.p (RG.p (RG.p (RG.p (RG.p (RG.p (RG.p (RG.p (RG.p (RG.p (RG.p (RG.p (RG.p (RG.p (RG.p (RG.p (RG.p (RG.p f 36 (f.r 1)) 37 v13) 38 v14) 39 v14) 39 (Value.bool true)) 40 (f.r 1)) 41 v15) 42 v16) 43 v17) 44 v17) 45 v17) 45 (Value.bool true)) 46 (f.r 1)) 47 v18) 48 v19) 49 v20) 50 v21) 51 v21) 52 v21) 52 (Value.bool false)) 53 undef) 54 undef) 55 undef) 56 undef) 57 undef) 58 (Value.bool false)) 59 (Value.bool false)) 59 (Value.bool false)) 60 undef) 61 undef) 62 undef) 63 undef) 64 undef) 65 (Value.bool false)) 66 (Value.bool false)) 66 (Value.bool false)) 67 undef) 68 undef) 69 undef) 70 undef) 71 undef) 72 (Value.bool false)) 35 (Value.bool false)) h22 (contX pl59 prog J 83 n0 59 ct59 yp9 (codeOf f59) [] (RetQ prog [.tmp 4] n0 K)))))
(Hold (W prog J 83 n0 59 (subC yp9 (codeOf f59)) (RG.p (RG.p (RG.p (RG.p (RG.p (RG.p (RG.p (RG.p (RG.p (RG.p (RG.p (RG.p (RG.p (RG.p (RG.p (RG.p (RG.p (RG.p (RG.p (RG.p (RG.p (RG.p (RG.p (RG.p (RG.p (RG.p (RG.p (RG.p (RG.p (RG.p (RG.p (RG.p (RG.p (RG.p (RG.p (RG.p (RG.p (RG.p (RG.p (RG.p (RG.p (RG.p (RG.p f 36 (f.r 1)) 37 v13) 38 v14) 39 v14) 39 (Value.bool true)) 40 (f.r 1)) 41 v15) 42 v16) 43 v17) 44 v17) 45 v17) 45 (Value.bool false)) 46 undef) 47 undef) 48 undef) 49 undef) 50 undef) 51 (Value.bool false)) 52 (Value.bool false)) 52 (Value.bool false)) 53 undef) 54 undef) 55 undef) 56 undef) 57 undef) 58 (Value.bool false)) 59 (Value.bool false)) 59 (Value.bool false)) 60 undef) 61 undef) 62 undef) 63 undef) 64 undef) 65 (Value.bool false)) 66 (Value.bool false)) 66 (Value.bool false)) 67 undef) 68 undef) 69 undef) 70 undef) 71 undef) 72 (Value.bool false)) 35 (Value.bool false)) h (contX pl59 prog J 83 n0 59 ct59 yp9 (codeOf f59) [] (RetQ prog [.tmp 4] n0 K)))))
(Hold (W prog J 83 n0 59 (subC yp9 (codeOf f59)) (RG.p (RG.p (RG.p (RG.p (RG.p (RG.p (RG.p (RG.p (RG.p (RG.p (RG.p (RG.p (RG.p (RG.p (RG.p (RG.p (RG.p (RG.p (RG.p (RG.p (RG.p (RG.p (RG.p (RG.p (RG.p (RG.p (RG.p (RG.p (RG.p (RG.p (RG.p (RG.p (RG.p (RG.p (RG.p (RG.p (RG.p (RG.p (RG.p (RG.p (RG.p (RG.p (RG.p f 36 (f.r 1)) 37 v13) 38 v14) 39 v14) 39 (Value.bool false)) 40 undef) 41 undef) 42 undef) 43 undef) 44 (Value.bool false)) 45 (Value.bool false)) 45 (Value.bool false)) 46 undef) 47 undef) 48 undef) 49 undef) 50 undef) 51 (Value.bool false)) 52 (Value.bool false)) 52 (Value.bool false)) 53 undef) 54 undef) 55 undef) 56 undef) 57 undef) 58 (Value.bool false)) 59 (Value.bool false)) 59 (Value.bool false)) 60 undef) 61 undef) 62 undef) 63 undef) 64 undef) 65 (Value.bool false)) 66 (Value.bool false)) 66 (Value.bool false)) 67 undef) 68 undef) 69 undef) 70 undef) 71 undef) 72 (Value.bool false)) 35 (Value.bool false)) h (contX pl59 prog J 83 n0 59 ct59 yp9 (codeOf f59) [] (RetQ prog [.tmp 4] n0 K)))))) := sub_eq pok59 ct59 (by kernel_rfl)
theorem s59_2 {f : RG} : W prog J 83 n0 59 (subC yp9 (codeOf f59)) f h (contX pl59 prog J 83 n0 59 ct59 yp9 (codeOf f59) [] (RetQ prog [.tmp 4] n0 K)) =
(cnd (f.r 35)
((∃ B,aNil (f.r 0) fun v1 =>
aOff v1 5 fun v2 =>
aLoad false 1 v2 h fun v3 =>
RdOk (some B) (ptrBlk v2) ∧ (aLoad true 4 (f.r 6) h fun v4 =>
RdOk (some B) (ptrBlk (f.r 6)) ∧ ((((1 * 4 : Nat) ≤ 16777216 ∧ (1 : Nat) ≤ 16777216 ∧ List.length [(vint 0),(vint 0),(vint 0),(vint 0)] = 4) ∧ aFill (zrep [(vint 0),(vint 0),(vint 0),(vint 0)] 1) [(0,4,v4)] fun c5 =>
aNewS 1 c5 h fun v6 h7 =>
SameB (some B) h h7 ∧ (((List.length [(vint 0),(vint 0),(vint 0),(vint 0)] = 4 ∧ 0 < (4 : Nat) ∧ 0 < (32 : Nat) ∧ (32 : Nat) ≤ 1024) ∧ aApp 4 v3 v6 h7 fun v8 h9 =>
SameB (some B) h h9 ∧ (aNil (f.r 0) fun v10 =>
aOff v10 5 fun v11 =>
aStore 1 v11 v8 h9 fun h12 =>
retL n0 K f.ds [(Value.bool true)] h12))))))))
(retL n0 K f.ds [(Value.bool false)] h)) := sub_eq pok59 ct59 (by kernel_rfl)
theorem at34 : prog.funcs[34]? = some f34 := by kernel_rfl
theorem body34 : f34.body = some (codeOf f34) := by kernel_rfl
def pl34 : Plans := []
def ct34 : Cuts := .bin (.go) (.bin (.go) (.bin (.go) (.bin (.go) (.bin (.bin (.go) (.un (.un (.bin (.go) (.bin (.go) (.bin (.un (.bin (.go) (.bin (.go) (.bin (.go) (.bin (.go) (.cut (.go))))))) (.go))))))) (.bin (.bin (.go) (.cut (.go))) (.go))))))
theorem pok34 : plansOk prog pl34 (codeOf f34) = true := by kernel_rfl
theorem e34 {a0 : Value} : W prog J 85 h.length 34 (codeOf f34) (RG.mk (regs [a0]) []) h (RetQ prog [.cell 2 27,.tmp 3] h.length K) =
(aAlloc [(vint 0),(vint 0),(vint 0),(Value.slice none 0 0),(vint 0),(Value.slice none 0 0)] h fun v1 h2 =>
aAlloc [(vint 0),(vint 0),(vint 0),(Value.slice none 0 0),(vint 0),(Value.slice none 0 0)] h2 fun v3 h4 =>
Good prog J 56 [a0,(Value.string { data := #[10] })] h4 fun v5 h6 =>
aLenS v5 fun v7 =>
aBin prog .sub 3 v7 (vint 1) fun v8 =>
aSl2 1 v5 none (some v8) h6 fun v9 =>
aLenS v9 fun v10 =>
Sem J 85 h.length 34 (subC yp0 (codeOf f34)) (RG.p (RG.p (RG.p (RG.p (RG.p (RG.p (RG.p (RG.p (RG.p (RG.p (RG.p (RG.p (RG.p (RG.p (RG.mk (regs [a0]) []) 2 v1) 3 (Value.nilIface)) 4 v3) 11 a0) 12 v5) 5 v5) 6 (Value.bool false)) 13 v5) 14 v5) 15 v7) 16 v8) 17 v9) 18 v10) 19 (vint 0)) h6 (contX pl34 prog J 85 h.length 34 ct34 yp0 (codeOf f34) [] (RetQ prog [.cell 2 27,.tmp 3] h.length K))) := top_eq pok34 ct34 (by kernel_rfl)
theorem g34 (hJ : Closed prog main J) {a0 : Value} (hs : heapOk h → W prog J 85 h.length 34 (codeOf f34) (RG.mk (regs [a0]) []) h (RetQ prog [.cell 2 27,.tmp 3] h.length K)) : Good prog J 34 [a0] h K :=
 good_of_W hJ mixed at34 body34 (by kernel_rfl) (Nat.le_of_ble_eq_true rfl) hs
theorem s34_1 {f : RG} {nx0 : RG → List AObj → Prop} : W prog J 85 n0 34 (subC yp4 (codeOf f34)) f h (thenK nx0 (contX pl34 prog J 85 n0 34 ct34 yp0 (codeOf f34) [] (RetQ prog [.cell 2 27,.tmp 3] n0 K))) =
(aBin prog .lss 3 (f.r 19) (f.r 18) fun v1 =>
cnd v1
(aIdx 1 (f.r 17) (f.r 19) fun v2 =>
aLoad false 1 v2 h fun v3 =>
Good prog J 56 [v3,(Value.string { data := #[32] })] h fun v4 h5 =>
cnd (f.r 6)
(Hold (W prog J 85 n0 34 (subC yp7 (codeOf f34)) (RG.p (RG.p (RG.p (RG.p (RG.p (RG.p (RG.p (RG.p (RG.p (RG.p (RG.p (RG.p f 20 v1) 21 (f.r 19)) 22 v2) 23 v3) 7 (f.r 19)) 8 v3) 24 v3) 25 v4) 9 v4) 10 (Value.bool false)) 29 (f.r 6)) 28 (f.r 6)) h5 (contX pl34 prog J 85 n0 34 ct34 yp7 (codeOf f34) [nx0] (RetQ prog [.cell 2 27,.tmp 3] n0 K))))
(aBin prog .eql 3 (f.r 19) (vint 0) fun v6 =>
cnd v6
(aLenS v4 fun v7 =>
aBin prog .eql 3 v7 (vint 3) fun v8 =>
cnd v8
(aIdx 1 v4 (vint 0) fun v9 =>
aLoad false 1 v9 h5 fun v10 =>
aOff (f.r 4) 0 fun v11 =>
Good prog J 57 [v10,(Value.string { data := #[103,97,116,101,115] }),v11] h5 fun v12 h13 =>
cnd v12
(aIdx 1 v4 (vint 1) fun v14 =>
aLoad false 1 v14 h13 fun v15 =>
aOff (f.r 4) 1 fun v16 =>
Good prog J 58 [v15,(Value.string { data := #[102,105,114,115,116] }),v16] h13 fun v17 h18 =>
cnd v17
(aIdx 1 v4 (vint 2) fun v19 =>
aLoad false 1 v19 h18 fun v20 =>
aOff (f.r 4) 4 fun v21 =>
Good prog J 57 [v20,(Value.string { data := #[108,111,115,116] }),v21] h18 fun v22 h23 =>
Hold (W prog J 85 n0 34 (subC yp7 (codeOf f34)) (RG.p (RG.p (RG.p (RG.p (RG.p (RG.p (RG.p (RG.p (RG.p (RG.p (RG.p (RG.p (RG.p (RG.p (RG.p (RG.p (RG.p (RG.p (RG.p (RG.p (RG.p (RG.p (RG.p (RG.p (RG.p (RG.p (RG.p (RG.p (RG.p (RG.p (RG.p (RG.p (RG.p (RG.p (RG.p (RG.p (RG.p (RG.p (RG.p (RG.p (RG.p (RG.p (RG.p f 20 v1) 21 (f.r 19)) 22 v2) 23 v3) 7 (f.r 19)) 8 v3) 24 v3) 25 v4) 9 v4) 10 (Value.bool false)) 29 (f.r 6)) 28 (f.r 6)) 31 (f.r 19)) 32 v6) 30 v6) 33 v4) 34 v7) 35 v8) 36 v8) 36 (Value.bool true)) 37 v4) 38 v9) 39 v10) 40 v11) 41 v12) 42 v12) 43 v12) 43 (Value.bool true)) 44 v4) 45 v14) 46 v15) 47 v16) 48 v17) 49 v17) 50 v17) 50 (Value.bool true)) 51 v4) 52 v19) 53 v20) 54 v21) 55 v22) 56 v22) 10 v22) h23 (contX pl34 prog J 85 n0 34 ct34 yp7 (codeOf f34) [nx0] (RetQ prog [.cell 2 27,.tmp 3] n0 K))))
(Hold (W prog J 85 n0 34 (subC yp7 (codeOf f34)) (RG.p (RG.p (RG.p (RG.p (RG.p (RG.p (RG.p (RG.p (RG.p (RG.p (RG.p (RG.p (RG.p (RG.p (RG.p (RG.p (RG.p (RG.p (RG.p (RG.p (RG.p (RG.p (RG.p (RG.p (RG.p (RG.p (RG.p (RG.p (RG.p (RG.p (RG.p (RG.p (RG.p (RG.p (RG.p (RG.p (RG.p (RG.p (RG.p (RG.p (RG.p (RG.p (RG.p f 20 v1) 21 (f.r 19)) 22 v2) 23 v3) 7 (f.r 19)) 8 v3) 24 v3) 25 v4) 9 v4) 10 (Value.bool false)) 29 (f.r 6)) 28 (f.r 6)) 31 (f.r 19)) 32 v6) 30 v6) 33 v4) 34 v7) 35 v8) 36 v8) 36 (Value.bool true)) 37 v4) 38 v9) 39 v10) 40 v11) 41 v12) 42 v12) 43 v12) 43 (Value.bool true)) 44 v4) 45 v14) 46 v15) 47 v16) 48 v17) 49 v17) 50 v17) 50 (Value.bool false)) 51 undef) 52 undef) 53 undef) 54 undef) 55 undef) 56 (Value.bool false)) 10 (Value.bool false)) h18 (contX pl34 prog J 85 n0 34 ct34 yp7 (codeOf f34) [nx0] (RetQ prog [.cell 2 27,.tmp 3] n0 K)))))
(Hold (W prog J 85 n0 34 (subC yp7 (codeOf f34)) (RG.p (RG.p (RG.p (RG.p (RG.p (RG.p (RG.p (RG.p (RG.p (RG.p (RG.p (RG.p (RG.p (RG.p (RG.p (RG.p (RG.p (RG.p (RG.p (RG.p (RG.p (RG.p (RG.p (RG.p (RG.p (RG.p (RG.p (RG.p (RG.p (RG.p (RG.p (RG.p (RG.p (RG.p (RG.p (RG.p (RG.p (RG.p (RG.p (RG.p (RG.p (RG.p (RG.p f 20 v1) 21 (f.r 19)) 22 v2) 23 v3) 7 (f.r 19)) 8 v3) 24 v3) 25 v4) 9 v4) 10 (Value.bool false)) 29 (f.r 6)) 28 (f.r 6)) 31 (f.r 19)) 32 v6) 30 v6) 33 v4) 34 v7) 35 v8) 36 v8) 36 (Value.bool true)) 37 v4) 38 v9) 39 v10) 40 v11) 41 v12) 42 v12) 43 v12) 43 (Value.bool false)) 44 undef) 45 undef) 46 undef) 47 undef) 48 undef) 49 (Value.bool false)) 50 (Value.bool false)) 50 (Value.bool false)) 51 undef) 52 undef) 53 undef) 54 undef) 55 undef) 56 (Value.bool false)) 10 (Value.bool false)) h13 (contX pl34 prog J 85 n0 34 ct34 yp7 (codeOf f34) [nx0] (RetQ prog [.cell 2 27,.tmp 3] n0 K)))))
(Hold (W prog J 85 n0 34 (subC yp7 (codeOf f34)) (RG.p (RG.p (RG.p (RG.p (RG.p (RG.p (RG.p (RG.p (RG.p (RG.p (RG.p (RG.p (RG.p (RG.p (RG.p (RG.p (RG.p (RG.p (RG.p (RG.p (RG.p (RG.p (RG.p (RG.p (RG.p (RG.p (RG.p (RG.p (RG.p (RG.p (RG.p (RG.p (RG.p (RG.p (RG.p (RG.p (RG.p (RG.p (RG.p (RG.p (RG.p (RG.p (RG.p f 20 v1) 21 (f.r 19)) 22 v2) 23 v3) 7 (f.r 19)) 8 v3) 24 v3) 25 v4) 9 v4) 10 (Value.bool false)) 29 (f.r 6)) 28 (f.r 6)) 31 (f.r 19)) 32 v6) 30 v6) 33 v4) 34 v7) 35 v8) 36 v8) 36 (Value.bool false)) 37 undef) 38 undef) 39 undef) 40 undef) 41 undef) 42 (Value.bool false)) 43 (Value.bool false)) 43 (Value.bool false)) 44 undef) 45 undef) 46 undef) 47 undef) 48 undef) 49 (Value.bool false)) 50 (Value.bool false)) 50 (Value.bool false)) 51 undef) 52 undef) 53 undef) 54 undef) 55 undef) 56 (Value.bool false)) 10 (Value.bool false)) h5 (contX pl34 prog J 85 n0 34 ct34 yp7 (codeOf f34) [nx0] (RetQ prog [.cell 2 27,.tmp 3] n0 K)))))
(aBin prog .eql 9 v3 (Value.string { data := #[116,97,108,108,105,101,100] }) fun v24 =>
cnd v24
(Hold (W prog J 85 n0 34 (subC yp7 (codeOf f34)) (RG.p (RG.p (RG.p (RG.p (RG.p (RG.p (RG.p (RG.p (RG.p (RG.p (RG.p (RG.p (RG.p (RG.p (RG.p (RG.p (RG.p (RG.p (RG.p (RG.p f 20 v1) 21 (f.r 19)) 22 v2) 23 v3) 7 (f.r 19)) 8 v3) 24 v3) 25 v4) 9 v4) 10 (Value.bool false)) 29 (f.r 6)) 28 (f.r 6)) 31 (f.r 19)) 32 v6) 30 v6) 58 v3) 59 v24) 57 v24) 6 (Value.bool true)) 10 (Value.bool true)) h5 (contX pl34 prog J 85 n0 34 ct34 yp7 (codeOf f34) [nx0] (RetQ prog [.cell 2 27,.tmp 3] n0 K))))
(Good prog J 59 [(f.r 4),v4] h5 fun v25 h26 =>
Hold (W prog J 85 n0 34 (subC yp7 (codeOf f34)) (RG.p (RG.p (RG.p (RG.p (RG.p (RG.p (RG.p (RG.p (RG.p (RG.p (RG.p (RG.p (RG.p (RG.p (RG.p (RG.p (RG.p (RG.p (RG.p (RG.p (RG.p f 20 v1) 21 (f.r 19)) 22 v2) 23 v3) 7 (f.r 19)) 8 v3) 24 v3) 25 v4) 9 v4) 10 (Value.bool false)) 29 (f.r 6)) 28 (f.r 6)) 31 (f.r 19)) 32 v6) 30 v6) 58 v3) 59 v24) 57 v24) 26 v4) 27 v25) 10 v25) h26 (contX pl34 prog J 85 n0 34 ct34 yp7 (codeOf f34) [nx0] (RetQ prog [.cell 2 27,.tmp 3] n0 K)))))))
(aUn .not (f.r 6) fun v27 =>
cnd v27
(Hold (W prog J 85 n0 34 (subC yp2 (codeOf f34)) (RG.p (RG.p (RG.p (RG.p (RG.p (RG.p (RG.p (RG.p (RG.p (RG.p (RG.p (RG.p (RG.p f 20 v1) 68 (f.r 6)) 69 v27) 70 v27) 70 (Value.bool true)) 71 undef) 72 undef) 73 undef) 74 undef) 75 undef) 76 undef) 77 undef) 78 (Value.bool true)) h (contX pl34 prog J 85 n0 34 ct34 yp2 (codeOf f34) [] (RetQ prog [.cell 2 27,.tmp 3] n0 K))))
(aLenS (f.r 5) fun v28 =>
aBin prog .sub 3 v28 (vint 1) fun v29 =>
aIdx 1 (f.r 5) v29 fun v30 =>
aLoad false 1 v30 h fun v31 =>
aBin prog .neq 9 v31 (Value.string { data := #[] }) fun v32 =>
Hold (W prog J 85 n0 34 (subC yp2 (codeOf f34)) (RG.p (RG.p (RG.p (RG.p (RG.p (RG.p (RG.p (RG.p (RG.p (RG.p (RG.p (RG.p (RG.p f 20 v1) 68 (f.r 6)) 69 v27) 70 v27) 70 (Value.bool false)) 71 (f.r 5)) 72 (f.r 5)) 73 v28) 74 v29) 75 v30) 76 v31) 77 v32) 78 v32) h (contX pl34 prog J 85 n0 34 ct34 yp2 (codeOf f34) [] (RetQ prog [.cell 2 27,.tmp 3] n0 K)))))) := sub_eq pok34 ct34 (by kernel_rfl)
theorem l34_1 (hJ : Closed prog main J) {S : Type} (μ : S → Nat) (I : S → RG → List AObj → Prop) (hI : ∀ s f h,I s f h → heapOk h → n0 ≤ h.length → W prog J 85 n0 34 (subC yp4 (codeOf f34)) f h (thenK (Nx n0 μ I s) (contX pl34 prog J 85 n0 34 ct34 yp0 (codeOf f34) [] (RetQ prog [.cell 2 27,.tmp 3] n0 K))))
 {s : S} {f : RG} (hi : Gets n0 I s f h) : Sem J 85 n0 34 (subC yp0 (codeOf f34)) f h (contX pl34 prog J 85 n0 34 ct34 yp0 (codeOf f34) [] (RetQ prog [.cell 2 27,.tmp 3] n0 K)) :=
 loop_rule hJ mixed (b := subC yp4 (codeOf f34)) (by kernel_rfl) μ I hI hi
theorem s34_2 {f : RG} {nx0 : RG → List AObj → Prop} : W prog J 85 n0 34 (subC yp7 (codeOf f34)) f h (contX pl34 prog J 85 n0 34 ct34 yp7 (codeOf f34) [nx0] (RetQ prog [.cell 2 27,.tmp 3] n0 K)) =
(aUn .not (f.r 10) fun v1 =>
cnd v1
(aFill [(vint 0),(vint 0),(vint 0),(Value.slice none 0 0),(vint 0),(Value.slice none 0 0)] [] fun c2 =>
aBin prog .add 3 (f.r 7) (vint 1) fun v3 =>
aFill [(vint 0)] [(0,1,v3)] fun c4 =>
aMkI prog 76 (Value.agg ⟨c4⟩) fun v5 =>
aStore 6 (f.r 2) (Value.agg ⟨c2⟩) h fun h6 =>
RetQ prog [.cell 2 27,.tmp 3] n0 K .ret (RG.p (RG.p (RG.p (RG.p (RG.p (RG.p (RG.p (RG.p f 60 (f.r 10)) 61 v1) 62 (Value.agg ⟨c2⟩)) 63 (f.r 7)) 64 v3) 65 (Value.agg ⟨c4⟩)) 66 v5) 3 v5) h6)
(aBin prog .add 3 (f.r 19) (vint 1) fun v7 =>
nx0 (RG.p (RG.p (RG.p (RG.p f 60 (f.r 10)) 61 v1) 67 v7) 19 v7) h)) := sub_eq pok34 ct34 (by kernel_rfl)
theorem s34_3 {f : RG} : W prog J 85 n0 34 (subC yp2 (codeOf f34)) f h (contX pl34 prog J 85 n0 34 ct34 yp2 (codeOf f34) [] (RetQ prog [.cell 2 27,.tmp 3] n0 K)) =
(cnd (f.r 78)
(aFill [(vint 0),(vint 0),(vint 0),(Value.slice none 0 0),(vint 0),(Value.slice none 0 0)] [] fun c1 =>
aLenS (f.r 5) fun v2 =>
aFill [(vint 0)] [(0,1,v2)] fun c3 =>
aMkI prog 76 (Value.agg ⟨c3⟩) fun v4 =>
aStore 6 (f.r 2) (Value.agg ⟨c1⟩) h fun h5 =>
RetQ prog [.cell 2 27,.tmp 3] n0 K .ret (RG.p (RG.p (RG.p (RG.p (RG.p (RG.p f 79 (Value.agg ⟨c1⟩)) 80 (f.r 5)) 81 v2) 82 (Value.agg ⟨c3⟩)) 83 v4) 3 v4) h5)
(aLoad true 6 (f.r 4) h fun v6 =>
aStore 6 (f.r 2) v6 h fun h7 =>
RetQ prog [.cell 2 27,.tmp 3] n0 K .ret (RG.p (RG.p f 84 v6) 3 (Value.nilIface)) h7)) := sub_eq pok34 ct34 (by kernel_rfl)
theorem at12 : prog.funcs[12]? = some f12 := by kernel_rfl
theorem body12 : f12.body = some (codeOf f12) := by kernel_rfl
def pl12 : Plans := [(6,false,.take 0 (.take 1 (.take 2 (.last 3 true (.take 4 (.take 5 (.fin)))))))]
def ct12 : Cuts := .go
theorem pok12 : plansOk prog pl12 (codeOf f12) = true := by kernel_rfl
theorem e12 {a0 : Value} : W prog J 31 h.length 12 (codeOf f12) (RG.mk (regs [a0]) []) h (RetQ prog [.cell 2 27,.tmp 3,.tmp 4] h.length K) =
(aAlloc [(vint 0),(vint 0),(vint 0),(Value.slice none 0 0),(vint 0),(Value.slice none 0 0)] h fun v1 h2 =>
aLenStr a0 fun v3 =>
aBin prog .gtr 3 v3 (vint 300) fun v4 =>
cnd v4
(aFill [(vint 0),(vint 0),(vint 0),(Value.slice none 0 0),(vint 0),(Value.slice none 0 0)] [] fun c5 =>
aStore 6 v1 (Value.agg ⟨c5⟩) h2 fun h6 =>
RetQ prog [.cell 2 27,.tmp 3,.tmp 4] h.length K .ret (RG.p (RG.p (RG.p (RG.p (RG.p (RG.p (RG.p (RG.p (RG.p (RG.mk (regs [a0]) []) 2 v1) 3 (vint 0)) 4 (vint 0)) 9 a0) 10 v3) 11 v4) 12 (Value.agg ⟨c5⟩)) 3 (vint 0)) 4 (vint 10)) h6)
(Good prog J 34 [a0] h2 fun v7 h8 =>
aExt v7 0 fun v9 =>
aExt v7 1 fun v10 =>
aAlloc [(vint 0),(vint 0),(vint 0),(Value.slice none 0 0),(vint 0),(Value.slice none 0 0)] h8 fun v11 h12 =>
aStore 6 v11 v9 h12 fun h13 =>
aAlloc [(vint 0)] h13 fun v14 h15 =>
aMkI prog 78 v14 fun v16 =>
Good prog J 35 [v10,v16] h15 fun v17 h18 =>
cnd v17
((∃ B,aFill [(vint 0),(vint 0),(vint 0),(Value.slice none 0 0),(vint 0),(Value.slice none 0 0)] [] fun c19 =>
aOff v14 0 fun v20 =>
aLoad false 1 v20 h18 fun v21 =>
RdOk (some B) (ptrBlk v20) ∧ (aStore 6 v1 (Value.agg ⟨c19⟩) h18 fun h22 =>
SameB (some B) h18 h22 ∧ (RetQ prog [.cell 2 27,.tmp 3,.tmp 4] h.length K .ret (RG.p (RG.p (RG.p (RG.p (RG.p (RG.p (RG.p (RG.p (RG.p (RG.p (RG.p (RG.p (RG.p (RG.p (RG.p (RG.p (RG.p (RG.p (RG.p (RG.p (RG.p (RG.p (RG.mk (regs [a0]) []) 2 v1) 3 (vint 0)) 4 (vint 0)) 9 a0) 10 v3) 11 v4) 14 a0) 15 v7) 13 v7) 16 v9) 17 v10) 5 v11) 6 v10) 7 v14) 18 v10) 19 v16) 20 v17) 21 (Value.agg ⟨c19⟩)) 22 v20) 23 v21) 3 v21) 4 (vint 2)) h22))))
(aLoad true 6 v11 h18 fun v23 =>
Good prog J 26 [v23] h18 fun v24 h25 =>
aBin prog .neq 36 v24 (vint 0) fun v26 =>
cnd v26
(aFill [(vint 0),(vint 0),(vint 0),(Value.slice none 0 0),(vint 0),(Value.slice none 0 0)] [] fun c27 =>
aStore 6 v1 (Value.agg ⟨c27⟩) h25 fun h28 =>
RetQ prog [.cell 2 27,.tmp 3,.tmp 4] h.length K .ret (RG.p (RG.p (RG.p (RG.p (RG.p (RG.p (RG.p (RG.p (RG.p (RG.p (RG.p (RG.p (RG.p (RG.p (RG.p (RG.p (RG.p (RG.p (RG.p (RG.p (RG.p (RG.p (RG.p (RG.p (RG.p (RG.p (RG.mk (regs [a0]) []) 2 v1) 3 (vint 0)) 4 (vint 0)) 9 a0) 10 v3) 11 v4) 14 a0) 15 v7) 13 v7) 16 v9) 17 v10) 5 v11) 6 v10) 7 v14) 18 v10) 19 v16) 20 v17) 24 v23) 25 v24) 8 v24) 26 v24) 27 v26) 28 (Value.agg ⟨c27⟩)) 29 v24) 3 (vint 0)) 4 v24) h28)
(aLoad true 6 v11 h25 fun v29 =>
aStore 6 v1 v29 h25 fun h30 =>
RetQ prog [.cell 2 27,.tmp 3,.tmp 4] h.length K .ret (RG.p (RG.p (RG.p (RG.p (RG.p (RG.p (RG.p (RG.p (RG.p (RG.p (RG.p (RG.p (RG.p (RG.p (RG.p (RG.p (RG.p (RG.p (RG.p (RG.p (RG.p (RG.p (RG.p (RG.p (RG.p (RG.mk (regs [a0]) []) 2 v1) 3 (vint 0)) 4 (vint 0)) 9 a0) 10 v3) 11 v4) 14 a0) 15 v7) 13 v7) 16 v9) 17 v10) 5 v11) 6 v10) 7 v14) 18 v10) 19 v16) 20 v17) 24 v23) 25 v24) 8 v24) 26 v24) 27 v26) 30 v29) 3 (vint 0)) 4 (vint 0)) h30)))) := top_eq pok12 ct12 (by kernel_rfl)
theorem g12 (hJ : Closed prog main J) {a0 : Value} (hs : heapOk h → W prog J 31 h.length 12 (codeOf f12) (RG.mk (regs [a0]) []) h (RetQ prog [.cell 2 27,.tmp 3,.tmp 4] h.length K)) : Good prog J 12 [a0] h K :=
 good_of_W hJ mixed at12 body12 (by kernel_rfl) (Nat.le_of_ble_eq_true rfl) hs
end
end Go.Proofs.YtlladcglhjlbpaaGreatDoor
namespace Go.Proofs.YtlladcglhjlbpaaGreatDoor
open Go.Conc Go.Proofs.Tryz
set_option maxRecDepth 100000
theorem valB_snoc (l : List UInt8) (x : UInt8) : valB (l ++ [x]) = valB l * 10 + ((x.toNat : Int) - 48) := by simp [valB,List.foldl_append]
theorem isDig_iff {b : UInt8} : isDig b = true ↔ 48 ≤ b.toNat ∧ b.toNat ≤ 57 := by simp [isDig]
theorem valB_from : ∀ (l : List UInt8) (a : Int),0 ≤ a → l.all isDig = true → 0 ≤ l.foldl (fun n b => n * 10 + ((b.toNat : Int) - 48)) a ∧ l.foldl (fun n b => n * 10 + ((b.toNat : Int) - 48)) a < (a + 1) * 10 ^ l.length
 | [],a,ha,_ => by
  simp
  omega
 | x :: l,a,ha,h => by
  rw [List.all_cons,Bool.and_eq_true,isDig_iff] at h
  obtain ⟨hx,h⟩ := h
  obtain ⟨i1,i2⟩ := valB_from l (a * 10 + ((x.toNat : Int) - 48)) (by omega) h
  rw [List.foldl_cons,List.length_cons,Int.pow_succ,Int.mul_comm (10 ^ l.length) 10,← Int.mul_assoc]
  refine ⟨i1,Int.lt_of_lt_of_le i2 (Int.mul_le_mul_of_nonneg_right (by omega) (Int.le_of_lt (Int.pow_pos (by decide))))⟩
theorem valB_bnd (l : List UInt8) (h : l.all isDig = true) : 0 ≤ valB l ∧ valB l < 10 ^ l.length := by
 have := valB_from l 0 (Int.le_refl _) h
 simpa [valB] using this
theorem valB_small {l : List UInt8} (h : l.all isDig = true) (hl : l.length ≤ 3) : 0 ≤ valB l ∧ valB l ≤ 999 := by
 obtain ⟨a,b⟩ := valB_bnd l h
 have : (10 : Int) ^ l.length ≤ 1000 := by
  rcases hn : l.length with _ | _ | _ | _ | n
  ·decide
  ·decide
  ·decide
  ·decide
  ·omega
 omega
theorem sign_after (s : List UInt8) : (∃ u,afterB [45] s = some u ∧ signB s = (true,u)) ∨ (afterB [45] s = none ∧ signB s = (false,s)) := by
 cases s with
 | nil => exact .inr ⟨rfl,rfl⟩
 | cons b r =>
  by_cases hb : b = 45
  ·subst hb
   exact .inl ⟨r,by simp [afterB,List.isPrefixOf],rfl⟩
  ·refine .inr ⟨?_,?_⟩
   ·have : ([45] : List UInt8).isPrefixOf (b :: r) = false := by
     simp [List.isPrefixOf]
     exact fun e => hb e.symm
    exact after_false this
   ·unfold signB
    split
    ·rename_i d e
     simp only [List.cons.injEq] at e
     exact absurd e.1 hb
    ·rfl
section
variable {main : Bool} {J : JT} {H : List AObj} {K : Value → List AObj → Prop} {KV : Value → Prop} {F : RG} {n0 : Nat}
theorem lssK {t : TypeId} {k : IntKind} {a b : Int} (hk : KV (.bool (decide (a < b)))) : aBin prog .lss t (.int k a) (.int k b) KV := ⟨rfl,hk⟩
theorem gtrK {t : TypeId} {k : IntKind} {a b : Int} (hk : KV (.bool (decide (a > b)))) : aBin prog .gtr t (.int k a) (.int k b) KV := ⟨rfl,hk⟩
theorem cvI64 {x : Int} (h : 0 ≤ x ∧ x < 256) (hk : KV (vint x)) : aConvI .i64 (.int .u8 x) KV := by
 refine cvK ?_ hk
 simp only [IntKind.wrap,IntKind.bits,IntKind.signed]
 simp
 omega
theorem subU {t : TypeId} {a : Int} (h : 48 ≤ a ∧ a < 256) (hk : KV (.int .u8 (a - 48))) : aBin prog .sub t (.int .u8 a) (.int .u8 48) KV := ⟨rfl,by
 show KV (.int .u8 (IntKind.u8.wrap (a - 48)))
 rw [wrap_u8 (by omega) (by omega)]
 exact hk⟩
theorem who_1 (hJ : Closed prog main J) {d : List UInt8} {mb : Bool} {b o : Nat} {cs : List Value} {sz : Nat} (hl : d.length ≤ 2000) (ds : F.ds = []) (r1 : F.r 1 = ptr b o) (r5 : F.r 5 = strV d) (r6 : F.r 6 = .bool mb) {pre : Bool} (r34 : F.r 34 = .bool (!pre)) (hpre : pre = true → d.length ≤ 3)
  (hb : H[b]? = some (.cells cs true sz)) (ho : o < cs.length)
  (k1 : (pre && d.all isDig) = true → K (.bool true) (H.set b (.cells (cs.set o (vint (if mb then -valB d else valB d))) true sz))) (k2 : (pre && d.all isDig) = false → K (.bool false) H) :
  W prog J 65 n0 85 (subC [1,1,0,1] (codeOf f85)) F H (contX pl85 prog J 65 n0 85 ct85 [1,1,0,1] (codeOf f85) [] (RetQ prog [.tmp 4] n0 K)) := by
 rw [s85_1]
 simp only [ds,r5,r34]
 cases pre with
 | false => exact cnd_true.2 (retL_same (by simp [unk]) (k2 rfl))
 | true =>
  have hd3 := hpre rfl
  simp only [Bool.true_and] at k1 k2
  refine cnd_false.2 (lenStr ?_)
  refine l85_2 hJ (S := Nat) (fun i => d.length + 1 - i) (fun i F H' => H' = H ∧ i ≤ d.length ∧ F.ds = [] ∧ F.r 1 = ptr b o ∧ F.r 5 = strV d ∧ F.r 6 = .bool mb ∧ F.r 36 = vint (d.length : Nat) ∧ F.r 37 = vint (i : Nat) ∧ F.r 7 = vint (valB (d.take i)) ∧ (d.take i).all isDig = true) ?_ (s := 0) (.inl ⟨rfl,Nat.zero_le _,ds,r1,r5,r6,rfl,rfl,rfl,rfl⟩)
  rintro i F H' ⟨rfl,hi,ds,r1,r5,r6,r36,r37,r7,hall⟩ ok' hn'
  rw [s85_2]
  simp only [ds,r1,r5,r6,r36,r37,r7]
  have hbd := valB_small hall (by simp; omega)
  refine lssI (cndI (fun hlt => ?_) fun hge => ?_)
  ·have hil : i < d.length := by omega
   have hx : d[i]? = some d[i] := List.getElem?_eq_getElem hil
   generalize d[i] = x at hx
   have hxl := x.toNat_lt
   have htk := take_snoc hx
   have bad : isDig x = false → d.all isDig = false := fun h => by
    cases ha : d.all isDig with
    | false => rfl
    | true =>
     rw [List.all_eq_true] at ha
     rw [ha x (List.mem_of_getElem? hx)] at h
     cases h
   have out : ∀ {F : RG} {b2 : Bool},F.ds = [] → F.r 49 = .bool b2 → F.r 7 = vint (valB (d.take i)) → F.r 5 = strV d → F.r 8 = vint (i : Nat) → F.r 37 = vint (i : Nat) → F.r 1 = ptr b o → F.r 6 = .bool mb → F.r 36 = vint (d.length : Nat) → isDig x = !b2 → _ := fun {F b2} ds r49 r7 r5 r8 r37 r1 r6 r36 hdig => show W prog J 65 n0 85 (subC yp28 (codeOf f85)) F H' (contX pl85 prog J 65 n0 85 ct85 yp28 (codeOf f85) [Nx n0 (fun i => d.length + 1 - i) (fun i F H2 => H2 = H' ∧ i ≤ d.length ∧ F.ds = [] ∧ F.r 1 = ptr b o ∧ F.r 5 = strV d ∧ F.r 6 = .bool mb ∧ F.r 36 = vint (d.length : Nat) ∧ F.r 37 = vint (i : Nat) ∧ F.r 7 = vint (valB (d.take i)) ∧ (d.take i).all isDig = true) i] (RetQ prog [.tmp 4] n0 K)) by
    rw [s85_3]
    simp only [ds,r49,r7,r5,r8,r37]
    cases b2 with
    | true => exact cnd_true.2 (retL_same (by simp [unk]) (k2 (bad hdig)))
    | false =>
     have hdig : isDig x = true := hdig
     rw [isDig_iff] at hdig
     refine cnd_false.2 (mulI ⟨by omega,by omega⟩ (idS hx (subU ⟨by omega,by omega⟩ (cvI64 ⟨by omega,by omega⟩ (addI ⟨by omega,by omega⟩ (addI ⟨by omega,by omega⟩ ⟨i + 1,by dsimp only; omega,.inl ⟨rfl,by omega,ds,r1,r5,r6,r36,rfl,?_,?_⟩⟩))))))
     ·show vint _ = vint _
      rw [htk,valB_snoc]
     ·rw [htk,List.all_append,hall]
      simp [isDig_iff,hdig]
   refine idS hx (lssK (cndI (fun hlo => hold.2 ?_) fun hlo => idS hx (gtrK (hold.2 ?_))))
   ·exact out ds rfl r7 r5 rfl r37 r1 r6 r36 (by
     have : ¬ (48 ≤ x.toNat) := by omega
     simp [isDig,this])
   ·refine out ds rfl r7 r5 rfl r37 r1 r6 r36 ?_
    have h48 : 48 ≤ x.toNat := by omega
    simp only [isDig,decide_eq_true h48,Bool.true_and]
    rw [← decide_not]
    congr 1
    exact propext ⟨fun h => by omega,fun h => by omega⟩
  ·have hid : i = d.length := by omega
   subst hid
   rw [List.take_length] at hall hbd
   simp only [List.take_length]
   have kk := k1 hall
   cases mb with
   | true => exact cnd_true.2 (negI ⟨by omega,by omega⟩ (nilI (store_cell hb ho rfl rfl (retL_same (by simp [unk]) kk))))
   | false => exact cnd_false.2 (nilI (store_cell hb ho rfl rfl (retL_same (by simp [unk]) kk)))
theorem sign_len (s : List UInt8) : (signB s).2.length ≤ s.length := by
 rcases sign_after s with ⟨u,h,e⟩ | ⟨_,e⟩
 ·rw [e]
  unfold afterB at h
  split at h
  ·cases h
   simp
  ·cases h
 ·rw [e]
  exact Nat.le_refl _
theorem good84m (hJ : Closed prog main J) {s : List UInt8} (hK : K (.tuple ⟨[strV (signB s).2,.bool (signB s).1]⟩) H) : Good prog J 84 [strV s,strV [45]] H K := by
 rcases sign_after s with ⟨u,h,e⟩ | ⟨h,e⟩
 ·rw [e] at hK
  exact good84 hJ (fun u' h' _ => by
   rw [h] at h'
   cases h'
   exact hK) fun h' => by
    rw [h] at h'
    cases h'
 ·rw [e] at hK
  exact good84 hJ (fun u' h' _ => by
   rw [h] at h'
   cases h') fun _ => hK
theorem eqU48 {t : TypeId} {a : UInt8} (hk : KV (.bool (decide (a = 48)))) : aBin prog .eql t (.int .u8 a.toNat) (.int .u8 48) KV := eqU (b := 48) hk
theorem good85 (hJ : Closed prog main J) {s : List UInt8} (hs : s.length ≤ 2000) {b o : Nat} {cs : List Value} {sz : Nat} (hb : H[b]? = some (.cells cs true sz)) (ho : o < cs.length)
  (k1 : ∀ n,wholeB s = some n → K (.bool true) (H.set b (.cells (cs.set o (vint n)) true sz))) (k2 : wholeB s = none → K (.bool false) H) : Good prog J 85 [strV s,ptr b o] H K := by
 refine g85 hJ fun ok => ?_
 rw [e85]
 refine good84m hJ (ext0 (ext1 ?_))
 have hdl := sign_len s
 unfold wholeB at k1 k2
 generalize hd : (signB s).2 = d at *
 generalize (signB s).1 = mb at *
 unfold digsOk at k1 k2
 have k1 : ∀ pre,pre = (decide (1 ≤ d.length) && decide (d.length ≤ 3) && !(d.head? == some 48 && (mb || decide (1 < d.length)))) → (pre && d.all isDig) = true → K (.bool true) (H.set b (.cells (cs.set o (vint (if mb then -valB d else valB d))) true sz)) := fun pre e h => k1 _ (by rw [← e,if_pos h])
 have k2 : ∀ pre,pre = (decide (1 ≤ d.length) && decide (d.length ≤ 3) && !(d.head? == some 48 && (mb || decide (1 < d.length)))) → (pre && d.all isDig) = false → K (.bool false) H := fun pre e h => k2 (by rw [← e,if_neg (by simp [h])])
 have go : ∀ {F : RG} (pre : Bool),F.ds = [] → F.r 1 = ptr b o → F.r 5 = strV d → F.r 6 = .bool mb → F.r 34 = .bool (!pre) → pre = (decide (1 ≤ d.length) && decide (d.length ≤ 3) && !(d.head? == some 48 && (mb || decide (1 < d.length)))) → _ := fun {F} pre ds r1 r5 r6 r34 hp =>
  who_1 (n0 := H.length) (F := F) hJ (by omega) ds r1 r5 r6 r34 (fun h => by
   rw [h] at hp
   have := hp.symm
   simp only [Bool.and_eq_true,decide_eq_true_eq] at this
   omega) hb ho (k1 pre hp) (k2 pre hp)
 refine lenStr (lssI (cndI (fun h => hold.2 ?_) fun h1 => lenStr (gtrI (cndI (fun h => hold.2 ?_) fun h3 => ?_))))
 ·exact go false rfl rfl rfl rfl rfl (by rw [decide_eq_false (by omega : ¬ 1 ≤ d.length)]; rfl)
 ·exact go false rfl rfl rfl rfl rfl (by rw [decide_eq_false (by omega : ¬ d.length ≤ 3),Bool.and_false]; rfl)
 ·cases d with
  | nil => exact absurd (by simp) h1
  | cons x r =>
   have e1 : decide (1 ≤ (x :: r).length) = true := decide_eq_true (by simp)
   have e3 : decide ((x :: r).length ≤ 3) = true := decide_eq_true (by omega)
   rw [e1,e3] at go
   simp only [Bool.true_and,List.head?_cons] at go
   refine idS (j := 0) (b := x) rfl (eqU48 (cndI (fun hx => ?_) fun hx => hold.2 ?_))
   ·subst hx
    cases mb with
    | true => exact cnd_true.2 (hold.2 (go false rfl rfl rfl rfl rfl (by simp)))
    | false =>
     refine cnd_false.2 (lenStr (gtrI (hold.2 ?_)))
     refine go (!decide (1 < (48 :: r : List UInt8).length)) rfl rfl rfl rfl ?_ (by simp)
     show Value.bool (decide (((48 :: r : List UInt8).length : Int) > 1)) = _
     rw [Bool.not_not]
     congr 2
     exact propext ⟨fun h => by omega,fun h => by omega⟩
   ·exact go true rfl rfl rfl rfl rfl (by
     have : (some x == some (48 : UInt8)) = false := by simpa using hx
     rw [this]
     rfl)
theorem good57 (hJ : Closed prog main J) {w p : List UInt8} (hw : w.length ≤ 2000) (hp : p.length ≤ 100) {b o : Nat} {cs : List Value} {sz : Nat} (hb : H[b]? = some (.cells cs true sz)) (ho : o < cs.length)
  (k1 : ∀ n,numB p w = some n → K (.bool true) (H.set b (.cells (cs.set o (vint n)) true sz))) (k2 : numB p w = none → K (.bool false) H) : Good prog J 57 [strV w,strV p,ptr b o] H K := by
 refine g57 hJ fun ok => ?_
 rw [e57]
 refine catC (v := [61]) (by simp; omega) (good84 hJ (fun u h hl => ext0 (ext1 (cnd_true.2 ?_))) fun h => ext0 (ext1 (cnd_false.2 (retL_same (by simp [unk]) ?_))))
 ·refine good85 hJ (by omega) hb ho (fun n hn => retL_same (by simp [unk]) (k1 n ?_)) fun hn => retL_same (by simp [unk]) (k2 ?_)
  ·unfold numB
   rw [h]
   exact hn
  ·unfold numB
   rw [h]
   exact hn
 ·exact k2 (by unfold numB; rw [h]; rfl)
theorem good58 (hJ : Closed prog main J) {m : Int} (hm : MaxAt H m) {w p : List UInt8} (hw : w.length ≤ 2000) (hp : p.length ≤ 100) {b o : Nat} {cs : List Value} {sz : Nat} (hb : H[b]? = some (.cells cs true sz)) (ho : o + 1 < cs.length)
  (k1 : ∀ r,rngB p w = some r → K (.bool true) (H.set b (.cells ((cs.set o (vint r.lo)).set (o + 1) (vint r.hi)) true sz))) (k2 : rngB p w = none → K (.bool false) H) (k3 : rngB p w = none → ∀ n,K (.bool false) (H.set b (.cells (cs.set o (vint n)) true sz))) :
  Good prog J 58 [strV w,strV p,ptr b o] H K := by
 refine g58 hJ fun ok => ?_
 rw [e58]
 refine catC (v := [61]) (by simp; omega) (good84 hJ (fun u h hl => ext0 (ext1 ?_)) fun h => ext0 (ext1 ?_))
 ·have hr : ∀ {x : Option Rng},((cut2 u).bind fun x => (wholeB x.1).bind fun a => (wholeB x.2).map fun b => (⟨a,b⟩ : Rng)) = x → rngB p w = x := fun hx => by
   unfold rngB
   rw [h]
   exact hx
  refine good86 hJ hm (by omega) (fun a c hc ha hcl => ext30 (ext31 (ext32 (cnd_true.2 (cnd_true.2 (nilI (offI ?_))))))) fun hc => ext30 (ext31 (ext32 (cnd_true.2 (cnd_false.2 (retL_same (by simp [unk]) (k2 (hr (by rw [hc]; rfl))))))))
  refine good85 hJ (by omega) hb (by omega) (fun x hx => cnd_true.2 (nilI (offI ?_))) fun hx => cnd_false.2 (retL_same (by simp [unk]) (k2 (hr (by rw [hc]; simp [hx]))))
  have hbl := lt_of_get hb
  refine good85 hJ (by omega) (List.getElem?_set_self hbl) (by simp; omega) (fun y hy => retL_same (by simp [unk]) ?_) fun hy => retL_same (by simp [unk]) (k3 (hr (by rw [hc]; simp [hx,hy])) x)
  rw [List.set_set]
  exact k1 ⟨x,y⟩ (hr (by rw [hc]; simp [hx,hy]))
 ·have hr : rngB p w = none := by
   unfold rngB
   rw [h]
   rfl
  exact good86 hJ hm hw (fun a c hc ha hcl => ext30 (ext31 (ext32 (cnd_false.2 (retL_same (by simp [unk]) (k2 hr)))))) fun hc => ext30 (ext31 (ext32 (cnd_false.2 (retL_same (by simp [unk]) (k2 hr)))))
end
section
variable {main : Bool} {J : JT} {h H : List AObj} {K : Value → List AObj → Prop} {KV : Value → Prop} {n0 : Nat}
theorem fill_four {m : List Value} {o s : Nat} {v : Value} {l : List Value} {ps : List (Nat × Nat × Value)} {KL : List Value → Prop} (hv : v.cells.toList = l) (hs : l.length = s) (ho : l.all one = true) (hl : o + s ≤ m.length) (hk : aFill (wrAt m o l) ps KL) : aFill m ((o,s,v) :: ps) KL := by
 subst hv
 exact ⟨hs,ho,hl,hk⟩
theorem sbL {B : List Nat} {H' : List AObj} (S : SameX [] H H') (hB : ∀ b ∈ B,b < H.length) : SameB (some B) H H' := fun b hb => S.2 b (hB b hb) (by simp)
end
structure TalY (Pr : Nat → Prop) (H : List AObj) (b : Nat) (t : Tal) (cv nv : Value) (o1 o2 : Option Nat) : Prop where
 low : ¬ Pr b
 cell : H[b]? = some (.cells (talCells t cv nv) true 0)
 oc : OwnX H 2 (t.changes.flatMap Rng.cells) t.changes.length cv o1
 on : OwnX H 4 (t.counts.flatMap Cnt.cells) t.counts.length nv o2
 b1 : ∀ i,o1 = some i → ¬ Pr i ∧ i ≠ b
 b2 : ∀ i,o2 = some i → ¬ Pr i ∧ i ≠ b
 ne : ∀ i,o1 = some i → o2 ≠ some i
def TalX (Pr : Nat → Prop) (H : List AObj) (b : Nat) (t : Tal) : Prop := ∃ cv nv o1 o2,TalY Pr H b t cv nv o1 o2
theorem TalY.keep {Pr : Nat → Prop} {b : Nat} {H H' : List AObj} {t : Tal} {cv nv : Value} {o1 o2 : Option Nat} (T : TalY Pr H b t cv nv o1 o2) (S : SameX [] H H') : TalY Pr H' b t cv nv o1 o2 :=
 ⟨T.low,S.get T.cell (by simp),ownX_keep T.oc S (by simp),ownX_keep T.on S (by simp),T.b1,T.b2,T.ne⟩
theorem TalX.keep {Pr : Nat → Prop} {b : Nat} {H H' : List AObj} {t : Tal} (T : TalX Pr H b t) (S : SameX [] H H') : TalX Pr H' b t := by
 obtain ⟨cv,nv,o1,o2,T⟩ := T
 exact ⟨cv,nv,o1,o2,T.keep S⟩
theorem takeT_one {t : Tal} {s a : List UInt8} (h : partsB 32 s = [a]) (hc : t.counts = []) : takeT t s = (rngB wChange a).map fun r => { t with changes := t.changes ++ [r] } := by
 unfold takeT
 rw [h,hc]
theorem takeT_no {t : Tal} {s a : List UInt8} (h : partsB 32 s = [a]) (hc : t.counts ≠ []) : takeT t s = none := by
 unfold takeT
 rw [h]
 cases hcs : t.counts with
 | nil => exact absurd hcs hc
 | cons c l => rfl
theorem takeT_many {t : Tal} {s : List UInt8} (h : (partsB 32 s).length ≠ 1) : takeT t s = (countT (partsB 32 s)).map fun c => { t with counts := t.counts ++ [c] } := by
 unfold takeT
 split
 ·rename_i a hp hc
  rw [hp] at h
  exact absurd rfl h
 ·rfl
theorem countT_len {w : List (List UInt8)} (h : w.length ≠ 5) : countT w = none := by
 unfold countT
 split
 ·simp at h
 ·rfl
section
variable {main : Bool} {J : JT} {H : List AObj} {K : Value → List AObj → Prop} {KV : Value → Prop} {F : RG} {n0 : Nat}
theorem tak_2 (hJ : Closed prog main J) {Pr : Nat → Prop} (hPr : ∀ i,Pr i → i < H.length) {b pc : Nat} {t : Tal} {s : List UInt8} {c : Cnt} {yes : Bool} {cv nv : Value} {o1 o2 : Option Nat} (T : TalY Pr H b t cv nv o1 o2) (h2 : o2 ≠ some pc) (hl : t.counts.length < 900) (ds : F.ds = []) (r0 : F.r 0 = ptr b 0) (r6 : F.r 6 = ptr pc 0) (hpc : ¬ Pr pc) (hpb : pc ≠ b) (r35 : F.r 35 = .bool yes)
  (hc : yes = true → H[pc]? = some (.cells c.cells true 0)) (ht : takeT t s = bif yes then some { t with counts := t.counts ++ [c] } else none)
  (k1 : ∀ t',takeT t s = some t' → ∀ H' X,SameX X H H' → (∀ x ∈ X,¬ Pr x) → TalX Pr H' b t' → K (.bool true) H') (k2 : takeT t s = none → K (.bool false) H) :
  W prog J 83 n0 59 (subC yp9 (codeOf f59)) F H (contX pl59 prog J 83 n0 59 ct59 yp9 (codeOf f59) [] (RetQ prog [.tmp 4] n0 K)) := by
 rw [s59_2]
 simp only [ds,r0,r6,r35]
 cases yes with
 | false => exact cnd_false.2 (retL_same (by simp [unk]) (k2 ht))
 | true =>
  have cc := hc rfl
  have lb := lt_of_get T.cell
  have lc := lt_of_get cc
  have hB : ∀ x ∈ [b,pc],x < H.length := fun x hx => by
   rcases List.mem_cons.1 hx with rfl | hx
   ·exact lb
   ·rw [List.mem_singleton.1 hx]; exact lc
  refine cnd_true.2 ⟨[b,pc],nilI (offI (ldI (v := nv) T.cell rfl (ownX_val T.on).2.2 ⟨by simp [RdOk,ptr,ptrBlk],load_part (c := c.cells) cc (by simp [Cnt.cells]) rfl rfl ⟨by simp [RdOk,ptr,ptrBlk],?_⟩⟩))⟩
  refine ⟨by decide,fill_four (l := c.cells) rfl rfl rfl (by decide) (fillI (qNew fun H4 p4 e4 S4 c4 l4 => ⟨sbL S4 hB,by decide,?_⟩))⟩
  have c4 : H4[p4]? = some (.cells c.cells true 0) := c4
  have T4 := T.keep S4
  refine ownX_more T4.on (by omega) (by omega) (ownX_sli (ownX_new (s := 4) (n := 1) (l := c.cells) c4 rfl rfl)) fun nv' H7 p7 e7 O7 S7 => ?_
  have hsb : SameB (some [b,pc]) H H7 := fun x hx => by
   rw [S7.2 x (Nat.lt_of_lt_of_le (hB x hx) S4.1) fun hm => ?_,S4.2 x (hB x hx) (by simp)]
   have hm : o2 = some x := by simpa using hm
   rcases List.mem_cons.1 hx with rfl | hx
   ·exact (T.b2 _ hm).2 rfl
   ·rw [List.mem_singleton.1 hx] at hm
    exact h2 hm
  refine ⟨hsb,nilI (offI ?_)⟩
  have hlo : H.length ≤ p7 := by
   have := S4.1
   omega
  have c7 : H7[b]? = some (.cells (talCells t cv nv) true 0) := (hsb b (by simp)).trans T.cell
  refine qSt c7 (by rw [cs_val]; omega) (ownX_val O7).1 (ownX_val O7).2.1 fun H8 S8 c8 l8 => ?_
  have c8 : H8[b]? = some (.cells (talCells { t with counts := t.counts ++ [c] } cv nv') true 0) := c8
  have S47 : SameX (b :: o2.toList) H H7 := S4.weak0.trans (S7.weak fun x hx => by simp [hx])
  have S48 : SameX (b :: o2.toList) H H8 := S47.trans (S8.weak (by simp))
  refine retL_same (by simp [unk]) (k1 { t with counts := t.counts ++ [c] } ht H8 _ S48 (fun x hx => ?_) ⟨cv,nv',o1,some p7,T.low,c8,?_,?_,T.b1,fun i hi => ?_,fun i hi e => ?_⟩)
  ·rcases List.mem_cons.1 hx with rfl | hx
   ·exact T.low
   ·exact (T.b2 x (by simpa using hx)).1
  ·refine ownX_keep (ownX_keep T4.oc S7 fun i hi hm => T.ne i hi (by simpa using hm)) S8 fun i hi hm => ?_
   exact (T.b1 i hi).2 (by simpa using hm)
  ·have e1 : (t.counts ++ [c]).flatMap Cnt.cells = t.counts.flatMap Cnt.cells ++ c.cells := by simp
   have e2 : (t.counts ++ [c]).length = t.counts.length + 1 := by simp
   show OwnX H8 4 ((t.counts ++ [c]).flatMap Cnt.cells) (t.counts ++ [c]).length nv' (some p7)
   rw [e1,e2]
   exact ownX_keep O7 S8 fun i hi hm => by
    cases hi
    have : p7 = b := by simpa using hm
    omega
  ·cases hi
   exact ⟨fun h => absurd (hPr _ h) (by omega),by omega⟩
  ·cases e
   have := ownX_lt T.oc _ hi
   omega
theorem tak_1 (hJ : Closed prog main J) {m : Int} (hm : MaxAt H m) {Pr : Nat → Prop} (hPr : ∀ i,Pr i → i < H.length) {b pr pc p : Nat} {t : Tal} {s : List UInt8} {cv nv : Value} {o1 o2 : Option Nat} (hs : s.length ≤ 2000) (T : TalY Pr H b t cv nv o1 o2) (h1 : o1 ≠ some pr) (h2 : o2 ≠ some pc) (hl : t.counts.length < 900 ∧ t.changes.length < 900) (ds : F.ds = [])
  (r0 : F.r 0 = ptr b 0) (r1 : F.r 1 = .slice (some ⟨p,0,none⟩) (partsB 32 s).length (partsB 32 s).length) (r5 : F.r 5 = ptr pr 0) (r6 : F.r 6 = ptr pc 0) (hpc : ¬ Pr pc) (hpb : pc ≠ b) (hpr : ¬ Pr pr) (hprb : pr ≠ b) (hpp : p ≠ pc)
  (hp : H[p]? = some (.cells ((partsB 32 s).map strV) true 0)) (hcc : H[pc]? = some (.cells [vint 0,vint 0,vint 0,vint 0] true 0)) {yes : Bool} {r : Rng} (r7 : F.r 7 = .bool yes) (hy : yes = true → H[pr]? = some (.cells r.cells true 0))
  (ht : takeT t s = bif yes then some { t with changes := t.changes ++ [r] } else (countT (partsB 32 s)).map fun c => { t with counts := t.counts ++ [c] }) (hnp : o1 ≠ some pc)
  (k1 : ∀ t',takeT t s = some t' → ∀ H' X,SameX X H H' → (∀ x ∈ X,¬ Pr x) → TalX Pr H' b t' → K (.bool true) H') (k2 : takeT t s = none → ∀ H',SameX [pc] H H' → K (.bool false) H') :
  W prog J 83 n0 59 (subC yp19 (codeOf f59)) F H (contX pl59 prog J 83 n0 59 ct59 yp19 (codeOf f59) [] (RetQ prog [.tmp 4] n0 K)) := by
 rw [s59_1]
 simp only [ds,r0,r1,r5,r6,r7]
 cases yes with
 | true =>
  have cc := hy rfl
  have lb := lt_of_get T.cell
  have lc := lt_of_get cc
  have hB : ∀ x ∈ [b,pr],x < H.length := fun x hx => by
   rcases List.mem_cons.1 hx with rfl | hx
   ·exact lb
   ·rw [List.mem_singleton.1 hx]; exact lc
  refine cnd_true.2 ⟨[b,pr],nilI (offI (ldI (v := cv) T.cell rfl (ownX_val T.oc).2.2 ⟨by simp [RdOk,ptr,ptrBlk],load_part (c := r.cells) cc (by simp [Rng.cells]) rfl rfl ⟨by simp [RdOk,ptr,ptrBlk],?_⟩⟩))⟩
  refine ⟨by decide,fill_four (l := r.cells) rfl rfl rfl (by decide) (fillI (qNew fun H4 p4 e4 S4 c4 l4 => ⟨sbL S4 hB,by decide,?_⟩))⟩
  have c4 : H4[p4]? = some (.cells r.cells true 0) := c4
  have T4 := T.keep S4
  refine ownX_more T4.oc (by omega) (by omega) (ownX_sli (ownX_new (s := 2) (n := 1) (l := r.cells) c4 rfl rfl)) fun cv' H7 p7 e7 O7 S7 => ?_
  have hsb : SameB (some [b,pr]) H H7 := fun x hx => by
   rw [S7.2 x (Nat.lt_of_lt_of_le (hB x hx) S4.1) fun hm => ?_,S4.2 x (hB x hx) (by simp)]
   have hm : o1 = some x := by simpa using hm
   rcases List.mem_cons.1 hx with rfl | hx
   ·exact (T.b1 _ hm).2 rfl
   ·rw [List.mem_singleton.1 hx] at hm
    exact h1 hm
  refine ⟨hsb,nilI (offI ?_)⟩
  have hlo : H.length ≤ p7 := by
   have := S4.1
   omega
  have c7 : H7[b]? = some (.cells (talCells t cv nv) true 0) := (hsb b (by simp)).trans T.cell
  refine qSt c7 (by rw [cs_val]; omega) (ownX_val O7).1 (ownX_val O7).2.1 fun H8 S8 c8 l8 => ?_
  have c8 : H8[b]? = some (.cells (talCells { t with changes := t.changes ++ [r] } cv' nv) true 0) := c8
  have S47 : SameX (b :: o1.toList) H H7 := S4.weak0.trans (S7.weak fun x hx => by simp [hx])
  have S48 : SameX (b :: o1.toList) H H8 := S47.trans (S8.weak (by simp))
  refine retL_same (by simp [unk]) (k1 { t with changes := t.changes ++ [r] } ht H8 _ S48 (fun x hx => ?_) ⟨cv',nv,some p7,o2,T.low,c8,?_,?_,fun i hi => ?_,T.b2,fun i hi e => ?_⟩)
  ·rcases List.mem_cons.1 hx with rfl | hx
   ·exact T.low
   ·exact (T.b1 x (by simpa using hx)).1
  ·have e1 : (t.changes ++ [r]).flatMap Rng.cells = t.changes.flatMap Rng.cells ++ r.cells := by simp
   have e2 : (t.changes ++ [r]).length = t.changes.length + 1 := by simp
   show OwnX H8 2 ((t.changes ++ [r]).flatMap Rng.cells) (t.changes ++ [r]).length cv' (some p7)
   rw [e1,e2]
   exact ownX_keep O7 S8 fun i hi hm => by
    cases hi
    have : p7 = b := by simpa using hm
    omega
  ·refine ownX_keep (ownX_keep T4.on S7 fun i hi hm => T.ne i (by simpa using hm) hi) S8 fun i hi hm => ?_
   exact (T.b2 i hi).2 (by simpa using hm)
  ·cases hi
   exact ⟨fun h => absurd (hPr _ h) (by omega),by omega⟩
  ·cases hi
   have := ownX_lt T.on _ e
   omega
 | false =>
  simp only [cond_false] at ht
  refine cnd_false.2 ?_
  have sl : Sli H (.slice (some ⟨p,0,none⟩) (partsB 32 s).length (partsB 32 s).length) 1 (partsB 32 s).length ((partsB 32 s).map strV) := sli_new hp (by simp) (kn_str _)
  have wl := partsB_len (c := 32) s
  generalize hw : partsB 32 s = w at *
  -- the end
  have fin : ∀ {F' : RG} {H' : List AObj} {yes : Bool} {c : Cnt},SameX [pc] H H' → F'.ds = [] → F'.r 0 = ptr b 0 → F'.r 6 = ptr pc 0 → F'.r 35 = .bool yes → (yes = true → H'[pc]? = some (.cells c.cells true 0)) → countT w = (bif yes then some c else none) → _ := fun {F' H' yes c} S ds r0 r6 r35 hcell hct =>
   tak_2 (n0 := n0) (F := F') (H := H') (c := c) (yes := yes) (s := s) (K := K) hJ (Pr := Pr) (fun i hi => Nat.lt_of_lt_of_le (hPr i hi) S.1) (b := b) (pc := pc) (t := t) (cv := cv) (nv := nv) (o1 := o1) (o2 := o2)
    ⟨T.low,S.get T.cell (by simpa using hpb.symm),ownX_keep T.oc S (fun i hi hm => hnp (by rw [hi]; congr 1; simpa using hm)),ownX_keep T.on S (fun i hi hm => h2 (by rw [hi]; congr 1; simpa using hm)),T.b1,T.b2,T.ne⟩ h2 hl.1 ds r0 r6 hpc hpb r35 hcell (by rw [ht,hct]; cases yes <;> rfl)
    (fun t' ht' H'' X S' hX => k1 t' ht' H'' (pc :: X) (S.weak (by simp) |>.trans (S'.weak (by simp; intro x hx; exact .inr hx))) (fun x hx => by
     rcases List.mem_cons.1 hx with rfl | hx
     ·exact hpc
     ·exact hX x hx)) fun ht' => k2 ht' H' S
  refine lenI sl (eqlI (cndI (fun h5 => ?_) fun h5 => hold.2 (fin (c := ⟨0,0,0,0⟩) (yes := false) SameX.refl ds r0 r6 rfl (fun h => by cases h) (by rw [countT_len (by omega)]; rfl))))
  match w,h5 with
  | [x,a,bb,c,d],_ =>
   have hi : ∀ k : Int,0 ≤ k → k < 5 → 0 ≤ k ∧ k < (([x,a,bb,c,d] : List (List UInt8)).length : Int) := fun k h1 h2 => ⟨h1,h2⟩
   refine idx_load (x := strV x) sl (hi 0 (by decide) (by decide)) rfl fun _ => ?_
   have hwl : ∀ y ∈ [x,a,bb,c,d],y.length ≤ 2000 := fun y hy => by have := wl y hy; omega
   refine eqS (cndI (fun hx => ?_) fun hx => hold.2 (fin (c := ⟨0,0,0,0⟩) (yes := false) SameX.refl ds r0 r6 rfl (fun h => by cases h) (by
    have hx : ¬ x = wCount := hx
    show (if x = wCount then _ else none) = _
    rw [if_neg hx]
    rfl)))
   have hx : x = wCount := hx
   have hct : countT [x,a,bb,c,d] = (numB wGate a).bind fun g => (numB wMan bb).bind fun m => (numB wNumber c).bind fun n => (numB wErr d).map fun e => ⟨g,m,n,e⟩ := if_pos hx
   refine idx_load (x := strV a) sl (hi 1 (by decide) (by decide)) rfl fun _ => offI (good57 hJ (p := wGate) (hwl a (by simp)) (by decide) hcc (by simp) (fun g hg => ?_) fun hg => cnd_false.2 (hold.2 (fin (c := ⟨0,0,0,0⟩) (yes := false) SameX.refl ds r0 r6 rfl (fun h => by cases h) (by rw [hct,hg]; rfl))))
   have S1 : SameX [pc] H (H.set pc (.cells ([vint 0,vint 0,vint 0,vint 0].set 0 (vint g)) true 0)) := SameX.refl.set (.inl (by simp))
   have c1 : (H.set pc (.cells ([vint 0,vint 0,vint 0,vint 0].set 0 (vint g)) true 0))[pc]? = some (.cells [vint g,vint 0,vint 0,vint 0] true 0) := List.getElem?_set_self (lt_of_get hcc)
   generalize H.set pc (.cells ([vint 0,vint 0,vint 0,vint 0].set 0 (vint g)) true 0) = H1 at *
   have sl1 : Sli H1 (.slice (some ⟨p,0,none⟩) 5 5) 1 5 ([x,a,bb,c,d].map strV) := sli_new (S1.get hp (by simpa using hpp)) rfl (kn_str _)
   refine cnd_true.2 (idx_load (x := strV bb) sl1 (hi 2 (by decide) (by decide)) rfl fun _ => offI (good57 hJ (p := wMan) (hwl bb (by simp)) (by decide) c1 (by simp) (fun m hm' => ?_) fun hm' => cnd_false.2 (hold.2 (fin (c := ⟨0,0,0,0⟩) (yes := false) S1 ds r0 r6 rfl (fun h => by cases h) (by rw [hct,hg,Option.bind_some,hm']; rfl)))))
   have S2 : SameX [pc] H (H1.set pc (.cells ([vint g,vint 0,vint 0,vint 0].set (0 + 1) (vint m)) true 0)) := S1.set (.inl (by simp))
   have c2 : (H1.set pc (.cells ([vint g,vint 0,vint 0,vint 0].set (0 + 1) (vint m)) true 0))[pc]? = some (.cells [vint g,vint m,vint 0,vint 0] true 0) := List.getElem?_set_self (lt_of_get c1)
   generalize H1.set pc (.cells ([vint g,vint 0,vint 0,vint 0].set (0 + 1) (vint m)) true 0) = H2 at *
   have sl2 : Sli H2 (.slice (some ⟨p,0,none⟩) 5 5) 1 5 ([x,a,bb,c,d].map strV) := sli_new (S2.get hp (by simpa using hpp)) rfl (kn_str _)
   refine cnd_true.2 (idx_load (x := strV c) sl2 (hi 3 (by decide) (by decide)) rfl fun _ => offI (good57 hJ (p := wNumber) (hwl c (by simp)) (by decide) c2 (by simp) (fun n hn => ?_) fun hn => cnd_false.2 (hold.2 (fin (c := ⟨0,0,0,0⟩) (yes := false) S2 ds r0 r6 rfl (fun h => by cases h) (by rw [hct,hg,Option.bind_some,hm',Option.bind_some,hn]; rfl)))))
   have S3 : SameX [pc] H (H2.set pc (.cells ([vint g,vint m,vint 0,vint 0].set (0 + 2) (vint n)) true 0)) := S2.set (.inl (by simp))
   have c3 : (H2.set pc (.cells ([vint g,vint m,vint 0,vint 0].set (0 + 2) (vint n)) true 0))[pc]? = some (.cells [vint g,vint m,vint n,vint 0] true 0) := List.getElem?_set_self (lt_of_get c2)
   generalize H2.set pc (.cells ([vint g,vint m,vint 0,vint 0].set (0 + 2) (vint n)) true 0) = H3 at *
   have sl3 : Sli H3 (.slice (some ⟨p,0,none⟩) 5 5) 1 5 ([x,a,bb,c,d].map strV) := sli_new (S3.get hp (by simpa using hpp)) rfl (kn_str _)
   refine cnd_true.2 (idx_load (x := strV d) sl3 (hi 4 (by decide) (by decide)) rfl fun _ => offI (good57 hJ (p := wErr) (hwl d (by simp)) (by decide) c3 (by simp) (fun e he => hold.2 ?_) fun he => hold.2 (fin (c := ⟨0,0,0,0⟩) (yes := false) S3 ds r0 r6 rfl (fun h => by cases h) (by rw [hct,hg,Option.bind_some,hm',Option.bind_some,hn,Option.bind_some,he]; rfl))))
   exact fin (c := ⟨g,m,n,e⟩) (yes := true) (S3.set (.inl (by simp))) ds r0 r6 rfl (fun _ => List.getElem?_set_self (lt_of_get c3)) (by rw [hct,hg,Option.bind_some,hm',Option.bind_some,hn,Option.bind_some,he]; rfl)
theorem good59 (hJ : Closed prog main J) {m : Int} (hm : MaxAt H m) {Pr : Nat → Prop} (hPr : ∀ i,Pr i → i < H.length) {b p : Nat} {t : Tal} {s : List UInt8} (hs : s.length ≤ 2000) (T : TalX Pr H b t) (hl : t.counts.length < 900 ∧ t.changes.length < 900) (hp : H[p]? = some (.cells ((partsB 32 s).map strV) true 0))
  (k1 : ∀ t',takeT t s = some t' → ∀ H' X,SameX X H H' → (∀ x ∈ X,¬ Pr x) → TalX Pr H' b t' → K (.bool true) H') (k2 : takeT t s = none → ∀ H',SameX [] H H' → K (.bool false) H') :
  Good prog J 59 [ptr b 0,.slice (some ⟨p,0,none⟩) (partsB 32 s).length (partsB 32 s).length] H K := by
 refine g59 hJ fun ok => ?_
 rw [e59]
 refine qAl fun H1 pr e1 S1 b1 l1 => qAl fun H2 pc e2 S2 b2 l2 => ?_
 obtain ⟨cv,nv,o1,o2,T⟩ := T
 have S02 := S1.trans S2
 have T2 := T.keep S02
 have p2 := S02.get hp (by simp)
 have r2 := S2.get b1 (by simp)
 have m2 := S02.get hm (by simp)
 have lb := lt_of_get T.cell
 have lp := lt_of_get hp
 have lo1 : ∀ i,o1 = some i → i < H.length := ownX_lt T.oc
 have lo2 : ∀ i,o2 = some i → i < H.length := ownX_lt T.on
 have sl : Sli H2 (.slice (some ⟨p,0,none⟩) (partsB 32 s).length (partsB 32 s).length) 1 (partsB 32 s).length ((partsB 32 s).map strV) := sli_new p2 (by simp) (kn_str _)
 have fin : ∀ {F' : RG} {H' : List AObj} {yes : Bool} {r : Rng},SameX [pr] H2 H' → F'.ds = [] → F'.r 0 = ptr b 0 → F'.r 1 = .slice (some ⟨p,0,none⟩) (partsB 32 s).length (partsB 32 s).length → F'.r 5 = ptr pr 0 → F'.r 6 = ptr pc 0 → F'.r 7 = .bool yes → (yes = true → H'[pr]? = some (.cells r.cells true 0)) →
   (takeT t s = bif yes then some { t with changes := t.changes ++ [r] } else (countT (partsB 32 s)).map fun c => { t with counts := t.counts ++ [c] }) → _ := fun {F' H' yes r} S ds r0 r1 r5 r6 r7 hy ht =>
  tak_1 (n0 := H.length) (F := F') (H := H') (K := K) (r := r) (yes := yes) (s := s) hJ (m := m) (S.get m2 (by have := lt_of_get hm; simp; omega)) (Pr := Pr) (fun i hi => Nat.lt_of_lt_of_le (hPr i hi) (Nat.le_trans S02.1 S.1)) (b := b) (pr := pr) (pc := pc) (p := p) (t := t) (cv := cv) (nv := nv) (o1 := o1) (o2 := o2) hs
   ⟨T.low,S.get T2.cell (by simp; omega),ownX_keep T2.oc S (fun i hi hm => by have := lo1 i hi; have : i = pr := (by simpa using hm); omega),ownX_keep T2.on S (fun i hi hm => by have := lo2 i hi; have : i = pr := (by simpa using hm); omega),T.b1,T.b2,T.ne⟩
   (fun h => by have := lo1 _ h; omega) (fun h => by have := lo2 _ h; omega) hl ds r0 r1 r5 r6 (fun h => absurd (hPr _ h) (by omega)) (by omega) (fun h => absurd (hPr _ h) (by omega)) (by omega) (by omega) (S.get p2 (by simp; omega)) (S.get b2 (by simp; omega)) r7 hy ht (fun h => by have := lo1 _ h; omega)
   (fun t' ht' H'' X S' hX => k1 t' ht' H'' (pr :: X) ((S02.weak0.trans (S.weak (by simp))).trans (S'.weak (by simp; intro x hx; exact .inr hx))) (fun x hx => by
    rcases List.mem_cons.1 hx with rfl | hx
    ·exact fun h => absurd (hPr _ h) (by omega)
    ·exact hX x hx))
   fun ht' H'' S'' => k2 ht' H'' ((S02.thru S (by simp; omega)).thru S'' (by simp; omega))
 refine lenI sl (eqlI (cndI (fun h1 => ?_) fun h1 => hold.2 (fin (r := ⟨0,0⟩) (yes := false) SameX.refl rfl rfl rfl rfl rfl rfl (fun h => by cases h) (takeT_many (by omega)))))
 obtain ⟨a,ha⟩ : ∃ a,partsB 32 s = [a] := List.length_eq_one_iff.1 (by omega)
 have hal : a.length ≤ 2000 := by
  have := partsB_len (c := 32) s a (by rw [ha]; simp)
  omega
 refine nilI (offI (ldI (v := nv) T2.cell rfl (ownX_val T2.on).2.2 (lenI (ownX_sli T2.on) (eqlI (cndI (fun h0 => ?_) fun h0 => hold.2 (fin (r := ⟨0,0⟩) (yes := false) SameX.refl rfl rfl rfl rfl rfl rfl (fun h => by cases h) ?_))))))
 ·have hc0 : t.counts = [] := List.length_eq_zero_iff.1 (by omega)
  have ht := takeT_one ha hc0
  have hno : (countT (partsB 32 s)).map (fun c => ({ t with counts := t.counts ++ [c] } : Tal)) = none := by
   rw [ha]
   rfl
  have lr := lt_of_get r2
  refine idx_load (x := strV a) sl (by rw [ha]; exact ⟨by decide,by simp⟩) (by rw [ha]; rfl) fun _ => good58 hJ m2 (p := wChange) hal (by decide) r2 (by simp) (fun r hr => hold.2 ?_) (fun hr => hold.2 ?_) fun hr n => hold.2 ?_
  ·exact fin (r := r) (yes := true) (SameX.refl.set (.inl (by simp))) rfl rfl rfl rfl rfl rfl (fun _ => List.getElem?_set_self lr) (by rw [ht,hr]; rfl)
  ·exact fin (r := ⟨0,0⟩) (yes := false) SameX.refl rfl rfl rfl rfl rfl rfl (fun h => by cases h) (by rw [ht,hr]; exact hno.symm)
  ·exact fin (r := ⟨0,0⟩) (yes := false) (SameX.refl.set (.inl (by simp))) rfl rfl rfl rfl rfl rfl (fun h => by cases h) (by rw [ht,hr]; exact hno.symm)
 ·rw [takeT_no ha (by intro e; rw [e] at h0; exact h0 rfl),ha]
  rfl
end
abbrev talZ : List Value := [vint 0,vint 0,vint 0,.slice none 0 0,vint 0,.slice none 0 0]
theorem linesT_some {i : Nat} {L : List (List UInt8)} {u : List UInt8} {x y : Tal × Bool} (h : L[i]? = some u) (hl : lineT i u x = some y) : linesT i (L.drop i) x = linesT (i + 1) (L.drop (i + 1)) y := by
 obtain ⟨hi,rfl⟩ := List.getElem?_eq_some_iff.1 h
 rw [List.drop_eq_getElem_cons hi]
 show (match lineT i L[i] x with
  | some y => linesT (i + 1) (L.drop (i + 1)) y
  | none => .inl (i + 1)) = _
 rw [hl]
theorem linesT_none {i : Nat} {L : List (List UInt8)} {u : List UInt8} {x : Tal × Bool} (h : L[i]? = some u) (hl : lineT i u x = none) : linesT i (L.drop i) x = .inl (i + 1) := by
 obtain ⟨hi,rfl⟩ := List.getElem?_eq_some_iff.1 h
 rw [List.drop_eq_getElem_cons hi]
 show (match lineT i L[i] x with
  | some y => linesT (i + 1) (L.drop (i + 1)) y
  | none => .inl (i + 1)) = _
 rw [hl]
theorem headT_three {s : List UInt8} {a b c : List UInt8} (h : partsB 32 s = [a,b,c]) : headT s = (numB wGates a).bind fun g => (rngB wFirst b).bind fun r => (numB wLost c).map fun m => ⟨g,r,[],m,[]⟩ := by
 unfold headT
 rw [h]
theorem headT_other {s : List UInt8} (h : (partsB 32 s).length ≠ 3) : headT s = none := by
 unfold headT
 split
 ·rename_i a b c hp
  rw [hp] at h
  exact absurd rfl h
 ·rfl
theorem takeT_len {t t' : Tal} {s : List UInt8} (h : takeT t s = some t') : t'.counts.length + t'.changes.length = t.counts.length + t.changes.length + 1 := by
 by_cases h1 : (partsB 32 s).length = 1
 ·obtain ⟨a,ha⟩ := List.length_eq_one_iff.1 h1
  by_cases hc : t.counts = []
  ·rw [takeT_one ha hc] at h
   obtain ⟨r,_,rfl⟩ := Option.map_eq_some_iff.1 h
   simp
   omega
  ·rw [takeT_no ha hc] at h
   cases h
 ·rw [takeT_many h1] at h
  obtain ⟨c,_,rfl⟩ := Option.map_eq_some_iff.1 h
  simp
  omega
section
variable {main : Bool} {J : JT} {H : List AObj} {K : Value → List AObj → Prop} {KV : Value → Prop} {F : RG} {n0 : Nat} {m : Int} {s : List UInt8}
theorem neS {t : TypeId} {a b : List UInt8} (hk : KV (.bool (decide (a ≠ b)))) : aBin prog .neq t (strV a) (strV b) KV := by
 show KV (.bool (!((ByteArray.mk ⟨a⟩).toList == (ByteArray.mk ⟨b⟩).toList)))
 have e : ∀ l : List UInt8,(ByteArray.mk ⟨l⟩).toList = l := fun l => Lib.toList_data _
 rw [e,e,beqD,← decide_not]
 exact hk
theorem lenSl {b : Option Addr} {n c : Nat} (hk : KV (vint (n : Nat))) : aLenS (.slice b n c) KV := hk
theorem ret_bad {H' : List AObj} {b2 : Nat} {i : Int} {F : RG} (ds : F.ds = []) (r2 : F.r 2 = ptr b2 0) (r3 : F.r 3 = .iface 76 (.agg ⟨[vint i]⟩)) (c2 : H'[b2]? = some (.cells talZ true 0)) (hk : K (.tuple ⟨[.agg ⟨talZ⟩,.iface 76 (.agg ⟨[vint i]⟩)]⟩) H') :
  RetQ prog [.cell 2 27,.tmp 3] n0 K .ret F H' := by
 refine retQ_same ds (resW_cell (gg := true) (s := 6) (by kernel_rfl) ?_)
 rw [r2]
 refine load_part (c := talZ) c2 (by simp) rfl rfl (resW_tmp (by rw [r3]; simp [unk]) (resW_nil ?_))
 rw [r3]
 exact hk
structure RdR (H H' : List AObj) (s : List UInt8) (i : Nat) (x : Tal × Bool) (b2 b4 p : Nat) (F : RG) : Prop where
 ds : F.ds = []
 r2 : F.r 2 = ptr b2 0
 r3 : F.r 3 = .nilIface
 r4 : F.r 4 = ptr b4 0
 r5 : F.r 5 = .slice (some ⟨p,0,none⟩) (partsB 10 s).length (partsB 10 s).length
 r6 : F.r 6 = .bool x.2
 r17 : F.r 17 = .slice (some ⟨p,0,none⟩) ((partsB 10 s).length - 1) (partsB 10 s).length
 r18 : F.r 18 = vint (((partsB 10 s).length - 1 : Nat) : Int)
 r19 : F.r 19 = vint (i : Nat)
structure RdH (H H' : List AObj) (s : List UInt8) (x : Tal × Bool) (b2 b4 p : Nat) : Prop where
 same : SameX [] H H'
 c2 : H'[b2]? = some (.cells talZ true 0)
 cp : H'[p]? = some (.cells ((partsB 10 s).map strV) true 0)
 tal : TalX (fun i => i < H.length ∨ i = b2 ∨ i = p) H' b4 x.1
 len : x.1.counts.length + x.1.changes.length ≤ 400
theorem good34 (hJ : Closed prog main J) (hm : MaxAt H m) (hs : s.length ≤ 302)
  (k1 : ∀ i,readT s = .inl i → ∀ H',SameX [] H H' → K (.tuple ⟨[.agg ⟨talZ⟩,.iface 76 (.agg ⟨[vint i]⟩)]⟩) H')
  (k2 : ∀ t,readT s = .inr t → ∀ H' cv nv o1 o2,SameX [] H H' → OwnX H' 2 (t.changes.flatMap Rng.cells) t.changes.length cv o1 → OwnX H' 4 (t.counts.flatMap Cnt.cells) t.counts.length nv o2 → (∀ i,o1 = some i → H.length ≤ i) → (∀ i,o2 = some i → H.length ≤ i) → K (.tuple ⟨[.agg ⟨talCells t cv nv⟩,.nilIface]⟩) H') :
  Good prog J 34 [strV s] H K := by
 refine g34 hJ fun ok => ?_
 rw [e34]
 refine qAl fun H1 b2 e1 S1 c1 l1 => qAl fun H2 b4 e2 S2 c2 l2 => ?_
 have hlen : (partsB 10 s).length ≤ 303 := by
  have := partsB_count (c := 10) s
  have : s.count 10 ≤ s.length := List.count_le_length
  omega
 have hpos : 0 < (partsB 10 s).length := List.length_pos_iff.2 (partsB_ne 10 s)
 have hfz : 100000 < fz := by decide
 have hlin := partsB_len (c := 10) s
 refine good56 hJ (by omega) ?_
 have S3 : SameX [] H2 (H2 ++ [.cells ((partsB 10 s).map strV) true 0]) := SameX.refl.app
 have cp : (H2 ++ [AObj.cells ((partsB 10 s).map strV) true 0])[H2.length]? = some (.cells ((partsB 10 s).map strV) true 0) := by simp
 have l3 : (H2 ++ [AObj.cells ((partsB 10 s).map strV) true 0]).length = H2.length + 1 := by simp
 have hR : readT s = match linesT 0 (partsB 10 s).dropLast (tal0,false) with
  | .inl i => .inl i
  | .inr (t,e) => if e = true ∧ (partsB 10 s).getLast? = some [] then .inr t else .inl (partsB 10 s).length := rfl
 generalize hP : partsB 10 s = P at *
 generalize H2 ++ [AObj.cells (P.map strV) true 0] = H3 at *
 generalize hp : H2.length = p at *
 refine lenSl (subI (by omega) ?_)
 rw [show (P.length : Int) - 1 = ((P.length - 1 : Nat) : Int) by omega]
 refine slA2 ⟨by omega,by omega⟩ (lenSl ?_)
 have S03 : SameX [] H H3 := (S1.trans S2).trans S3
 have hPr : ∀ i,(i < H.length ∨ i = b2 ∨ i = p) → i < H3.length := fun i hi => by
  have := S03.1
  omega
 have T0 : TalX (fun i => i < H.length ∨ i = b2 ∨ i = p) H3 b4 tal0 := ⟨.slice none 0 0,.slice none 0 0,none,none,by omega,S3.get c2 (by simp),ownX_nil,ownX_nil,fun i h => (by cases h),fun i h => (by cases h),fun i h => (by cases h)⟩
 refine l34_1 hJ (S := Nat × (Tal × Bool)) (fun y => P.length + 1 - y.1) (fun y F H' => RdR H H' s y.1 y.2 b2 b4 p F ∧ RdH H H' s y.2 b2 b4 p ∧ y.1 ≤ P.length - 1 ∧ y.2.1.counts.length + y.2.1.changes.length ≤ y.1 ∧ (y.1 = 0 → y.2 = (tal0,false)) ∧ linesT y.1 (P.dropLast.drop y.1) y.2 = linesT 0 P.dropLast (tal0,false)) ?_ (s := (0,(tal0,false)))
  (.inl ⟨⟨rfl,rfl,rfl,rfl,by rw [hP]; rfl,rfl,by rw [hP]; rfl,by rw [hP]; rfl,rfl⟩,⟨S03,S3.get (S2.get c1 (by simp)) (by simp),by rw [hP]; exact cp,T0,by decide⟩,Nat.zero_le _,by decide,fun _ => rfl,rfl⟩)
 rintro ⟨i,x⟩ F H' ⟨R,A,hi,hcnt,hz,hlines⟩ ok' hn'
 dsimp only at R A hi hcnt hz hlines
 have r5 := R.r5
 have r17 := R.r17
 have r18 := R.r18
 have cpA := A.cp
 rw [hP] at r5 r17 r18 cpA
 have hPA : ∀ j,(j < H.length ∨ j = b2 ∨ j = p) → j < H'.length := fun j hj => by
  have := A.same.1
  have := lt_of_get A.c2
  have := lt_of_get cpA
  omega
 have hmA := A.same.get hm (by simp)
 -- behind a line: on, or back with an error
 have join : ∀ {F' : RG} {H5 : List AObj} {okb e' : Bool} {t' : Tal} {X : List Nat},F'.ds = [] → F'.r 2 = ptr b2 0 → F'.r 3 = .nilIface → F'.r 4 = ptr b4 0 → F'.r 5 = .slice (some ⟨p,0,none⟩) P.length P.length → F'.r 6 = .bool e' → F'.r 7 = vint (i : Nat) → F'.r 10 = .bool okb → F'.r 17 = .slice (some ⟨p,0,none⟩) (P.length - 1) P.length → F'.r 18 = vint ((P.length - 1 : Nat) : Int) → F'.r 19 = vint (i : Nat) →
   i < P.length - 1 → SameX X H' H5 → (∀ y ∈ X,¬ (y < H.length ∨ y = b2 ∨ y = p)) → (okb = true → TalX (fun i => i < H.length ∨ i = b2 ∨ i = p) H5 b4 t' ∧ t'.counts.length + t'.changes.length ≤ i + 1 ∧ linesT i (P.dropLast.drop i) x = linesT (i + 1) (P.dropLast.drop (i + 1)) (t',e')) → (okb = false → linesT i (P.dropLast.drop i) x = .inl (i + 1)) → _ :=
  fun {F' H5 okb e' t' X} ds r2 r3 r4 r5 r6 r7 r10 r17 r18 r19 hil SX hX hyes hno => show W prog J 85 H.length 34 (subC yp7 (codeOf f34)) F' H5 (contX pl34 prog J 85 H.length 34 ct34 yp7 (codeOf f34) [Nx H.length (fun y => P.length + 1 - y.1) (fun y F H' => RdR H H' s y.1 y.2 b2 b4 p F ∧ RdH H H' s y.2 b2 b4 p ∧ y.1 ≤ P.length - 1 ∧ y.2.1.counts.length + y.2.1.changes.length ≤ y.1 ∧ (y.1 = 0 → y.2 = (tal0,false)) ∧ linesT y.1 (P.dropLast.drop y.1) y.2 = linesT 0 P.dropLast (tal0,false)) (i,x)] (RetQ prog [.cell 2 27,.tmp 3] H.length K)) by
  rw [s34_2]
  simp only [r2,r7,r10,r19]
  have S5 : SameX [] H H5 := A.same.thru SX fun y hy => .inr (by
   have := hX y hy
   omega)
  have c25 : H5[b2]? = some (.cells talZ true 0) := SX.get A.c2 fun h => hX _ h (.inr (.inl rfl))
  cases okb with
  | true =>
   obtain ⟨hT,hle,hl⟩ := hyes rfl
   refine notI (cnd_false.2 (addI (by omega) ⟨(i + 1,(t',e')),by dsimp only; omega,.inl ⟨⟨ds,r2,r3,r4,by rw [hP]; exact r5,r6,by rw [hP]; exact r17,by rw [hP]; exact r18,rfl⟩,⟨S5,c25,?_,hT,by dsimp only; omega⟩,by dsimp only; omega,hle,(fun h => by cases h),by dsimp only; rw [← hl]; exact hlines⟩⟩))
   rw [hP]
   exact SX.get cpA fun h => hX _ h (.inr (.inr rfl))
  | false =>
   have hbad : readT s = .inl (i + 1) := by
    rw [hR,← hlines,hno rfl]
   refine notI (cnd_true.2 (fillI (addI (by omega) (fillO (l := [vint ((i : Int) + 1)]) rfl rfl rfl (by decide) (fillI ⟨by simp [unk],qStA (c := talZ) c25 rfl rfl rfl fun H6 S6 c6 l6 => ?_⟩)))))
   exact ret_bad (b2 := b2) (i := (i : Int) + 1) ds r2 rfl c6 (k1 (i + 1) hbad H6 (S5.thru S6 (by simp; omega)))
 rw [s34_1]
 simp only [R.r4,R.r6,R.r19,r5,r17,r18]
 refine lssI (cndI (fun hlt => ?_) fun hge => ?_)
 ·have hil : i < P.length - 1 := by omega
  have hiP : i < P.length := by omega
  have hu : P[i]? = some P[i] := List.getElem?_eq_getElem hiP
  have hul := hlin P[i] (List.getElem_mem hiP)
  have hdu : P.dropLast[i]? = some P[i] := by rw [List.getElem?_dropLast,if_pos hil,hu]
  generalize P[i] = u at hu hul hdu
  refine idxI ⟨by omega,by omega⟩ (ldI (v := strV u) cpA (by simp [hu]) rfl (good56 hJ (s := u) (c := 32) (by omega) ?_))
  have S4 : SameX [] H' (H' ++ [.cells ((partsB 32 u).map strV) true 0]) := SameX.refl.app
  have cw : (H' ++ [AObj.cells ((partsB 32 u).map strV) true 0])[H'.length]? = some (.cells ((partsB 32 u).map strV) true 0) := by simp
  have l4 : (H' ++ [AObj.cells ((partsB 32 u).map strV) true 0]).length = H'.length + 1 := by simp
  generalize H' ++ [AObj.cells ((partsB 32 u).map strV) true 0] = H4 at *
  generalize hq : H'.length = q at *
  obtain ⟨t,e⟩ := x
  cases e with
  | true =>
   refine cnd_true.2 (hold.2 ?_)
   exact join (t' := t) (X := []) R.ds R.r2 R.r3 R.r4 r5 R.r6 rfl rfl r17 r18 R.r19 hil S4 (by simp) (fun h => by cases h) fun _ => linesT_none hdu rfl
  | false =>
   have sl : Sli H4 (.slice (some ⟨q,0,none⟩) (partsB 32 u).length (partsB 32 u).length) 1 (partsB 32 u).length ((partsB 32 u).map strV) := sli_new cw (by simp) (kn_str _)
   refine cnd_false.2 (eqlI (cndI (fun h0 => ?_) fun h0 => ?_))
   ·-- the first line
    obtain rfl : i = 0 := by omega
    have hline : ∀ {y : Option Tal},headT u = y → lineT 0 u (t,false) = y.map fun t => (t,false) := fun hy => by
     unfold lineT
     rw [if_neg (by simp),if_pos rfl,hy]
    refine lenI sl (eqlI (cndI (fun h3 => ?_) fun h3 => hold.2 ?_))
    ·obtain ⟨a,bb,c,hw⟩ : ∃ a bb c,partsB 32 u = [a,bb,c] := by
      match hw : partsB 32 u,(by omega : (partsB 32 u).length = 3) with
      | [a,bb,c],_ => exact ⟨a,bb,c,rfl⟩
     have hwl := partsB_len (c := 32) u
     have hh := headT_three hw
     rw [hw] at sl hwl
     have hw3 : ((partsB 32 u).length : Int) = 3 := h3
     obtain ⟨cv,nv,o1,o2,T⟩ := A.tal
     have T4 := T.keep S4
     obtain rfl : t = tal0 := congrArg Prod.fst (hz rfl)
     have hX : ∀ y ∈ [b4],¬ (y < H.length ∨ y = b2 ∨ y = p) := fun y hy => by
      rw [List.mem_singleton.1 hy]
      exact T.low
     have hwi : ∀ k : Int,0 ≤ k → k < 3 → 0 ≤ k ∧ k < ((partsB 32 u).length : Int) := fun k h1 h2 => ⟨h1,by omega⟩
     have hl3 : (partsB 32 u).length = ([a,bb,c] : List (List UInt8)).length := by rw [hw]
     rw [← hl3] at sl
     have hb0 := T4.cell
     have hu4 : u.length ≤ 2000 := by omega
     have hq4 : b4 ≠ q := by
      have := lt_of_get T.cell
      omega
     have bad : ∀ {F' : RG} {H5 : List AObj},SameX [b4] H4 H5 → F'.ds = [] → F'.r 2 = ptr b2 0 → F'.r 3 = .nilIface → F'.r 4 = ptr b4 0 → F'.r 5 = .slice (some ⟨p,0,none⟩) P.length P.length → F'.r 6 = .bool false → F'.r 7 = vint ((0 : Nat) : Int) → F'.r 10 = .bool false → F'.r 17 = .slice (some ⟨p,0,none⟩) (P.length - 1) P.length → F'.r 18 = vint ((P.length - 1 : Nat) : Int) → F'.r 19 = vint ((0 : Nat) : Int) → headT u = none → _ :=
      fun {F' H5} S5 ds r2 r3 r4 r5 r6 r7 r10 r17 r18 r19 hn => join (F' := F') (H5 := H5) (okb := false) (e' := false) (t' := tal0) (X := [b4]) ds r2 r3 r4 r5 r6 r7 r10 r17 r18 r19 hil (S4.weak0.trans S5) hX (fun h => by cases h) fun _ => linesT_none hdu (by rw [hline hn]; rfl)
     refine idx_load (x := strV a) sl (hwi 0 (by decide) (by decide)) rfl fun _ => offI (good57 hJ (p := wGates) (by have := hwl a (by simp); omega) (by decide) hb0 (by rw [cs_val]; omega) (fun g hg => ?_) fun hg => cnd_false.2 (hold.2 (bad SameX.refl R.ds R.r2 R.r3 R.r4 r5 R.r6 rfl rfl r17 r18 R.r19 (by rw [hh,hg]; rfl))))
     have S5 : SameX [b4] H4 (H4.set b4 (.cells ((talCells tal0 cv nv).set 0 (vint g)) true 0)) := SameX.refl.set (.inl (by simp))
     have c5 : (H4.set b4 (.cells ((talCells tal0 cv nv).set 0 (vint g)) true 0))[b4]? = some (.cells [vint g,vint 0,vint 0,cv,vint 0,nv] true 0) := List.getElem?_set_self (lt_of_get hb0)
     generalize H4.set b4 (.cells ((talCells tal0 cv nv).set 0 (vint g)) true 0) = H5 at *
     have sl5 : Sli H5 (.slice (some ⟨q,0,none⟩) (partsB 32 u).length (partsB 32 u).length) 1 (partsB 32 u).length ([a,bb,c].map strV) := by
      have := sli_new (n := (partsB 32 u).length) (c := (partsB 32 u).length) (S5.get cw (by simpa using hq4.symm)) (by simp) (kn_str _)
      rwa [hw] at this ⊢
     refine cnd_true.2 (idx_load (x := strV bb) sl5 (hwi 1 (by decide) (by decide)) rfl fun _ => offI (good58 hJ (S5.get (S4.get hmA (by simp)) (by simp; have := lt_of_get hm; have := T.low; omega)) (p := wFirst) (by have := hwl bb (by simp); omega) (by decide) c5 (by simp) (fun r hr => ?_) (fun hr => cnd_false.2 (hold.2 (bad S5 R.ds R.r2 R.r3 R.r4 r5 R.r6 rfl rfl r17 r18 R.r19 (by rw [hh,hg,Option.bind_some,hr]; rfl)))) fun hr n => cnd_false.2 (hold.2 (bad (S5.set (.inl (by simp))) R.ds R.r2 R.r3 R.r4 r5 R.r6 rfl rfl r17 r18 R.r19 (by rw [hh,hg,Option.bind_some,hr]; rfl)))))
     have S6 : SameX [b4] H4 (H5.set b4 (.cells (([vint g,vint 0,vint 0,cv,vint 0,nv].set (0 + 1) (vint r.lo)).set (0 + 1 + 1) (vint r.hi)) true 0)) := S5.set (.inl (by simp))
     have c6 : (H5.set b4 (.cells (([vint g,vint 0,vint 0,cv,vint 0,nv].set (0 + 1) (vint r.lo)).set (0 + 1 + 1) (vint r.hi)) true 0))[b4]? = some (.cells [vint g,vint r.lo,vint r.hi,cv,vint 0,nv] true 0) := List.getElem?_set_self (lt_of_get c5)
     generalize H5.set b4 (.cells (([vint g,vint 0,vint 0,cv,vint 0,nv].set (0 + 1) (vint r.lo)).set (0 + 1 + 1) (vint r.hi)) true 0) = H6 at *
     have sl6 : Sli H6 (.slice (some ⟨q,0,none⟩) (partsB 32 u).length (partsB 32 u).length) 1 (partsB 32 u).length ([a,bb,c].map strV) := by
      have := sli_new (n := (partsB 32 u).length) (c := (partsB 32 u).length) (S6.get cw (by simpa using hq4.symm)) (by simp) (kn_str _)
      rwa [hw] at this ⊢
     refine cnd_true.2 (idx_load (x := strV c) sl6 (hwi 2 (by decide) (by decide)) rfl fun _ => offI (good57 hJ (p := wLost) (by have := hwl c (by simp); omega) (by decide) c6 (by simp) (fun ms hms => hold.2 ?_) fun hms => hold.2 (bad S6 R.ds R.r2 R.r3 R.r4 r5 R.r6 rfl rfl r17 r18 R.r19 (by rw [hh,hg,Option.bind_some,hr,Option.bind_some,hms]; rfl))))
     have S7 : SameX [b4] H4 (H6.set b4 (.cells ([vint g,vint r.lo,vint r.hi,cv,vint 0,nv].set (0 + 4) (vint ms)) true 0)) := S6.set (.inl (by simp))
     have c7 : (H6.set b4 (.cells ([vint g,vint r.lo,vint r.hi,cv,vint 0,nv].set (0 + 4) (vint ms)) true 0))[b4]? = some (.cells (talCells ⟨g,r,[],ms,[]⟩ cv nv) true 0) := List.getElem?_set_self (lt_of_get c6)
     refine join (t' := ⟨g,r,[],ms,[]⟩) (e' := false) (X := [b4]) R.ds R.r2 R.r3 R.r4 r5 R.r6 rfl rfl r17 r18 R.r19 hil (S4.weak0.trans S7) hX (fun _ => ⟨⟨cv,nv,o1,o2,T.low,c7,?_,?_,T.b1,T.b2,T.ne⟩,Nat.zero_le _,linesT_some hdu (by rw [hline (y := some ⟨g,r,[],ms,[]⟩) (by rw [hh,hg,Option.bind_some,hr,Option.bind_some,hms]; rfl)]; rfl)⟩) fun h => by cases h
     ·exact ownX_keep T4.oc S7 fun i hi hm => (T.b1 i hi).2 (by simpa using hm)
     ·exact ownX_keep T4.on S7 fun i hi hm => (T.b2 i hi).2 (by simpa using hm)
    ·exact join (t' := t) (X := []) R.ds R.r2 R.r3 R.r4 r5 R.r6 rfl rfl r17 r18 R.r19 hil S4 (by simp) (fun h => by cases h) fun _ => linesT_none hdu (by rw [hline (headT_other (by omega))]; rfl)
   ·-- a line behind it
    have hi0 : i ≠ 0 := by omega
    refine eqS (cndI (fun hu7 => hold.2 ?_) fun hu7 => ?_)
    ·have hu7 : u = wTallied := hu7
     exact join (t' := t) (e' := true) (X := []) R.ds R.r2 R.r3 R.r4 r5 rfl rfl rfl r17 r18 R.r19 hil S4 (by simp) (fun _ => ⟨A.tal.keep S4,by dsimp only at hcnt; omega,linesT_some hdu (by unfold lineT; rw [if_neg (by simp),if_neg hi0,if_pos hu7])⟩) fun h => by cases h
    ·have hu7 : ¬ u = wTallied := hu7
     have hline : ∀ {y : Option Tal},takeT t u = y → lineT i u (t,false) = y.map fun t => (t,false) := fun hy => by
      unfold lineT
      rw [if_neg (by simp),if_neg hi0,if_neg hu7,hy]
     have hlt : t.counts.length + t.changes.length ≤ 400 := A.len
     have hcnt : t.counts.length + t.changes.length ≤ i := hcnt
     refine good59 hJ (S4.get hmA (by simp)) (fun j hj => by have := hPA j hj; have := S4.1; omega) (by omega) (A.tal.keep S4) (by omega) cw (fun t' ht' H5 X SX hX hT => hold.2 ?_) fun ht' H5 S5 => hold.2 ?_
     ·refine join (t' := t') (e' := false) (X := X) R.ds R.r2 R.r3 R.r4 r5 R.r6 rfl rfl r17 r18 R.r19 hil (S4.weak0.trans SX) hX (fun _ => ⟨hT,?_,linesT_some hdu (by rw [hline ht']; rfl)⟩) fun h => by cases h
      have := takeT_len ht'
      omega
     ·exact join (t' := t) (e' := false) (X := []) R.ds R.r2 R.r3 R.r4 r5 R.r6 rfl rfl r17 r18 R.r19 hil (S4.trans S5) (by simp) (fun h => by cases h) fun _ => linesT_none hdu (by rw [hline ht']; rfl)
 ·have hie : i = P.length - 1 := by omega
  subst hie
  have hdr : P.dropLast.drop (P.length - 1) = [] := List.drop_eq_nil_of_le (by simp)
  rw [hdr] at hlines
  have hres : linesT 0 P.dropLast (tal0,false) = .inr x := hlines.symm
  rw [hres] at hR
  obtain ⟨t,e⟩ := x
  dsimp only at hR
  obtain ⟨u,hu⟩ : ∃ u,P[P.length - 1]? = some u := ⟨P[P.length - 1],List.getElem?_eq_getElem (by omega)⟩
  have hlast : P.getLast? = some u := by rw [List.getLast?_eq_getElem?,hu]
  rw [hlast] at hR
  -- the end: an error, or the tallies
  have out : ∀ {F' : RG} {bad : Bool},F'.ds = [] → F'.r 2 = ptr b2 0 → F'.r 3 = .nilIface → F'.r 4 = ptr b4 0 → F'.r 5 = .slice (some ⟨p,0,none⟩) P.length P.length → F'.r 78 = .bool bad → (bad = true → readT s = .inl P.length) → (bad = false → readT s = .inr t) → _ :=
   fun {F' bad} ds r2 r3 r4 r5 r78 hb hg => show W prog J 85 H.length 34 (subC yp2 (codeOf f34)) F' H' (contX pl34 prog J 85 H.length 34 ct34 yp2 (codeOf f34) [] (RetQ prog [.cell 2 27,.tmp 3] H.length K)) by
   rw [s34_3]
   simp only [r2,r4,r5,r78]
   cases bad with
   | true =>
    refine cnd_true.2 (fillI (lenSl (fillO (l := [vint (P.length : Int)]) rfl rfl rfl (by decide) (fillI ⟨by simp [unk],qStA (c := talZ) A.c2 rfl rfl rfl fun H6 S6 c6 l6 => ?_⟩))))
    exact ret_bad (b2 := b2) (i := (P.length : Int)) ds r2 rfl c6 (k1 _ (hb rfl) H6 (A.same.thru S6 (by simp; omega)))
   | false =>
    obtain ⟨cv,nv,o1,o2,T⟩ := A.tal
    have hkn := tal_kn (t := t) (ownX_val T.oc).2.2 (ownX_val T.on).2.2
    have hone := tal_ones (t := t) (ownX_val T.oc).2.1 (ownX_val T.on).2.1
    refine cnd_false.2 (load_part (c := talCells t cv nv) T.cell (by rw [cs_val]; omega) rfl hkn (qStA (c := talCells t cv nv) A.c2 rfl rfl hone fun H6 S6 c6 l6 => ?_))
    refine retQ_same ds (resW_cell (gg := true) (s := 6) (by kernel_rfl) ?_)
    show aLoad true 6 (F'.r 2) H6 _
    rw [r2]
    refine load_part (c := talCells t cv nv) c6 (by rw [cs_val]; omega) rfl hkn (resW_tmp (by show Value.nilIface ≠ unk; simp [unk]) (resW_nil ?_))
    refine k2 t (hg rfl) H6 cv nv o1 o2 (A.same.thru S6 (by simp; omega)) (ownX_keep T.oc S6 fun i hi hm => ?_) (ownX_keep T.on S6 fun i hi hm => ?_) (fun i hi => Nat.le_of_not_lt fun h => (T.b1 i hi).1 (.inl h)) fun i hi => Nat.le_of_not_lt fun h => (T.b2 i hi).1 (.inl h)
    ·exact (T.b1 i hi).1 (.inr (.inl (by simpa using hm)))
    ·exact (T.b2 i hi).1 (.inr (.inl (by simpa using hm)))
  cases e with
  | false => exact notI (cnd_true.2 (hold.2 (out R.ds R.r2 R.r3 R.r4 r5 rfl (fun _ => by rw [hR,if_neg (by simp)]) fun h => by cases h)))
  | true =>
   refine notI (cnd_false.2 (lenSl (subI (by omega) ?_)))
   rw [show (P.length : Int) - 1 = ((P.length - 1 : Nat) : Int) by omega]
   refine idxI ⟨by omega,by omega⟩ (ldI (v := strV u) cpA (by simp [hu]) rfl (neS (hold.2 ?_)))
   refine out R.ds R.r2 R.r3 R.r4 r5 rfl (fun h => ?_) fun h => ?_
   ·have hne : ¬ u = [] := of_decide_eq_true h
    rw [hR,if_neg (by simp [hne])]
   ·have he : u = [] := Decidable.not_not.1 (of_decide_eq_false h)
    rw [hR,if_pos ⟨rfl,by rw [he]⟩]
end
end Go.Proofs.YtlladcglhjlbpaaGreatDoor
namespace Go.Proofs.YtlladcglhjlbpaaGreatDoor
open Go.Conc Go.Proofs.Tryz Go.Extern
set_option maxRecDepth 100000
noncomputable def gsz : Nat := prog.globals.size
abbrev hdl (p T : Nat) : Value := ptr p T
abbrev rtV (p T : Nat) : Value := .iface 157 (.agg ⟨[hdl p T]⟩)
abbrev rvV (p T q : Nat) (fl : Int) : Value := .agg ⟨[hdl p T,ptr q 0,.int .u64 fl]⟩
def PlaceAt (H : List AObj) (p : Nat) : Prop := H[p]? = some (.place gsz)
theorem RunsX.to {α : Type} {P : Program} {X : Event → Prop} {s : Go.Sem α} {w w' : World} {v : α} {Q : α → World → Prop} (h : RunsX P s w v w' []) (hq : Q v w') : RunsTo P X s w Q := fun es he => by
 refine ⟨v,w',es,?_,he,hq⟩
 have := h es
 simpa using this
section
variable {main : Bool} {J : JT} {H : List AObj} {K : Value → List AObj → Prop} {ρ : Env} {FC : Frm} {w : World} {ft : Foot}
theorem place_blk (R : HRel ρ H FC w ft) {p : Nat} (hp : PlaceAt H p) : ρ.blk p = gsz := R.obj p _ hp
theorem arg_val {n : Nat} {v c : Value} (h : VRel n ρ v c) (hu : v ≠ unk) : c = ren ρ v := (h.resolve_left hu).2
theorem goes_place {ρ' : Env} {h' : List AObj} {w' : World} {t : Nat} (G : Goes1 (ρ.put H.length t 0) (H ++ [.place t]) FC w ft ρ' h' w') : Goes1 ρ H FC w ft ρ' h' w' :=
 ⟨G.rel,Env.upto_trans (Env.put_upto ρ H.length t 0) fun b hb => G.upto b (by simp; omega),by have := G.len; simp at this; omega,G.stays⟩
theorem good60 (hJ : Closed prog main J) {T : Nat} {fl : Int} {v : Value} {l : List Value} (hv : VOk H.length v) (hl : ∀ x ∈ l,VOk H.length x ∧ one x = true) (hcl : ∀ ρ,(ren ρ v).cells = ⟨l.map (ren ρ)⟩)
  (hx : ∀ (u : Value) (w : World),RunsX prog (ReflectliteValue.unpack (.iface T u)) w (.agg #[.pointer (some ⟨gsz,T,none⟩),.pointer (some ⟨w.heap.size,0,none⟩),.int .u64 fl]) (w.alloc (.cells u.cells T)) [])
  (hK : K (rvV H.length T (H.length + 1) fl) (H ++ [.place gsz,.cells l true 0])) : Good prog J 60 [.iface T v] H K :=
 good_run hJ (e := fun args => ReflectliteValue.unpack (args.getD 0 (.tuple #[]))) (fn := f60) ⟨by kernel_rfl,by kernel_rfl,by kernel_rfl,by kernel_rfl,by kernel_rfl⟩ fun ρ FC w ft cargs R hr hlen => by
  match cargs,hlen with
  | [c],_ =>
   have hc := arg_val (v := .iface T v) (hr 0) (by simp [unk])
   have hup := Env.put_upto ρ H.length gsz 0
   have e1 : ren (ρ.put H.length gsz 0) v = ren ρ v := ren_congr hup _ hv
   have R1 := R.place gsz
   have G := R1.alloc l T (fun x hx => ⟨VOk.mono (by simp) _ (hl x hx).1,(hl x hx).2⟩) w.drawn
   have e2 : (List.map (ren (ρ.put H.length gsz 0)) l) = (ren ρ v).cells.toList := by rw [← e1,hcl]
   rw [e2] at G
   subst hc
   show RunsTo prog (EvOk ft) (ReflectliteValue.unpack (.iface T (ren ρ v))) w _
   refine RunsX.to (hx (ren ρ v) w) ⟨_,_,(ρ.put H.length gsz 0).put (H ++ [AObj.place gsz]).length w.heap.size 0,hK,?_,?_⟩
   ·have G' := goes_place G
    rw [List.append_assoc] at G'
    exact G'
   ·refine .inr ⟨by simp [VOk,AOk,LOk,AddrOk],?_⟩
    have h1 := (Env.put_self ρ H.length gsz 0).1
    have h2 := (Env.put_self (ρ.put H.length gsz 0) (H ++ [AObj.place gsz]).length w.heap.size 0).1
    have h3 := (Env.put_upto (ρ.put H.length gsz 0) (H ++ [AObj.place gsz]).length w.heap.size 0 H.length (by simp)).1
    simp only [List.length_append,List.length_singleton] at h2 h3
    simp [ren,renA,renL,renAddr,h2,h3,h1]
theorem rels_map : ∀ {n : Nat} {args cargs : List Value},(∀ i : Nat,VRel n ρ (args.getD i unk) (cargs.getD i undef)) → cargs.length = args.length → (∀ x ∈ args,x ≠ unk) → cargs = args.map (ren ρ)
 | _,[],[],_,_,_ => rfl
 | _,a :: l,c :: m,hr,hl,hu => by
  have e0 : c = ren ρ a := arg_val (hr 0) (hu a (by simp))
  have e1 := rels_map (args := l) (cargs := m) (fun i => hr (i + 1)) (by simpa using hl) fun x hx => hu x (by simp [hx])
  rw [e0,e1,List.map_cons]
theorem good_fix (hJ : Closed prog main J) {g : FuncId} {fn : Func} {e : Array Value → Go.Sem Value} (E : IsExt prog g fn e) {args : List Value} {v : Value} (hu : ∀ x ∈ args,x ≠ unk) (hv : VOk H.length v)
  (hrun : ∀ (ρ : Env) (FC : Frm) (w : World) (ft : Foot),HRel ρ H FC w ft → RunsX prog (e ⟨args.map (ren ρ)⟩) w (ren ρ v) w []) (hK : K v H) : Good prog J g args H K :=
 good_run hJ E fun ρ FC w ft cargs R hr hl => by
  rw [rels_map hr hl hu]
  exact RunsX.to (hrun ρ FC w ft R) ⟨v,H,ρ,hK,Goes1.refl R,.inr ⟨hv,rfl⟩⟩
theorem runs_loadVar (R : HRel ρ H FC w ft) {t : TypeId} {g : Bool} {s b o : Nat} {KV : Value → Prop} (ht : tk prog t = some (g,s)) (hK : aLoad g s (ptr b o) H KV) {Q : Value → World → Prop} (hQ : ∀ v,KV v → VOk H.length v → Q (ren ρ v) w) :
  RunsTo prog (EvOk ft) (loadVar t ⟨ρ.blk b,o,none⟩) w Q := by
 have h := sound_load R ht hK hQ
 exact h
theorem runs_storeVar (R : HRel ρ H FC w ft) {t : TypeId} {g : Bool} {s b o : Nat} {v : Value} {KH : List AObj → Prop} (ht : tk prog t = some (g,s)) (hv : VOk H.length v) (hK : aStore s (ptr b o) v H KH)
  {Q : Unit → World → Prop} (hQ : ∀ h' w',KH h' → Goes1 ρ H FC w ft ρ h' w' → Q () w') : RunsTo prog (EvOk ft) (storeVar t ⟨ρ.blk b,o,none⟩ (ren ρ v)) w Q := by
 have h := sound_store R ht hv hK hQ
 exact h
end
theorem vof_ptr : ∀ (u : Value) (w : World),RunsX prog (ReflectliteValue.unpack (.iface 78 u)) w (.agg #[.pointer (some ⟨gsz,78,none⟩),.pointer (some ⟨w.heap.size,0,none⟩),.int .u64 150]) (w.alloc (.cells u.cells 78)) [] := fun u w acc => by kernel_rfl
theorem vof_err : ∀ (u : Value) (w : World),RunsX prog (ReflectliteValue.unpack (.iface 76 u)) w (.agg #[.pointer (some ⟨gsz,76,none⟩),.pointer (some ⟨w.heap.size,0,none⟩),.int .u64 153]) (w.alloc (.cells u.cells 76)) [] := fun u w acc => by kernel_rfl
noncomputable abbrev hc (T : Nat) : Value := .pointer (some ⟨gsz,T,none⟩)
noncomputable abbrev rvc (T : Nat) (a : Addr) (fl : Int) : Value := .agg #[hc T,.pointer (some a),.int .u64 fl]
theorem vty_run (a : Addr) (w : World) : RunsX prog (ReflectliteValue.methodAny (ReflectliteValue.valueError "reflectlite.Value.Type" 0) (fun t _ _ _ => ReflectliteType.toType t) #[rvc 78 a 150]) w (.iface 157 (.agg #[hc 78])) w [] := fun acc => by kernel_rfl
theorem knd_run_p (w : World) : RunsX prog (ReflectliteType.abiMethod (fun t => do pure (.int .u8 (← Rtype.kind t))) #[hc 78]) w (.int .u8 22) w [] := fun acc => by kernel_rfl
theorem knd_run_e (w : World) : RunsX prog (ReflectliteType.abiMethod (fun t => do pure (.int .u8 (← Rtype.kind t))) #[hc 76]) w (.int .u8 25) w [] := fun acc => by kernel_rfl
theorem elm_run (w : World) : RunsX prog (ReflectliteType.method ReflectliteType.elem #[.agg #[hc 78]]) w (.iface 157 (.agg #[hc 76])) w [] := fun acc => by kernel_rfl
theorem imp_run (w : World) : RunsX prog (ReflectliteType.relation "Implements" ReflectliteType.implements_ #[.agg #[hc 76], .iface 157 (.agg #[hc 72])]) w (.bool true) w [] := fun acc => by kernel_rfl
theorem asg_run (w : World) : RunsX prog (ReflectliteType.relation "AssignableTo" ReflectliteType.assignableTo #[.agg #[hc 76], .iface 157 (.agg #[hc 76])]) w (.bool true) w [] := fun acc => by kernel_rfl
theorem tof_run (u : Value) (w : World) : RunsX prog (ReflectliteType.typeOf #[.iface 76 u]) w (.iface 157 (.agg #[hc 76])) w [] := fun acc => by kernel_rfl
theorem parts_p (a : Addr) (w : World) : RunsX prog (ReflectliteValue.parts (rvc 78 a 150)) w (some (78,a,150)) w [] := fun acc => by kernel_rfl
theorem parts_d (a : Addr) (w : World) : RunsX prog (ReflectliteValue.parts (rvc 76 a 409)) w (some (76,a,409)) w [] := fun acc => by kernel_rfl
theorem parts_s (a : Addr) (w : World) : RunsX prog (ReflectliteValue.parts (rvc 76 a 153)) w (some (76,a,153)) w [] := fun acc => by kernel_rfl
theorem elem_of (w : World) : RunsX prog (Rtype.elem? 78) w (some 76) w [] := fun acc => by kernel_rfl
theorem mk_of (a : Addr) (w : World) : RunsX prog (ReflectliteValue.mk 76 a ReflectliteValue.flagAddr) w (rvc 76 a 409) w [] := fun acc => by kernel_rfl
theorem direct_of (w : World) : RunsX prog (Rtype.directlyAssignable 76 76) w true w [] := fun acc => by kernel_rfl
section
variable {main : Bool} {J : JT} {H : List AObj} {K : Value → List AObj → Prop} {ρ : Env} {FC : Frm} {w : World} {ft : Foot}
theorem rv_ren (R : HRel ρ H FC w ft) {p T q : Nat} {fl : Int} (hp : PlaceAt H p) : ren ρ (rvV p T q fl) = rvc T ⟨ρ.blk q,0,none⟩ fl := by
 simp [ren,renA,renL,renAddr,place_blk R hp]
theorem rt_ren (R : HRel ρ H FC w ft) {p T : Nat} (hp : PlaceAt H p) : ren ρ (rtV p T) = .iface 157 (.agg #[hc T]) := by
 simp [ren,renA,renL,renAddr,place_blk R hp]
theorem ra_ren (R : HRel ρ H FC w ft) {p T : Nat} (hp : PlaceAt H p) : ren ρ (.agg ⟨[hdl p T]⟩) = .agg #[hc T] := by
 simp [ren,renA,renL,renAddr,place_blk R hp]
theorem hd_ren (R : HRel ρ H FC w ft) {p T : Nat} (hp : PlaceAt H p) : ren ρ (hdl p T) = hc T := by
 simp [ren,renAddr,place_blk R hp]
theorem place_lt {p : Nat} (hp : PlaceAt H p) : p < H.length := (List.getElem?_eq_some_iff.1 hp).1
theorem good61 (hJ : Closed prog main J) {p q : Nat} (hp : PlaceAt H p) (hK : K (rtV p 78) H) : Good prog J 61 [rvV p 78 q 150] H K :=
 good_fix hJ (e := ReflectliteValue.methodAny (ReflectliteValue.valueError "reflectlite.Value.Type" 0) (fun t _ _ _ => ReflectliteType.toType t)) (fn := f61) ⟨by kernel_rfl, by kernel_rfl, by kernel_rfl, by kernel_rfl, by kernel_rfl⟩
  (by simp [unk]) (by have := place_lt hp; simp [VOk,AOk,LOk,AddrOk,this]) (fun ρ FC w ft R => by
   simp only [List.map]
   rw [rv_ren R hp,rt_ren R hp]
   exact vty_run _ w) hK
theorem good138p (hJ : Closed prog main J) {p : Nat} (hp : PlaceAt H p) (hK : K (.int .u8 22) H) : Good prog J 138 [hdl p 78] H K :=
 good_fix hJ (e := ReflectliteType.abiMethod (fun t => do pure (.int .u8 (← Rtype.kind t)))) (fn := f138) ⟨by kernel_rfl,by kernel_rfl,by kernel_rfl,by kernel_rfl,by kernel_rfl⟩
  (by simp [unk]) (by simp [VOk]) (fun ρ FC w ft R => by
   simp only [List.map]
   rw [hd_ren R hp]
   exact knd_run_p w) hK
theorem good138e (hJ : Closed prog main J) {p : Nat} (hp : PlaceAt H p) (hK : K (.int .u8 25) H) : Good prog J 138 [hdl p 76] H K :=
 good_fix hJ (e := ReflectliteType.abiMethod (fun t => do pure (.int .u8 (← Rtype.kind t)))) (fn := f138) ⟨by kernel_rfl,by kernel_rfl,by kernel_rfl,by kernel_rfl,by kernel_rfl⟩
  (by simp [unk]) (by simp [VOk]) (fun ρ FC w ft R => by
   simp only [List.map]
   rw [hd_ren R hp]
   exact knd_run_e w) hK
theorem good150 (hJ : Closed prog main J) {p : Nat} (hp : PlaceAt H p) (hK : K (rtV p 76) H) : Good prog J 150 [.agg ⟨[hdl p 78]⟩] H K :=
 good_fix hJ (e := ReflectliteType.method ReflectliteType.elem) (fn := f150) ⟨by kernel_rfl,by kernel_rfl,by kernel_rfl,by kernel_rfl,by kernel_rfl⟩
  (by simp [unk]) (by have := place_lt hp; simp [VOk,AOk,LOk,AddrOk,this]) (fun ρ FC w ft R => by
   simp only [List.map]
   rw [ra_ren R hp,rt_ren R hp]
   exact elm_run w) hK
theorem good151 (hJ : Closed prog main J) {p p2 : Nat} (hp : PlaceAt H p) (hp2 : PlaceAt H p2) (hK : K (.bool true) H) : Good prog J 151 [.agg ⟨[hdl p 76]⟩,rtV p2 72] H K :=
 good_fix hJ (e := ReflectliteType.relation "Implements" ReflectliteType.implements_) (fn := f151) ⟨by kernel_rfl, by kernel_rfl, by kernel_rfl, by kernel_rfl, by kernel_rfl⟩
  (by simp [unk]) (by simp [VOk]) (fun ρ FC w ft R => by
   simp only [List.map]
   rw [ra_ren R hp,rt_ren R hp2]
   exact imp_run w) hK
theorem good148 (hJ : Closed prog main J) {p p2 : Nat} (hp : PlaceAt H p) (hp2 : PlaceAt H p2) (hK : K (.bool true) H) : Good prog J 148 [.agg ⟨[hdl p 76]⟩,rtV p2 76] H K :=
 good_fix hJ (e := ReflectliteType.relation "AssignableTo" ReflectliteType.assignableTo) (fn := f148) ⟨by kernel_rfl, by kernel_rfl, by kernel_rfl, by kernel_rfl, by kernel_rfl⟩
  (by simp [unk]) (by simp [VOk]) (fun ρ FC w ft R => by
   simp only [List.map]
   rw [ra_ren R hp,rt_ren R hp2]
   exact asg_run w) hK
theorem good87 (hJ : Closed prog main J) {v : Value} (hK : K (rtV H.length 76) (H ++ [.place gsz])) : Good prog J 87 [.iface 76 v] H K :=
 good_run hJ (e := ReflectliteType.typeOf) (fn := f87) ⟨by kernel_rfl,by kernel_rfl,by kernel_rfl,by kernel_rfl,by kernel_rfl⟩ fun ρ FC w ft cargs R hr hl => by
  rw [rels_map hr hl (by simp [unk])]
  have R1 := R.place gsz
  have hp : PlaceAt (H ++ [.place gsz]) H.length := by simp [PlaceAt]
  refine RunsX.to (tof_run (ren ρ v) w) ⟨_,_,ρ.put H.length gsz 0,hK,goes_place (Goes1.refl R1),.inr ⟨by simp [VOk,AOk,LOk,AddrOk],?_⟩⟩
  rw [rt_ren R1 hp]
theorem tk_pwr : tk prog 78 = some (false,1) := by kernel_rfl
theorem tk_wrg : tk prog 76 = some (true,1) := by kernel_rfl
theorem good62 (hJ : Closed prog main J) {p q b : Nat} (hp : PlaceAt H p) (hq : H[q]? = some (.cells [ptr b 0] true 0)) (hK : K (.bool false) H) : Good prog J 62 [rvV p 78 q 150] H K :=
 good_run hJ (e := ReflectliteValue.method (ReflectliteValue.valueError "reflectlite.Value.IsNil" 0) ReflectliteValue.isNil) (fn := f62) ⟨by kernel_rfl, by kernel_rfl, by kernel_rfl, by kernel_rfl, by kernel_rfl⟩ fun ρ FC w ft cargs R hr hl => by
  rw [rels_map hr hl (by simp [unk])]
  simp only [List.map]
  rw [rv_ren R hp]
  have e1 : ∀ a : Addr, ReflectliteValue.method (ReflectliteValue.valueError "reflectlite.Value.IsNil" 0) ReflectliteValue.isNil ⟨[rvc 78 a 150]⟩ = (do match ← ReflectliteValue.parts (rvc 78 a 150) with | none => ReflectliteValue.valueError "reflectlite.Value.IsNil" 0 | some (t, a, fl) => ReflectliteValue.isNil t a fl (fl % 32)) := fun a => rfl
  rw [e1]
  refine RunsTo.bind (RunsX.to (parts_p _ w) ?_)
  show RunsTo prog (EvOk ft) (do match ← loadVar 78 ⟨ρ.blk q,0,none⟩ with
   | Value.chan none | Value.nilFunc | Value.nilIface | Value.map none | Value.pointer none | Value.slice none _ _ => pure (Value.bool true)
   | _ => pure (Value.bool false)) w _
  refine RunsTo.bind (runs_loadVar R tk_pwr (KV := fun v => v = ptr b 0) (by rw [load_cell hq rfl rfl]) fun v hv _ => ?_)
  subst hv
  exact RunsTo.pure ⟨_,_,ρ,hK,Goes1.refl R,.inr ⟨by simp [VOk],by simp [ren]⟩⟩
theorem good88 (hJ : Closed prog main J) {p q b : Nat} (hp : PlaceAt H p) (hq : H[q]? = some (.cells [ptr b 0] true 0)) (hb : b < H.length) (hK : K (rvV p 76 b 409) H) : Good prog J 88 [rvV p 78 q 150] H K :=
 good_run hJ (e := ReflectliteValue.method (ReflectliteValue.valueError "reflectlite.Value.Elem" 0) ReflectliteValue.elem) (fn := f88) ⟨by kernel_rfl, by kernel_rfl, by kernel_rfl, by kernel_rfl, by kernel_rfl⟩ fun ρ FC w ft cargs R hr hl => by
  rw [rels_map hr hl (by simp [unk])]
  simp only [List.map]
  rw [rv_ren R hp]
  have e1 : ∀ a : Addr, ReflectliteValue.method (ReflectliteValue.valueError "reflectlite.Value.Elem" 0) ReflectliteValue.elem ⟨[rvc 78 a 150]⟩ = (do match ← ReflectliteValue.parts (rvc 78 a 150) with | none => ReflectliteValue.valueError "reflectlite.Value.Elem" 0 | some (t, a, fl) => ReflectliteValue.elem t a fl (fl % 32)) := fun a => rfl
  rw [e1]
  refine RunsTo.bind (RunsX.to (parts_p _ w) ?_)
  show RunsTo prog (EvOk ft) (do
   let v ← loadVar 78 ⟨ρ.blk q,0,none⟩
   let e ← Rtype.elem? 78
   match 22,v,e with
   | 20,i,_ => ReflectliteValue.unpack i
   | 22,.pointer none,_ => pure ReflectliteValue.zeroV
   | 22,.pointer (some p),some e => ReflectliteValue.mk e p ReflectliteValue.flagAddr
   | _, _, _ => ReflectliteValue.valueError "reflectlite.Value.Elem" 22) w _
  refine RunsTo.bind (runs_loadVar R tk_pwr (KV := fun v => v = ptr b 0) (by rw [load_cell hq rfl rfl]) fun v hv _ => ?_)
  subst hv
  refine RunsTo.bind (RunsX.to (elem_of w) ?_)
  exact RunsX.to (mk_of ⟨ρ.blk b,0,none⟩ w) ⟨_,_,ρ,hK,Goes1.refl R,.inr ⟨by have := place_lt hp; simp [VOk,AOk,LOk,AddrOk,this,hb],(rv_ren R hp).symm⟩⟩
theorem good89 (hJ : Closed prog main J) {p p2 b q : Nat} {n m : Int} (hp : PlaceAt H p) (hp2 : PlaceAt H p2) (hq : H[q]? = some (.cells [vint n] true 0)) (hb : H[b]? = some (.cells [vint m] true 0)) (hK : K (.tuple ⟨[]⟩) (H.set b (.cells [vint n] true 0))) :
  Good prog J 89 [rvV p 76 b 409,rvV p2 76 q 153] H K :=
 good_run hJ (e := ReflectliteValue.set) (fn := f89) ⟨by kernel_rfl,by kernel_rfl,by kernel_rfl,by kernel_rfl,by kernel_rfl⟩ fun ρ FC w ft cargs R hr hl => by
  rw [rels_map hr hl (by simp [unk])]
  simp only [List.map]
  rw [rv_ren R hp,rv_ren R hp2]
  have rls : ∀ v x : Value,ReflectliteValue.set ⟨[v,x]⟩ = (do
   let (some (dst,a,fl),some (src,b,_)) := (← ReflectliteValue.parts v,← ReflectliteValue.parts x)
    | unsupported (.noEntry "extern/(internal/reflectlite.Value).Set.zeroValue")
   if fl / ReflectliteValue.flagAddr % 2 == 0 then unsupported (.noEntry "extern/(internal/reflectlite.Value).Set.unaddressable")
   let val ← loadVar src b
   if ← Rtype.directlyAssignable dst src then storeVar dst a val
   else if ← Rtype.implements dst src then
    if (← Rtype.kind src) == 20 then
     match val with
     | .nilIface => unsupported (.noEntry "extern/reflectlite: a nil value of one interface type handed on as a value of another")
     | _ => storeVar dst a val
    else storeVar dst a (.iface src val)
   else panicString ("reflectlite.Set: value of type " ++ (← Rtype.spelt src) ++ " is not assignable to type " ++ (← Rtype.spelt dst))
   pure (.tuple #[])) := fun v x => rfl
  rw [rls]
  refine RunsTo.bind (RunsX.to (parts_d _ w) ?_)
  refine RunsTo.bind (RunsX.to (parts_s _ w) ?_)
  simp only
  rw [if_neg (by decide)]
  refine RunsTo.bind (runs_loadVar R tk_wrg (KV := fun v => v = .agg ⟨[vint n]⟩) ?_ fun v hv _ => ?_)
  ·simp only [aLoad,hq]
   exact ⟨by simp,rfl,rfl⟩
  subst hv
  refine RunsTo.bind (RunsX.to (direct_of w) ?_)
  rw [if_pos rfl]
  refine RunsTo.bind (runs_storeVar R tk_wrg (v := .agg ⟨[vint n]⟩) (KH := fun h => h = H.set b (.cells [vint n] true 0)) (by simp [VOk,AOk,LOk]) ?_ fun h' w' hh g => ?_)
  ·simp only [aStore,hb]
   exact ⟨rfl,rfl,by simp,rfl⟩
  subst hh
  exact RunsTo.pure ⟨_,_,ρ,hK,g,.inr ⟨by simp [VOk,AOk,LOk],by simp [ren,renA,renL]⟩⟩
end
end Go.Proofs.YtlladcglhjlbpaaGreatDoor
namespace Go.Proofs.YtlladcglhjlbpaaGreatDoor
open Go.Conc Go.Proofs.Tryz
set_option maxRecDepth 100000
set_option maxHeartbeats 4000000
set_option linter.unusedVariables false
section
variable {main : Bool} {J : JT} {n0 : Nat} {h : List AObj} {K : Value → List AObj → Prop}
theorem at35 : prog.funcs[35]? = some f35 := by kernel_rfl
theorem body35 : f35.body = some (codeOf f35) := by kernel_rfl
def pl35 : Plans := []
def ct35 : Cuts := .bin (.go) (.bin (.go) (.bin (.go) (.bin (.go) (.bin (.go) (.bin (.bin (.go) (.cut (.go))) (.bin (.go) (.bin (.bin (.go) (.cut (.go))) (.go))))))))
theorem pok35 : plansOk prog pl35 (codeOf f35) = true := by kernel_rfl
theorem e35 {a0 a1 : Value} : W prog J 42 h.length 35 (codeOf f35) (RG.mk (regs [a0,a1]) []) h (RetQ prog [.tmp 4] h.length K) =
(aIfN prog .eql 72 a0 fun v1 =>
cnd v1
(retL h.length K [] [(Value.bool false)] h)
(aIfN prog .eql 20 a1 fun v2 =>
cnd v2
(aMkI prog 9 (Value.string { data := #[101,114,114,111,114,115,58,32,116,97,114,103,101,116,32,99,97,110,110,111,116,32,98,101,32,110,105,108] }) fun v3 =>
False)
(Good prog J 60 [a1] h fun v4 h5 =>
aAlloc [(Value.pointer none),(Value.pointer none),(Value.int .u64 0)] h5 fun v6 h7 =>
aStore 3 v6 v4 h7 fun h8 =>
aLoad true 3 v6 h8 fun v9 =>
Good prog J 61 [v9] h8 fun v10 h11 =>
callI prog (Good prog J) v10 "Kind" [] h11 fun v12 h13 =>
aBin prog .neq 117 v12 (Value.int .u8 22) fun v14 =>
cnd v14
(Hold (W prog J 42 h.length 35 (subC yp2 (codeOf f35)) (RG.p (RG.p (RG.p (RG.p (RG.p (RG.p (RG.p (RG.p (RG.p (RG.p (RG.p (RG.p (RG.p (RG.p (RG.p (RG.p (RG.p (RG.p (RG.p (RG.mk (regs [a0,a1]) []) 4 (Value.bool false)) 8 a0) 9 v1) 10 a1) 11 v2) 13 a1) 14 v4) 5 v6) 15 v9) 16 v10) 6 v10) 17 v10) 18 v12) 19 v14) 20 v14) 20 (Value.bool true)) 21 undef) 22 undef) 23 (Value.bool true)) h13 (contX pl35 prog J 42 h.length 35 ct35 yp2 (codeOf f35) [] (RetQ prog [.tmp 4] h.length K))))
(aLoad true 3 v6 h13 fun v15 =>
Good prog J 62 [v15] h13 fun v16 h17 =>
Hold (W prog J 42 h.length 35 (subC yp2 (codeOf f35)) (RG.p (RG.p (RG.p (RG.p (RG.p (RG.p (RG.p (RG.p (RG.p (RG.p (RG.p (RG.p (RG.p (RG.p (RG.p (RG.p (RG.p (RG.p (RG.p (RG.mk (regs [a0,a1]) []) 4 (Value.bool false)) 8 a0) 9 v1) 10 a1) 11 v2) 13 a1) 14 v4) 5 v6) 15 v9) 16 v10) 6 v10) 17 v10) 18 v12) 19 v14) 20 v14) 20 (Value.bool false)) 21 v15) 22 v16) 23 v16) h17 (contX pl35 prog J 42 h.length 35 ct35 yp2 (codeOf f35) [] (RetQ prog [.tmp 4] h.length K))))))) := top_eq pok35 ct35 (by kernel_rfl)
theorem g35 (hJ : Closed prog main J) {a0 a1 : Value} (hs : heapOk h → W prog J 42 h.length 35 (codeOf f35) (RG.mk (regs [a0,a1]) []) h (RetQ prog [.tmp 4] h.length K)) : Good prog J 35 [a0,a1] h K :=
 good_of_W hJ mixed at35 body35 (by kernel_rfl) (Nat.le_of_ble_eq_true rfl) hs
theorem s35_1 {f : RG} : W prog J 42 n0 35 (subC yp2 (codeOf f35)) f h (contX pl35 prog J 42 n0 35 ct35 yp2 (codeOf f35) [] (RetQ prog [.tmp 4] n0 K)) =
(cnd (f.r 23)
(aMkI prog 9 (Value.string { data := #[101,114,114,111,114,115,58,32,116,97,114,103,101,116,32,109,117,115,116,32,98,101,32,97,32,110,111,110,45,110,105,108,32,112,111,105,110,116,101,114] }) fun v1 =>
False)
(callI prog (Good prog J) (f.r 6) "Elem" [] h fun v2 h3 =>
callI prog (Good prog J) v2 "Kind" [] h3 fun v4 h5 =>
aBin prog .neq 117 v4 (Value.int .u8 20) fun v6 =>
cnd v6
(aLoad false 1 (gv h5 0) h5 fun v7 =>
callI prog (Good prog J) v2 "Implements" [v7] h5 fun v8 h9 =>
aUn .not v8 fun v10 =>
Hold (W prog J 42 n0 35 (subC yp37 (codeOf f35)) (RG.p (RG.p (RG.p (RG.p (RG.p (RG.p (RG.p (RG.p (RG.p (RG.p (RG.p (RG.p (RG.p f 25 (f.r 6)) 26 v2) 7 v2) 27 v2) 28 v4) 29 v6) 30 v6) 30 (Value.bool true)) 31 v2) 32 v7) 33 v8) 34 v10) 35 v10) h9 (contX pl35 prog J 42 n0 35 ct35 yp37 (codeOf f35) [] (RetQ prog [.tmp 4] n0 K))))
(Hold (W prog J 42 n0 35 (subC yp37 (codeOf f35)) (RG.p (RG.p (RG.p (RG.p (RG.p (RG.p (RG.p (RG.p (RG.p (RG.p (RG.p (RG.p (RG.p f 25 (f.r 6)) 26 v2) 7 v2) 27 v2) 28 v4) 29 v6) 30 v6) 30 (Value.bool false)) 31 undef) 32 undef) 33 undef) 34 undef) 35 (Value.bool false)) h5 (contX pl35 prog J 42 n0 35 ct35 yp37 (codeOf f35) [] (RetQ prog [.tmp 4] n0 K)))))) := sub_eq pok35 ct35 (by kernel_rfl)
theorem s35_2 {f : RG} : W prog J 42 n0 35 (subC yp37 (codeOf f35)) f h (contX pl35 prog J 42 n0 35 ct35 yp37 (codeOf f35) [] (RetQ prog [.tmp 4] n0 K)) =
(cnd (f.r 35)
(aMkI prog 9 (Value.string { data := #[101,114,114,111,114,115,58,32,42,116,97,114,103,101,116,32,109,117,115,116,32,98,101,32,105,110,116,101,114,102,97,99,101,32,111,114,32,105,109,112,108,101,109,101,110,116,32,101,114,114,111,114] }) fun v1 =>
False)
(aLoad true 3 (f.r 5) h fun v2 =>
Good prog J 63 [(f.r 0),(f.r 1),v2,(f.r 7)] h fun v3 h4 =>
retL n0 K f.ds [v3] h4)) := sub_eq pok35 ct35 (by kernel_rfl)
theorem at63 : prog.funcs[63]? = some f63 := by kernel_rfl
theorem body63 : f63.body = some (codeOf f63) := by kernel_rfl
def pl63 : Plans := []
def ct63 : Cuts := .go
theorem pok63 : plansOk prog pl63 (codeOf f63) = true := by kernel_rfl
theorem e63 {a0 a1 a2 a3 : Value} : W prog J 62 h.length 63 (codeOf f63) (RG.mk (regs [a0,a1,a2,a3]) []) h (RetQ prog [.tmp 8] h.length K) =
(aBox a2 h fun v1 h2 =>
Sem J 62 h.length 63 (subC [1,0] (codeOf f63)) (RG.p (RG.p (RG.mk (regs [a0,a1,a2,a3]) []) 6 v1) 8 (Value.bool false)) h2 (contX pl63 prog J 62 h.length 63 ct63 [1,0] (codeOf f63) [] (RetQ prog [.tmp 8] h.length K))) := top_eq pok63 ct63 (by kernel_rfl)
theorem g63 (hJ : Closed prog main J) {a0 a1 a2 a3 : Value} (hs : heapOk h → W prog J 62 h.length 63 (codeOf f63) (RG.mk (regs [a0,a1,a2,a3]) []) h (RetQ prog [.tmp 8] h.length K)) : Good prog J 63 [a0,a1,a2,a3] h K :=
 good_of_W hJ mixed at63 body63 (by kernel_rfl) (Nat.le_of_ble_eq_true rfl) hs
theorem s63_1 {f : RG} {nx0 : RG → List AObj → Prop} : W prog J 62 n0 63 (subC [1,0,0] (codeOf f63)) f h (thenK nx0 (contX pl63 prog J 62 n0 63 ct63 [1,0] (codeOf f63) [] (RetQ prog [.tmp 8] n0 K))) =
(Good prog J 87 [(f.r 0)] h fun v1 h2 =>
callI prog (Good prog J) v1 "AssignableTo" [(f.r 3)] h2 fun v3 h4 =>
cnd v3
(aLoad true 3 (f.r 6) h4 fun v5 =>
Good prog J 88 [v5] h4 fun v6 h7 =>
Good prog J 60 [(f.r 0)] h7 fun v8 h9 =>
Good prog J 89 [v6,v8] h9 fun v10 h11 =>
retL n0 K f.ds [(Value.bool true)] h11)
(False)) := sub_eq pok63 ct63 (by kernel_rfl)
theorem l63_1 (hJ : Closed prog main J) {S : Type} (μ : S → Nat) (I : S → RG → List AObj → Prop) (hI : ∀ s f h,I s f h → heapOk h → n0 ≤ h.length → W prog J 62 n0 63 (subC [1,0,0] (codeOf f63)) f h (thenK (Nx n0 μ I s) (contX pl63 prog J 62 n0 63 ct63 [1,0] (codeOf f63) [] (RetQ prog [.tmp 8] n0 K))))
 {s : S} {f : RG} (hi : Gets n0 I s f h) : Sem J 62 n0 63 (subC [1,0] (codeOf f63)) f h (contX pl63 prog J 62 n0 63 ct63 [1,0] (codeOf f63) [] (RetQ prog [.tmp 8] n0 K)) :=
 loop_rule hJ mixed (b := subC [1,0,0] (codeOf f63)) (by kernel_rfl) μ I hI hi
end
end Go.Proofs.YtlladcglhjlbpaaGreatDoor
namespace Go.Proofs.YtlladcglhjlbpaaGreatDoor
open Go.Conc Go.Proofs.Tryz
set_option maxRecDepth 100000
section
variable {main : Bool} {J : JT} {H : List AObj} {K : Value → List AObj → Prop}
theorem meth_knd (h : Value) (w : World) : RunsX prog (Go.method (prog.types.size + Made.depth) 157 (.agg #[h]) "Kind") w (138, h) w [] := fun acc => by kernel_rfl
theorem meth_elm (h : Value) (w : World) : RunsX prog (Go.method (prog.types.size + Made.depth) 157 (.agg #[h]) "Elem") w (150, .agg #[h]) w [] := fun acc => by kernel_rfl
theorem meth_imp (h : Value) (w : World) : RunsX prog (Go.method (prog.types.size + Made.depth) 157 (.agg #[h]) "Implements") w (151, .agg #[h]) w [] := fun acc => by kernel_rfl
theorem meth_asg (h : Value) (w : World) : RunsX prog (Go.method (prog.types.size + Made.depth) 157 (.agg #[h]) "AssignableTo") w (148, .agg #[h]) w [] := fun acc => by kernel_rfl
theorem ren_one (ρ : Env) (v : Value) : ren ρ (.agg ⟨[v]⟩) = .agg #[ren ρ v] := by simp [ren,renA,renL]
theorem callKnd {p T : Nat} (hp : p < H.length) (hk : Good prog J 138 [hdl p T] H K) : callI prog (Good prog J) (rtV p T) "Kind" [] H K :=
 ⟨138,hdl p T,⟨fun ρ w => by rw [ren_one]; exact RunsX.to (meth_knd _ w) ⟨rfl,rfl⟩,of_decide_eq_true (by kernel_rfl),by simp [VOk,AddrOk,hp]⟩,hk⟩
theorem callElm {p T : Nat} (hp : p < H.length) (hk : Good prog J 150 [.agg ⟨[hdl p T]⟩] H K) : callI prog (Good prog J) (rtV p T) "Elem" [] H K :=
 ⟨150,.agg ⟨[hdl p T]⟩,⟨fun ρ w => by rw [ren_one]; exact RunsX.to (meth_elm _ w) ⟨rfl,rfl⟩,of_decide_eq_true (by kernel_rfl),by simp [VOk,AOk,LOk,AddrOk,hp]⟩,hk⟩
theorem callImp {p T : Nat} {u : Value} (hp : p < H.length) (hk : Good prog J 151 [.agg ⟨[hdl p T]⟩, u] H K) : callI prog (Good prog J) (rtV p T) "Implements" [u] H K :=
 ⟨151,.agg ⟨[hdl p T]⟩,⟨fun ρ w => by rw [ren_one]; exact RunsX.to (meth_imp _ w) ⟨rfl,rfl⟩,of_decide_eq_true (by kernel_rfl),by simp [VOk,AOk,LOk,AddrOk,hp]⟩,hk⟩
theorem callAsg {p T : Nat} {u : Value} (hp : p < H.length) (hk : Good prog J 148 [.agg ⟨[hdl p T]⟩, u] H K) : callI prog (Good prog J) (rtV p T) "AssignableTo" [u] H K :=
 ⟨148,.agg ⟨[hdl p T]⟩,⟨fun ρ w => by rw [ren_one]; exact RunsX.to (meth_asg _ w) ⟨rfl,rfl⟩,of_decide_eq_true (by kernel_rfl),by simp [VOk,AOk,LOk,AddrOk,hp]⟩,hk⟩
theorem neqKF {t : TypeId} {k : IntKind} {a b : Int} {KV : Value → Prop} (h : (a != b) = false) (hk : KV (.bool false)) : aBin prog .neq t (.int k a) (.int k b) KV := ⟨rfl,by show KV (.bool (a != b)); rw [h]; exact hk⟩
theorem neqKT {t : TypeId} {k : IntKind} {a b : Int} {KV : Value → Prop} (h : (a != b) = true) (hk : KV (.bool true)) : aBin prog .neq t (.int k a) (.int k b) KV := ⟨rfl,by show KV (.bool (a != b)); rw [h]; exact hk⟩
theorem SameX.setApp {b : Nat} {o : AObj} {H2 : List AObj} (S : SameX [b] H H2) (h2 : H2[b]? = some o) : ∃ g,H2 = H.set b o ++ g := by
 refine ⟨H2.drop H.length,?_⟩
 apply List.ext_getElem?
 intro i
 rw [List.getElem?_append,List.length_set]
 split
 ·rename_i hi
  rw [List.getElem?_set]
  split
  ·rename_i e
   subst e
   simp [hi,h2]
  ·rename_i hne
   exact S.2 i hi (by simp; exact fun e => hne e.symm)
 ·rename_i hi
  rw [List.getElem?_drop]
  congr 1
  omega
theorem retS {n0 b : Nat} {o : AObj} {H2 : List AObj} {v : Value} (ok : heapOk H) (hn : n0 ≤ H.length) (S : SameX [b] H H2) (h2 : H2[b]? = some o) (ho : objOk H.length o) (hu : v ≠ unk) (hv : VOk H.length v) (hk : K v (H.set b o)) : retL n0 K [] [v] H2 := by
 obtain ⟨g,rfl⟩ := S.setApp h2
 refine retL_drop (fun i x hx => ?_) (by simpa using hn) (by simp [hu]) (by simpa [pack] using hv) (by simpa [pack] using hk)
 rw [List.length_set]
 rcases set_get hx with ⟨_,rfl,_⟩ | ⟨_,hx⟩
 ·exact ho
 ·exact ok i x hx
theorem good63 (hJ : Closed prog main J) {p0 p q b : Nat} {n m : Int} {a1 : Value} (hp0 : PlaceAt H p0) (hp : PlaceAt H p) (hq : H[q]? = some (.cells [ptr b 0] true 0)) (hb : H[b]? = some (.cells [vint m] true 0))
  (hK : K (.bool true) (H.set b (.cells [vint n] true 0))) : Good prog J 63 [.iface 76 (.agg ⟨[vint n]⟩),a1,rvV p0 78 q 150,rtV p 76] H K := by
 refine g63 hJ fun ok => ?_
 rw [e63]
 have hbl := lt_of_get hb
 refine qBox (l := [hdl p0 78,ptr q 0,.int .u64 150]) rfl fun H1 p1 e1 S1 c1 l1 => ?_
 refine l63_1 hJ (S := Unit) (fun _ => 0) (fun _ F H' => F.ds = [] ∧ F.r 0 = .iface 76 (.agg ⟨[vint n]⟩) ∧ F.r 3 = rtV p 76 ∧ F.r 6 = ptr p1 0 ∧ SameX [] H H' ∧ H'[p1]? = some (.cells [hdl p0 78,ptr q 0,.int .u64 150] true 0)) ?_ (s := ()) (.inl ⟨rfl,rfl,rfl,rfl,S1,c1⟩)
 rintro s F H2 ⟨ds,r0,r3,r6,S2,c2⟩ ok2 hn2
 rw [s63_1]
 simp only [ds,r0,r3,r6]
 refine good87 hJ ?_
 have S3 : SameX [] H (H2 ++ [.place gsz]) := S2.app
 have pl3 : PlaceAt (H2 ++ [.place gsz]) H2.length := by simp [PlaceAt]
 refine callAsg (lt_of_get pl3) (good148 hJ pl3 (S3.get hp (by simp)) ?_)
 simp only [cnd,cond_true]
 have c3 : (H2 ++ [AObj.place gsz])[p1]? = some (.cells [hdl p0 78,ptr q 0,.int .u64 150] true 0) := by rw [List.getElem?_append_left (lt_of_get c2)]; exact c2
 generalize H2 ++ [AObj.place gsz] = H3 at *
 refine load_part (c := [hdl p0 78,ptr q 0,.int .u64 150]) c3 (by simp) rfl rfl ?_
 refine good88 hJ (S3.get hp0 (by simp)) (S3.get hq (by simp)) (Nat.lt_of_lt_of_le hbl S3.1) ?_
 refine good60 hJ (l := [vint n]) (by simp [VOk,AOk,LOk]) (by simp [VOk,one]) (fun ρ => by simp [ren,renA,renL,Value.cells]) vof_err ?_
 have S4 : SameX [] H (H3 ++ [.place gsz,.cells [vint n] true 0]) := S3.app
 have pl4 : PlaceAt (H3 ++ [.place gsz,.cells [vint n] true 0]) H3.length := by simp [PlaceAt]
 have c4 : (H3 ++ [AObj.place gsz,.cells [vint n] true 0])[H3.length + 1]? = some (.cells [vint n] true 0) := by simp
 generalize H3 ++ [AObj.place gsz,.cells [vint n] true 0] = H4 at *
 have b4 := S4.get hb (by simp)
 refine good89 hJ (S4.get hp0 (by simp)) pl4 c4 b4 ?_
 exact retS ok (Nat.le_refl _) ((S4.weak0).set (.inl (by simp))) (List.getElem?_set_self (lt_of_get b4)) (by simp [objOk,LOk,VOk]) (by simp [unk]) (by simp [VOk]) hK
def ErrAt (H : List AObj) : Prop := ∃ p,PlaceAt H p ∧ H[0]? = some (.typed false 0 [rtV p 72] false)
theorem ErrAt.keep {H H' : List AObj} (S : SameX [] H H') (h : ErrAt H) : ErrAt H' := by
 obtain ⟨p,h1,h2⟩ := h
 exact ⟨p,S.get h1 (by simp),S.get h2 (by simp)⟩
theorem good35n (hJ : Closed prog main J) {a1 : Value} (hK : K (.bool false) H) : Good prog J 35 [.nilIface,a1] H K := by
 refine g35 hJ fun ok => ?_
 rw [e35]
 exact retL_same (by simp [unk]) (by simpa [pack] using hK)
theorem good35 (hJ : Closed prog main J) (hE : ErrAt H) {b : Nat} {n m : Int} (hb : H[b]? = some (.cells [vint m] true 0)) (hK : K (.bool true) (H.set b (.cells [vint n] true 0))) :
  Good prog J 35 [.iface 76 (.agg ⟨[vint n]⟩),.iface 78 (ptr b 0)] H K := by
 refine g35 hJ fun ok => ?_
 rw [e35]
 have hbl := lt_of_get hb
 show (Good prog J 60 _ H _)
 refine good60 hJ (l := [ptr b 0]) (by simp [VOk,AddrOk,hbl]) (by simp [VOk,AddrOk,one,hbl]) (fun ρ => by simp [ren,Value.cells]) vof_ptr ?_
 have S1 : SameX [] H (H ++ [.place gsz,.cells [ptr b 0] true 0]) := SameX.refl.app
 have pl1 : PlaceAt (H ++ [.place gsz,.cells [ptr b 0] true 0]) H.length := by simp [PlaceAt]
 have q1 : (H ++ [AObj.place gsz,.cells [ptr b 0] true 0])[H.length + 1]? = some (.cells [ptr b 0] true 0) := by simp
 generalize H ++ [AObj.place gsz,.cells [ptr b 0] true 0] = H1 at *
 obtain ⟨pe,hpe,h0⟩ := hE
 have hpe1 := S1.get hpe (by simp)
 have h01 := S1.get h0 (by simp)
 have hb1 := S1.get hb (by simp)
 refine qAl fun H2 p5 e2 S2 c2 l2 => ?_
 refine qStA (c := [hdl H.length 78,ptr (H.length + 1) 0,.int .u64 150]) c2 rfl rfl rfl fun H3 S3 c3 l3 => ?_
 have S13 : SameX [] H1 H3 := S2.thru S3 (by simp; omega)
 refine load_part (c := [hdl H.length 78,ptr (H.length + 1) 0,.int .u64 150]) c3 (by simp) rfl rfl ?_
 have pl3 : PlaceAt H3 H.length := S13.get pl1 (by simp)
 refine good61 hJ pl3 (callKnd (lt_of_get pl3) (good138p hJ pl3 (neqKF rfl (cnd_false.2 ?_))))
 refine load_part (c := [hdl H.length 78,ptr (H.length + 1) 0,.int .u64 150]) c3 (by simp) rfl rfl ?_
 refine good62 hJ pl3 (S13.get q1 (by simp)) (hold.2 ?_)
 rw [s35_1]
 refine cnd_false.2 ?_
 refine callElm (p := H.length) (lt_of_get pl3) (good150 hJ pl3 (callKnd (lt_of_get pl3) (good138e hJ pl3 (neqKT rfl (cnd_true.2 ?_)))))
 have h03 := S13.get h01 (by simp)
 have hgv : gv H3 0 = ptr 0 0 := by simp [gv,h03]
 rw [hgv]
 refine ldT h03 rfl rfl ?_
 refine callImp (lt_of_get pl3) (good151 hJ pl3 (S13.get hpe1 (by simp)) ?_)
 show Hold _
 refine hold.2 ?_
 rw [s35_2]
 refine cnd_false.2 ?_
 refine load_part (b := p5) (c := [hdl H.length 78,ptr (H.length + 1) 0,.int .u64 150]) c3 (by simp) rfl rfl ?_
 have S03 : SameX [] H H3 := S1.thru S13 (by simp)
 have b3 := S13.get hb1 (by simp)
 refine good63 hJ (b := b) (n := n) (m := m) pl3 pl3 (S13.get q1 (by simp)) b3 ?_
 exact retS ok (Nat.le_refl _) ((S03.weak0).set (.inl (by simp))) (List.getElem?_set_self (lt_of_get b3)) (by simp [objOk,LOk,VOk]) (by simp [unk]) (by simp [VOk]) hK
end
def readE (s : List UInt8) : Int × Int :=
 if 300 < s.length then (0,10) else match readT s with
  | .inl i => ((i : Nat),2)
  | .inr t => (0,talErr t)
def readTal (s : List UInt8) : Tal :=
 if (readE s).2 = 0 then (match readT s with
  | .inr t => t
  | .inl _ => tal0) else tal0
section
variable {main : Bool} {J : JT} {H : List AObj} {K : Value → List AObj → Prop} {KV : Value → Prop} {F : RG} {n0 : Nat} {m : Int} {s : List UInt8}
theorem talAt_zero {H : List AObj} : TalAt H (.agg ⟨talZ⟩) tal0 (.slice none 0 0) (.slice none 0 0) := ⟨rfl,ownX_sli (ownX_nil (H := H)),ownX_sli (ownX_nil (H := H))⟩
theorem good12 (hJ : Closed prog main J) (hm : MaxAt H m) (hE : ErrAt H)
  (hK : ∀ H' cv nv,SameX [] H H' → TalAt H' (.agg ⟨talCells (readTal s) cv nv⟩) (readTal s) cv nv → K (.tuple ⟨[.agg ⟨talCells (readTal s) cv nv⟩,vint (readE s).1,vint (readE s).2]⟩) H') : Good prog J 12 [strV s] H K := by
 refine g12 hJ fun ok => ?_
 rw [e12]
 refine qAl fun H1 b1 e1 S1 c1 l1 => lenStr (gtrI (cndI (fun h => ?_) fun h => ?_))
 ·have hre : readE s = (0,10) := if_pos (by omega)
  have hrt : readTal s = tal0 := if_neg (by rw [hre]; decide)
  rw [hre,hrt] at hK
  refine fillI (qStA (c := talZ) c1 rfl rfl rfl fun H2 S2 c2 l2 => retQ_same rfl (resW_cell (gg := true) (s := 6) (by kernel_rfl) ?_))
  exact load_part (b := b1) (c := talZ) c2 (by simp) rfl rfl (resW_tmp (by show vint 0 ≠ unk; simp [unk]) (resW_tmp (by show vint 10 ≠ unk; simp [unk]) (resW_nil (hK H2 _ _ (S1.thru S2 (by simp; omega)) talAt_zero))))
 have hre : readE s = match readT s with
  | .inl i => (((i : Nat) : Int),(2 : Int))
  | .inr t => (0,talErr t) := if_neg (by omega)
 -- the way back with an error's number
 have bad : ∀ {F : RG} {H' : List AObj} {a e : Int},F.ds = [] → F.r 2 = ptr b1 0 → F.r 3 = vint a → F.r 4 = vint e → readE s = (a,e) → e ≠ 0 → SameX [] H H' → H'[b1]? = some (.cells talZ true 0) → RetQ prog [.cell 2 27,.tmp 3,.tmp 4] H.length K .ret F H' := by
  intro F H' a e ds r2 r3 r4 hr he S c
  have hrt : readTal s = tal0 := if_neg (by rw [hr]; exact he)
  rw [hr,hrt] at hK
  refine retQ_same ds (resW_cell (gg := true) (s := 6) (by kernel_rfl) ?_)
  rw [r2]
  refine load_part (c := talZ) c (by simp) rfl rfl (resW_tmp (by rw [r3]; simp [unk]) (resW_tmp (by rw [r4]; simp [unk]) (resW_nil ?_)))
  rw [r3,r4]
  exact hK H' _ _ S talAt_zero
 refine good34 hJ (S1.get hm (by simp)) (by omega) (fun i hi H2 S2 => ext0 (ext1 ?_)) fun t ht H2 cv nv o1 o2 S2 O1 O2 hO1 hO2 => ext0 (ext1 ?_)
 ·rw [hi] at hre
  have hre : readE s = (((i : Nat) : Int),2) := hre
  refine qAl fun H3 b3 e3 S3 c3 l3 => qStA (c := talZ) c3 rfl rfl rfl fun H4 S4 c4 l4 => qAl fun H5 b5 e5 S5 c5 l5 => ⟨by simp [unk],?_⟩
  have S05 : SameX [] H H5 := (((S1.trans S2).trans S3).thru S4 (by have := S1.1; have := S2.1; simp; omega)).trans S5
  have S15 : SameX [] H1 H5 := ((S2.trans S3).thru S4 (by have := S2.1; simp; omega)).trans S5
  have lb5 := lt_of_get c5
  have l15 := S15.1
  refine good35 hJ (hE.keep S05) (b := b5) (n := (i : Nat)) (m := 0) c5 (cnd_true.2 ⟨[b5],fillI (offI (ldI (v := vint (i : Nat)) (List.getElem?_set_self lb5) rfl rfl ⟨by simp [RdOk,ptrBlk],?_⟩))⟩)
  have S06 : SameX [] H (H5.set b5 (.cells [vint ((i : Nat) : Int)] true 0)) := S05.set (.inr (by have := S1.1; have := S2.1; have := S3.1; omega))
  have c16 : (H5.set b5 (.cells [vint ((i : Nat) : Int)] true 0))[b1]? = some (.cells talZ true 0) := by
   rw [List.getElem?_set_ne (by have := S2.1; have := S3.1; have := lt_of_get c1; omega)]
   exact S15.get c1 (by simp)
  have c56 : (H5.set b5 (.cells [vint ((i : Nat) : Int)] true 0))[b5]? = some (.cells [vint ((i : Nat) : Int)] true 0) := List.getElem?_set_self lb5
  generalize H5.set b5 (.cells [vint ((i : Nat) : Int)] true 0) = H6 at *
  refine qStA (c := talZ) c16 rfl rfl rfl fun H7 S7 c7 l7 => ⟨fun x hx => ?_,?_⟩
  ·have : x = b5 := by simpa using hx
   subst this
   exact S7.2 _ (lt_of_get c56) (by simp; have := S2.1; have := S3.1; have := lt_of_get c1; omega)
  ·exact bad (a := (i : Nat)) (e := 2) rfl rfl rfl rfl hre (by decide) (S06.thru S7 (by simp; omega)) c7
 ·rw [ht] at hre
  have hre : readE s = (0,talErr t) := hre
  have T2 : TalAt H2 (.agg ⟨talCells t cv nv⟩) t cv nv := ⟨rfl,ownX_sli O1,ownX_sli O2⟩
  have hone := tal_one T2
  have hkn : kn (talCells t cv nv) = true := tal_kn (sli_one T2.ch).2.2 (sli_one T2.co).2.2
  refine qAl fun H3 b3 e3 S3 c3 l3 => qStA (c := talCells t cv nv) c3 rfl rfl hone fun H4 S4 c4 l4 => qAl fun H5 b5 e5 S5 c5 l5 => ⟨by simp [unk],?_⟩
  have S24 : SameX [] H2 H4 := S3.thru S4 (by simp; omega)
  have S25 := S24.trans S5
  have S05 : SameX [] H H5 := (S1.trans S2).trans S25
  have S15 : SameX [] H1 H5 := S2.trans S25
  have c15 := S15.get c1 (by simp)
  have c35 := S5.get c4 (by simp)
  have T5 : TalAt H5 (.agg ⟨talCells t cv nv⟩) t cv nv := ⟨rfl,S25.sli T2.ch (by simp),S25.sli T2.co (by simp)⟩
  refine good35n hJ (cnd_false.2 ?_)
  refine load_part (b := b3) (c := talCells t cv nv) c35 (by rw [cs_val]; omega) rfl hkn (good26 hJ T5 (neqI (cndI (fun he => ?_) fun he => ?_)))
  ·refine fillI (qStA (c := talZ) c15 rfl rfl rfl fun H6 S6 c6 l6 => ?_)
   exact bad (a := 0) (e := talErr t) rfl rfl rfl rfl hre he (S05.thru S6 (by simp; omega)) c6
  ·have he0 : talErr t = 0 := Decidable.not_not.1 he
   have hrt : readTal s = t := by
    unfold readTal
    rw [if_pos (by rw [hre]; exact he0),ht]
   rw [hre,hrt] at hK
   refine load_part (b := b3) (c := talCells t cv nv) c35 (by rw [cs_val]; omega) rfl hkn (qStA (c := talCells t cv nv) c15 rfl rfl hone fun H6 S6 c6 l6 => ?_)
   have P1 := ownX_keep (ownX_keep O1 S25 (by simp)) S6 fun i hi hm => by have := hO1 i hi; have : i = b1 := (by simpa using hm); omega
   have P2 := ownX_keep (ownX_keep O2 S25 (by simp)) S6 fun i hi hm => by have := hO2 i hi; have : i = b1 := (by simpa using hm); omega
   refine retQ_same rfl (resW_cell (gg := true) (s := 6) (by kernel_rfl) ?_)
   refine load_part (b := b1) (c := talCells t cv nv) c6 (by rw [cs_val]; omega) rfl hkn (resW_tmp (by show vint 0 ≠ unk; simp [unk]) (resW_tmp (by show vint 0 ≠ unk; simp [unk]) (resW_nil ?_)))
   have := hK H6 cv nv (S05.thru S6 (by simp; omega)) ⟨rfl,ownX_sli P1,ownX_sli P2⟩
   rw [he0] at this
   exact this
end
end Go.Proofs.YtlladcglhjlbpaaGreatDoor
namespace Go.Proofs.YtlladcglhjlbpaaGreatDoor
set_option maxRecDepth 100000
theorem numD_dig : ∀ n ∈ List.range 1000,(numD n).all isDig = true := of_decide_eq_true (by kernel_rfl)
theorem itoa_mem {n : Int} (h : -1000 < n ∧ n < 1000) : ∀ b ∈ itoaB n,b = 45 ∨ isDig b = true := by
 have hm : n.natAbs ∈ List.range 1000 := by rw [List.mem_range]; omega
 have hd := List.all_eq_true.1 (numD_dig _ hm)
 intro b hb
 unfold itoaB at hb
 split at hb
 ·rcases List.mem_cons.1 hb with rfl | hb
  ·exact .inl rfl
  ·exact .inr (hd b hb)
 ·exact .inr (hd b hb)
theorem itoa_no {n : Int} (h : -1000 < n ∧ n < 1000) : ∀ b ∈ itoaB n,b ≠ 10 ∧ b ≠ 32 ∧ b ≠ 46 := by
 intro b hb
 rcases itoa_mem h b hb with rfl | hd
 ·decide
 ·rw [isDig_iff] at hd
  refine ⟨?_,?_,?_⟩ <;> (rintro rfl; revert hd; decide)
theorem dig_of {b : UInt8} (h : isDig b = true) : ∃ k,k < 10 ∧ b = digC k := by
 rw [isDig_iff] at h
 refine ⟨b.toNat - 48,by omega,?_⟩
 unfold digC
 rw [show 48 + (b.toNat - 48) = b.toNat by omega]
 exact (UInt8.ofNat_toNat).symm
theorem num1 : ∀ a ∈ List.range 10,numD (valB [digC a]).toNat = [digC a] ∧ (valB [digC a]).toNat < 1000 ∧ (a = 0 ∨ 0 < (valB [digC a]).toNat) := of_decide_eq_true (by kernel_rfl)
theorem num2 : ∀ a ∈ List.range 10,a = 0 ∨ ∀ b ∈ List.range 10,numD (valB [digC a,digC b]).toNat = [digC a,digC b] ∧ (valB [digC a,digC b]).toNat < 1000 ∧ 0 < (valB [digC a,digC b]).toNat := of_decide_eq_true (by kernel_rfl)
theorem num3 : ∀ a ∈ List.range 10,a = 0 ∨ ∀ b ∈ List.range 10,∀ c ∈ List.range 10,numD (valB [digC a,digC b,digC c]).toNat = [digC a,digC b,digC c] ∧ (valB [digC a,digC b,digC c]).toNat < 1000 ∧ 0 < (valB [digC a,digC b,digC c]).toNat := of_decide_eq_true (by kernel_rfl)
theorem digs_back {m : Bool} {d : List UInt8} (h : digsOk m d = true) : numD (valB d).toNat = d ∧ 0 ≤ valB d ∧ valB d < 1000 ∧ (m = true → 0 < valB d) := by
 unfold digsOk at h
 simp only [Bool.and_eq_true,decide_eq_true_eq,Bool.not_eq_true'] at h
 obtain ⟨⟨⟨h1,h3⟩,hz⟩,hall⟩ := h
 have hb := valB_small hall h3
 rw [List.all_eq_true] at hall
 have key : numD (valB d).toNat = d ∧ (valB d).toNat < 1000 ∧ (m = true → 0 < (valB d).toNat) := by
  match d,h1,h3 with
  | [x],_,_ =>
   obtain ⟨a,ha,rfl⟩ := dig_of (hall x (by simp))
   obtain ⟨k1,k2,k3⟩ := num1 a (List.mem_range.2 ha)
   refine ⟨k1,k2,fun hm => k3.resolve_left fun h0 => ?_⟩
   subst h0 hm
   revert hz
   decide
  | [x,y],_,_ =>
   obtain ⟨a,ha,rfl⟩ := dig_of (hall x (by simp))
   obtain ⟨b,hbb,rfl⟩ := dig_of (hall y (by simp))
   rcases num2 a (List.mem_range.2 ha) with rfl | k
   ·exfalso
    revert hz
    cases m <;> simp [digC]
   ·obtain ⟨k1,k2,k3⟩ := k b (List.mem_range.2 hbb)
    exact ⟨k1,k2,fun _ => k3⟩
  | [x,y,z],_,_ =>
   obtain ⟨a,ha,rfl⟩ := dig_of (hall x (by simp))
   obtain ⟨b,hbb,rfl⟩ := dig_of (hall y (by simp))
   obtain ⟨c,hc,rfl⟩ := dig_of (hall z (by simp))
   rcases num3 a (List.mem_range.2 ha) with rfl | k
   ·exfalso
    revert hz
    cases m <;> simp [digC]
   ·obtain ⟨k1,k2,k3⟩ := k b (List.mem_range.2 hbb) c (List.mem_range.2 hc)
    exact ⟨k1,k2,fun _ => k3⟩
 obtain ⟨k1,k2,k3⟩ := key
 exact ⟨k1,hb.1,by omega,fun hm => by have := k3 hm; omega⟩
theorem sign_back (s : List UInt8) : s = if (signB s).1 then 45 :: (signB s).2 else (signB s).2 := by
 unfold signB
 split <;> simp
theorem whole_back {s : List UInt8} {n : Int} (h : wholeB s = some n) : s = itoaB n ∧ -1000 < n ∧ n < 1000 := by
 unfold wholeB at h
 split at h
 ·rename_i hd
  have hs := sign_back s
  generalize (signB s).1 = m at *
  generalize (signB s).2 = d at *
  obtain ⟨k1,k2,k3,k4⟩ := digs_back hd
  cases m with
  | true =>
   have k4 := k4 rfl
   have h : some (-valB d) = some n := h
   cases h
   refine ⟨?_,by omega,by omega⟩
   rw [hs,if_pos rfl]
   unfold itoaB
   rw [if_pos (by omega)]
   congr 1
   rw [← k1]
   congr 1
   rw [k1]
   omega
  | false =>
   have h : some (valB d) = some n := h
   cases h
   refine ⟨?_,by omega,by omega⟩
   rw [hs,if_neg (by decide)]
   unfold itoaB
   rw [if_neg (by omega)]
   rw [show (valB d).natAbs = (valB d).toNat by omega,k1]
 ·cases h
theorem after_back {p w u : List UInt8} (h : afterB p w = some u) : w = p ++ u := by
 unfold afterB at h
 split at h
 ·rename_i hp
  cases h
  obtain ⟨t,rfl⟩ := List.isPrefixOf_iff_prefix.1 hp
  simp
 ·cases h
theorem cut_back : ∀ {s a b : List UInt8},cut2 s = some (a,b) → s = a ++ 46 :: 46 :: b
 | [],_,_,h => by cases h
 | x :: r,a,b,h => by
  unfold cut2 at h
  split at h
  ·rename_i hx
   cases h
   obtain ⟨rfl,h2⟩ := hx
   cases r with
   | nil => cases h2
   | cons y r =>
    simp at h2
    subst h2
    rfl
  ·obtain ⟨⟨a',b'⟩,h1,h2⟩ := Option.map_eq_some_iff.1 h
   cases h2
   rw [cut_back h1]
   rfl
theorem rng_back {p w : List UInt8} {r : Rng} (h : rngB p w = some r) : w = spanB p r ∧ (-1000 < r.lo ∧ r.lo < 1000) ∧ -1000 < r.hi ∧ r.hi < 1000 := by
 unfold rngB at h
 obtain ⟨u,h1,h⟩ := Option.bind_eq_some_iff.1 h
 obtain ⟨⟨x,y⟩,h2,h⟩ := Option.bind_eq_some_iff.1 h
 obtain ⟨a,h3,h⟩ := Option.bind_eq_some_iff.1 h
 obtain ⟨b,h4,rfl⟩ := Option.map_eq_some_iff.1 h
 obtain ⟨rfl,ha⟩ := whole_back h3
 obtain ⟨rfl,hb⟩ := whole_back h4
 refine ⟨?_,ha,hb⟩
 rw [after_back h1,cut_back h2]
 simp [spanB,namedB]
theorem join_parts {c : UInt8} : ∀ (s : List UInt8) {a : List UInt8} {l : List (List UInt8)},partsB c s = a :: l → s = joinR [c] a l
 | [],a,l,h => by
  simp only [partsB,List.cons.injEq] at h
  obtain ⟨rfl,rfl⟩ := h
  rfl
 | b :: s,a,l,h => by
  unfold partsB at h
  by_cases e : b = c
  ·rw [if_pos e] at h
   simp only [List.cons.injEq] at h
   obtain ⟨rfl,h⟩ := h
   cases l with
   | nil => exact absurd h (partsB_ne c s)
   | cons x l =>
    rw [join_parts s h,e]
    simp [joinR]
  ·rw [if_neg e] at h
   split at h
   ·rename_i p q hp
    simp only [List.cons.injEq] at h
    obtain ⟨rfl,rfl⟩ := h
    rw [join_parts s hp]
    rfl
   ·rename_i hp
    exact absurd hp (partsB_ne c s)
def Bnd (n : Int) : Prop := -1000 < n ∧ n < 1000
def NoW (w : List UInt8) : Prop := ∀ b ∈ w,b ≠ 10 ∧ b ≠ 32
theorem NoW.app {a b : List UInt8} (h1 : NoW a) (h2 : NoW b) : NoW (a ++ b) := fun x hx => (List.mem_append.1 hx).elim (h1 x) (h2 x)
theorem now_itoa {n : Int} (h : Bnd n) : NoW (itoaB n) := fun b hb => ⟨(itoa_no h b hb).1,(itoa_no h b hb).2.1⟩
theorem now_named {p : List UInt8} {n : Int} (hp : NoW p) (h : Bnd n) : NoW (namedB p n) := (hp.app (by intro b hb; simp at hb; subst hb; decide)).app (now_itoa h)
theorem now_span {p : List UInt8} {r : Rng} (hp : NoW p) (h : Bnd r.lo ∧ Bnd r.hi) : NoW (spanB p r) := ((now_named hp h.1).app (by intro b hb; simp at hb; subst hb; decide)).app (now_itoa h.2)
theorem now_words : NoW wGates ∧ NoW wFirst ∧ NoW wLost ∧ NoW wChange ∧ NoW wCount ∧ NoW wGate ∧ NoW wMan ∧ NoW wNumber ∧ NoW wErr ∧ NoW wTallied := by
 refine ⟨?_,?_,?_,?_,?_,?_,?_,?_,?_,?_⟩ <;> (unfold NoW; decide)
theorem span_ne (r : Rng) : spanB wChange r ≠ wTallied := by
 intro e
 have := congrArg List.head? e
 simp [spanB,namedB,wChange,wTallied] at this
theorem line_take {i : Nat} {u : List UInt8} {t t' : Tal} (hi : i ≠ 0) (hu : u ≠ wTallied) (h : takeT t u = some t') : lineT i u (t,false) = some (t',false) := by
 unfold lineT
 rw [if_neg (by simp),if_neg hi,if_neg hu,h]
 rfl
theorem itoa_short : ∀ n ∈ List.range 1000,(numD n).length ≤ (if n < 10 then 1 else if n < 100 then 2 else 3) := of_decide_eq_true (by kernel_rfl)
theorem len1 {n : Int} (h : 0 ≤ n ∧ n ≤ 9) : (itoaB n).length ≤ 1 := by
 have := itoa_short n.natAbs (by rw [List.mem_range]; omega)
 rw [if_pos (by omega)] at this
 unfold itoaB
 rw [if_neg (by omega)]
 exact this
theorem len2 {n : Int} (h : 0 ≤ n ∧ n ≤ 99) : (itoaB n).length ≤ 2 := by
 have := itoa_short n.natAbs (by rw [List.mem_range]; omega)
 unfold itoaB
 rw [if_neg (by omega)]
 split at this
 ·omega
 ·rw [if_pos (by omega)] at this
  exact this
theorem len2m {n : Int} (h : -9 ≤ n ∧ n ≤ 9) : (itoaB n).length ≤ 2 := by
 have := itoa_short n.natAbs (by rw [List.mem_range]; omega)
 rw [if_pos (by omega)] at this
 unfold itoaB
 split
 ·simp
  omega
 ·omega
theorem len3 {n : Int} (h : 0 ≤ n ∧ n ≤ 999) : (itoaB n).length ≤ 3 := by
 have := itoa_short n.natAbs (by rw [List.mem_range]; omega)
 unfold itoaB
 rw [if_neg (by omega)]
 split at this
 ·omega
 ·split at this <;> omega
theorem write_short {t : Tal} (h : TalOk 5 5 t) : (writeB t).length ≤ 290 := by
 have hc : (t.changes.flatMap changeB).length ≤ 14 * t.changes.length := by
  have : ∀ l : List Rng,(∀ r ∈ l,-3 ≤ r.lo ∧ r.lo ≤ 2 ∧ r.lo ≤ r.hi ∧ r.hi ≤ r.lo + 2) → (l.flatMap changeB).length ≤ 14 * l.length := by
   intro l
   induction l with
   | nil => intro _; simp
   | cons r l ih =>
    intro h
    have h1 := h r (by simp)
    have ih := ih fun x hx => h x (by simp [hx])
    have a1 := len2m (n := r.lo) (by omega)
    have a2 := len2m (n := r.hi) (by omega)
    have e : (changeB r).length = 6 + 1 + (itoaB r.lo).length + 2 + (itoaB r.hi).length + 1 := by simp [changeB,lineB,joinR,spanB,namedB,wChange]; omega
    rw [List.flatMap_cons,List.length_append,List.length_cons]
    omega
  exact this _ h.ch
 have ho : (t.counts.flatMap countB).length ≤ 38 * t.counts.length := by
  have : ∀ l : List Cnt,(∀ c ∈ l,(0 ≤ c.gate ∧ c.gate < t.gates) ∧ (1 ≤ c.man ∧ c.man ≤ 4) ∧ (0 ≤ c.err ∧ c.err ≤ 20) ∧ (0 ≤ c.num ∧ c.num ≤ 200)) → (l.flatMap countB).length ≤ 38 * l.length := by
   intro l
   induction l with
   | nil => intro _; simp
   | cons c l ih =>
    intro hh
    have h1 := hh c (by simp)
    have ih := ih fun x hx => hh x (by simp [hx])
    have hg := h.gates
    have a1 := len1 (n := c.gate) (by omega)
    have a2 := len1 (n := c.man) (by omega)
    have a3 := len3 (n := c.num) (by omega)
    have a4 := len2 (n := c.err) (by omega)
    have e : (countB c).length = 5 + (1 + 5 + (itoaB c.gate).length) + (1 + 4 + (itoaB c.man).length) + (1 + 7 + (itoaB c.num).length) + (1 + 4 + (itoaB c.err).length) + 1 := by simp [countB,lineB,joinR,namedB,wCount,wGate,wMan,wNumber,wErr]; omega
    rw [List.flatMap_cons,List.length_append,List.length_cons]
    omega
  exact this _ h.co
 have hg := h.gates
 have hf := h.first
 have hm := h.most
 have a1 := len1 (n := t.gates) (by omega)
 have a2 := len2 (n := t.first.lo) (by omega)
 have a3 := len2 (n := t.first.hi) (by omega)
 have a4 := len1 (n := t.most) (by omega)
 have e : (headB t).length = (5 + 1 + (itoaB t.gates).length) + (1 + 5 + 1 + (itoaB t.first.lo).length + 2 + (itoaB t.first.hi).length) + (1 + 4 + 1 + (itoaB t.most).length) + 1 := by simp [headB,lineB,joinR,spanB,namedB,wGates,wFirst,wLost]; omega
 have e2 : (lineB wTallied []).length = 8 := by simp [lineB,joinR,wTallied]
 have hcl := h.chl
 have hfew := h.few
 unfold writeB
 rw [List.length_append,List.length_append,List.length_append,e2]
 omega
end Go.Proofs.YtlladcglhjlbpaaGreatDoor
namespace Go.Proofs.YtlladcglhjlbpaaGreatDoor
open Go.Conc Go.Proofs.Tryz
set_option maxRecDepth 100000
set_option maxHeartbeats 4000000
set_option linter.unusedVariables false
section
variable {main : Bool} {J : JT} {n0 : Nat} {h : List AObj} {K : Value → List AObj → Prop}
theorem at3 : prog.funcs[3]? = some f3 := by kernel_rfl
theorem body3 : f3.body = some (codeOf f3) := by kernel_rfl
def pl3 : Plans := [(3,false,.take 0 (.take 1 (.take 5 (.alt 2 true (.alt 3 true (.alt 4 false (.take 7 (.last 6 true (.take 8 (.fin)))) (.last 6 true (.last 4 false (.take 7 (.take 8 (.fin)))))) (.last 6 true (.last 3 true (.last 4 false (.take 7 (.take 8 (.fin))))))) (.last 6 true (.last 2 true (.last 3 true (.last 4 false (.take 7 (.take 8 (.fin)))))))))))]
def ct3 : Cuts := .bin (.go) (.bin (.bin (.go) (.cut (.go))) (.bin (.go) (.cut (.bin (.bin (.go) (.un (.un (.bin (.go) (.bin (.un (.bin (.go) (.bin (.go) (.bin (.bin (.go) (.cut (.go))) (.go))))) (.go)))))) (.bin (.go) (.bin (.bin (.go) (.un (.un (.bin (.go) (.bin (.un (.bin (.go) (.bin (.go) (.bin (.go) (.cut (.go)))))) (.go)))))) (.go)))))))
theorem pok3 : plansOk prog pl3 (codeOf f3) = true := by kernel_rfl
theorem e3 {a0 a1 a2 a3 a4 a5 : Value} : W prog J 130 h.length 3 (codeOf f3) (RG.mk (regs [a0,a1,a2,a3,a4,a5]) []) h (RetQ prog [.tmp 12] h.length K) =
(aBox a0 h fun v1 h2 =>
aLoad true 6 v1 h2 fun v3 =>
Good prog J 5 [v3] h2 fun v4 h5 =>
cnd v4
(Hold (W prog J 130 h.length 3 (subC [1,0,1] (codeOf f3)) (RG.p (RG.p (RG.p (RG.p (RG.p (RG.p (RG.p (RG.p (RG.p (RG.p (RG.p (RG.p (RG.p (RG.p (RG.p (RG.mk (regs [a0,a1,a2,a3,a4,a5]) []) 6 v1) 12 (Value.bool false)) 27 v3) 28 v4) 29 v4) 29 (Value.bool true)) 30 undef) 31 undef) 32 undef) 33 undef) 34 undef) 35 undef) 36 undef) 37 undef) 38 (Value.bool true)) h5 (contX pl3 prog J 130 h.length 3 ct3 [1,0,1] (codeOf f3) [] (RetQ prog [.tmp 12] h.length K))))
(aLenStr a1 fun v6 =>
aBin prog .gtr 3 v6 (vint 250) fun v7 =>
cnd v7
(aLenStr a1 fun v8 =>
aBin prog .leq 3 v8 (vint 300) fun v9 =>
Hold (W prog J 130 h.length 3 (subC [1,0,1] (codeOf f3)) (RG.p (RG.p (RG.p (RG.p (RG.p (RG.p (RG.p (RG.p (RG.p (RG.p (RG.p (RG.p (RG.p (RG.p (RG.p (RG.p (RG.mk (regs [a0,a1,a2,a3,a4,a5]) []) 6 v1) 12 (Value.bool false)) 27 v3) 28 v4) 29 v4) 29 (Value.bool false)) 30 a1) 31 v6) 32 v7) 33 v7) 33 (Value.bool true)) 34 a1) 35 v8) 36 v9) 37 v9) 38 v9) h5 (contX pl3 prog J 130 h.length 3 ct3 [1,0,1] (codeOf f3) [] (RetQ prog [.tmp 12] h.length K))))
(Hold (W prog J 130 h.length 3 (subC [1,0,1] (codeOf f3)) (RG.p (RG.p (RG.p (RG.p (RG.p (RG.p (RG.p (RG.p (RG.p (RG.p (RG.p (RG.p (RG.p (RG.p (RG.p (RG.p (RG.mk (regs [a0,a1,a2,a3,a4,a5]) []) 6 v1) 12 (Value.bool false)) 27 v3) 28 v4) 29 v4) 29 (Value.bool false)) 30 a1) 31 v6) 32 v7) 33 v7) 33 (Value.bool false)) 34 undef) 35 undef) 36 undef) 37 (Value.bool false)) 38 (Value.bool false)) h5 (contX pl3 prog J 130 h.length 3 ct3 [1,0,1] (codeOf f3) [] (RetQ prog [.tmp 12] h.length K)))))) := top_eq pok3 ct3 (by kernel_rfl)
theorem g3 (hJ : Closed prog main J) {a0 a1 a2 a3 a4 a5 : Value} (hs : heapOk h → W prog J 130 h.length 3 (codeOf f3) (RG.mk (regs [a0,a1,a2,a3,a4,a5]) []) h (RetQ prog [.tmp 12] h.length K)) : Good prog J 3 [a0,a1,a2,a3,a4,a5] h K :=
 good_of_W hJ mixed at3 body3 (by kernel_rfl) (Nat.le_of_ble_eq_true rfl) hs
theorem s3_1 {f : RG} : W prog J 130 n0 3 (subC [1,0,1] (codeOf f3)) f h (contX pl3 prog J 130 n0 3 ct3 [1,0,1] (codeOf f3) [] (RetQ prog [.tmp 12] n0 K)) =
(cnd (f.r 38)
(Good prog J 6 [] h fun v1 h2 =>
retL n0 K f.ds [v1] h2)
((∃ B,aLoad true 6 (f.r 6) h fun v3 =>
RdOk (some B) (ptrBlk (f.r 6)) ∧ ((Good prog J 8 [(f.r 2)] h fun v4 h5 =>
SameB (some B) h h5 ∧ ((Good prog J 7 [v4,(vint 5),(vint 5)] h5 fun v6 h7 =>
SameB (some B) h h7 ∧ (((((2 * 6 : Nat) ≤ 16777216 ∧ (2 : Nat) ≤ 16777216 ∧ List.length [(vint 0),(vint 0),(vint 0),(Value.slice none 0 0),(vint 0),(Value.slice none 0 0)] = 6) ∧ aFill (zrep [(vint 0),(vint 0),(vint 0),(Value.slice none 0 0),(vint 0),(Value.slice none 0 0)] 2) [(0,6,v3),(6,6,v6)] fun c8 =>
aNewS 2 c8 h7 fun v9 h10 =>
(((1 * 1 : Nat) ≤ 16777216 ∧ (1 : Nat) ≤ 16777216 ∧ List.length [(Value.string { data := #[] })] = 1) ∧ aFill (zrep [(Value.string { data := #[] })] 1) [(0,1,(f.r 1))] fun c11 =>
aNewS 1 c11 h10 fun v12 h13 =>
SameB (some B) h h13 ∧ (Hold (W prog J 130 n0 3 (subC [1,1,1] (codeOf f3)) (RG.p (RG.p (RG.p (RG.p (RG.p (RG.p (RG.p (RG.p (RG.p f 40 v3) 41 (f.r 2)) 45 (f.r 1)) 42 v4) 43 v6) 44 v9) 13 v9) 46 v12) 14 v12) h13 (contX pl3 prog J 130 n0 3 ct3 [1,1,1] (codeOf f3) [] (RetQ prog [.tmp 12] n0 K))))))) ∧ ((((1 * 1 : Nat) ≤ 16777216 ∧ (1 : Nat) ≤ 16777216 ∧ List.length [(Value.string { data := #[] })] = 1) ∧ aFill (zrep [(Value.string { data := #[] })] 1) [(0,1,(f.r 1))] fun c14 =>
aNewS 1 c14 h7 fun v15 h16 =>
SameB (some B) h h16 ∧ ((((2 * 6 : Nat) ≤ 16777216 ∧ (2 : Nat) ≤ 16777216 ∧ List.length [(vint 0),(vint 0),(vint 0),(Value.slice none 0 0),(vint 0),(Value.slice none 0 0)] = 6) ∧ aFill (zrep [(vint 0),(vint 0),(vint 0),(Value.slice none 0 0),(vint 0),(Value.slice none 0 0)] 2) [(0,6,v3),(6,6,v6)] fun c17 =>
aNewS 2 c17 h16 fun v18 h19 =>
Hold (W prog J 130 n0 3 (subC [1,1,1] (codeOf f3)) (RG.p (RG.p (RG.p (RG.p (RG.p (RG.p (RG.p (RG.p (RG.p f 40 v3) 41 (f.r 2)) 45 (f.r 1)) 42 v4) 43 v6) 46 v15) 44 v18) 13 v18) 14 v15) h19 (contX pl3 prog J 130 n0 3 ct3 [1,1,1] (codeOf f3) [] (RetQ prog [.tmp 12] n0 K))))))))) ∧ ((((1 * 1 : Nat) ≤ 16777216 ∧ (1 : Nat) ≤ 16777216 ∧ List.length [(Value.string { data := #[] })] = 1) ∧ aFill (zrep [(Value.string { data := #[] })] 1) [(0,1,(f.r 1))] fun c20 =>
aNewS 1 c20 h5 fun v21 h22 =>
SameB (some B) h h22 ∧ (Good prog J 7 [v4,(vint 5),(vint 5)] h22 fun v23 h24 =>
SameB (some B) h h24 ∧ ((((2 * 6 : Nat) ≤ 16777216 ∧ (2 : Nat) ≤ 16777216 ∧ List.length [(vint 0),(vint 0),(vint 0),(Value.slice none 0 0),(vint 0),(Value.slice none 0 0)] = 6) ∧ aFill (zrep [(vint 0),(vint 0),(vint 0),(Value.slice none 0 0),(vint 0),(Value.slice none 0 0)] 2) [(0,6,v3),(6,6,v23)] fun c25 =>
aNewS 2 c25 h24 fun v26 h27 =>
Hold (W prog J 130 n0 3 (subC [1,1,1] (codeOf f3)) (RG.p (RG.p (RG.p (RG.p (RG.p (RG.p (RG.p (RG.p (RG.p f 40 v3) 41 (f.r 2)) 45 (f.r 1)) 42 v4) 46 v21) 43 v23) 44 v26) 13 v26) 14 v21) h27 (contX pl3 prog J 130 n0 3 ct3 [1,1,1] (codeOf f3) [] (RetQ prog [.tmp 12] n0 K)))))))))) ∧ ((((1 * 1 : Nat) ≤ 16777216 ∧ (1 : Nat) ≤ 16777216 ∧ List.length [(Value.string { data := #[] })] = 1) ∧ aFill (zrep [(Value.string { data := #[] })] 1) [(0,1,(f.r 1))] fun c28 =>
aNewS 1 c28 h fun v29 h30 =>
SameB (some B) h h30 ∧ (Good prog J 8 [(f.r 2)] h30 fun v31 h32 =>
SameB (some B) h h32 ∧ (Good prog J 7 [v31,(vint 5),(vint 5)] h32 fun v33 h34 =>
SameB (some B) h h34 ∧ ((((2 * 6 : Nat) ≤ 16777216 ∧ (2 : Nat) ≤ 16777216 ∧ List.length [(vint 0),(vint 0),(vint 0),(Value.slice none 0 0),(vint 0),(Value.slice none 0 0)] = 6) ∧ aFill (zrep [(vint 0),(vint 0),(vint 0),(Value.slice none 0 0),(vint 0),(Value.slice none 0 0)] 2) [(0,6,v3),(6,6,v33)] fun c35 =>
aNewS 2 c35 h34 fun v36 h37 =>
Hold (W prog J 130 n0 3 (subC [1,1,1] (codeOf f3)) (RG.p (RG.p (RG.p (RG.p (RG.p (RG.p (RG.p (RG.p (RG.p f 40 v3) 41 (f.r 2)) 45 (f.r 1)) 46 v29) 42 v31) 43 v33) 44 v36) 13 v36) 14 v29) h37 (contX pl3 prog J 130 n0 3 ct3 [1,1,1] (codeOf f3) [] (RetQ prog [.tmp 12] n0 K))))))))))))) := sub_eq pok3 ct3 (by kernel_rfl)
theorem s3_2 {f : RG} : W prog J 130 n0 3 (subC [1,1,1] (codeOf f3)) f h (contX pl3 prog J 130 n0 3 ct3 [1,1,1] (codeOf f3) [] (RetQ prog [.tmp 12] n0 K)) =
(Sem J 130 n0 3 (subC yp1 (codeOf f3)) (RG.p f 15 (vint 0)) h (contX pl3 prog J 130 n0 3 ct3 yp1 (codeOf f3) [] (RetQ prog [.tmp 12] n0 K))) := sub_eq pok3 ct3 (by kernel_rfl)
theorem s3_3 {f : RG} {nx0 : RG → List AObj → Prop} : W prog J 130 n0 3 (subC yp6 (codeOf f3)) f h (thenK nx0 (contX pl3 prog J 130 n0 3 ct3 yp1 (codeOf f3) [] (RetQ prog [.tmp 12] n0 K))) =
(aLenS (f.r 13) fun v1 =>
aBin prog .lss 3 (f.r 15) v1 fun v2 =>
cnd v2
(aIdx 6 (f.r 13) (f.r 15) fun v3 =>
aLoad true 6 v3 h fun v4 =>
Good prog J 9 [v4] h fun v5 h6 =>
aExt v5 0 fun v7 =>
aExt v5 1 fun v8 =>
aIdx 6 (f.r 13) (f.r 15) fun v9 =>
aLoad true 6 v9 h6 fun v10 =>
Good prog J 10 [v10] h6 fun v11 h12 =>
aExt v11 0 fun v13 =>
aExt v11 1 fun v14 =>
aBin prog .neq 9 v7 v13 fun v15 =>
cnd v15
(Hold (W prog J 130 n0 3 (subC yp29 (codeOf f3)) (RG.p (RG.p (RG.p (RG.p (RG.p (RG.p (RG.p (RG.p (RG.p (RG.p (RG.p (RG.p (RG.p (RG.p (RG.p (RG.p (RG.p (RG.p (RG.p (RG.p (RG.p (RG.p (RG.p (RG.p (RG.p (RG.p (RG.p (RG.p (RG.p (RG.p (RG.p (RG.p (RG.p f 47 (f.r 15)) 48 (f.r 13)) 49 v1) 50 v2) 54 (f.r 13)) 55 (f.r 15)) 56 v3) 57 v4) 58 v5) 53 v5) 59 v7) 60 v8) 16 v7) 17 v8) 62 (f.r 13)) 63 (f.r 15)) 64 v9) 65 v10) 66 v11) 61 v11) 67 v13) 68 v14) 18 v13) 19 v14) 69 v7) 70 v13) 71 v15) 72 v15) 72 (Value.bool true)) 73 undef) 74 undef) 75 undef) 76 (Value.bool true)) h12 (contX pl3 prog J 130 n0 3 ct3 yp29 (codeOf f3) [nx0] (RetQ prog [.tmp 12] n0 K))))
(aBin prog .neq 36 v8 v14 fun v16 =>
Hold (W prog J 130 n0 3 (subC yp29 (codeOf f3)) (RG.p (RG.p (RG.p (RG.p (RG.p (RG.p (RG.p (RG.p (RG.p (RG.p (RG.p (RG.p (RG.p (RG.p (RG.p (RG.p (RG.p (RG.p (RG.p (RG.p (RG.p (RG.p (RG.p (RG.p (RG.p (RG.p (RG.p (RG.p (RG.p (RG.p (RG.p (RG.p (RG.p f 47 (f.r 15)) 48 (f.r 13)) 49 v1) 50 v2) 54 (f.r 13)) 55 (f.r 15)) 56 v3) 57 v4) 58 v5) 53 v5) 59 v7) 60 v8) 16 v7) 17 v8) 62 (f.r 13)) 63 (f.r 15)) 64 v9) 65 v10) 66 v11) 61 v11) 67 v13) 68 v14) 18 v13) 19 v14) 69 v7) 70 v13) 71 v15) 72 v15) 72 (Value.bool false)) 73 v8) 74 v14) 75 v16) 76 v16) h12 (contX pl3 prog J 130 n0 3 ct3 yp29 (codeOf f3) [nx0] (RetQ prog [.tmp 12] n0 K)))))
(aIdx 1 (f.r 14) (vint 2) fun v17 =>
aLoad false 1 v17 h fun v18 =>
Good prog J 11 [v18,(f.r 3),(f.r 4),(f.r 5)] h fun v19 h20 =>
(((1 * 1 : Nat) ≤ 16777216 ∧ (1 : Nat) ≤ 16777216 ∧ List.length [(Value.string { data := #[] })] = 1) ∧ aFill (zrep [(Value.string { data := #[] })] 1) [(0,1,v19)] fun c21 =>
aNewS 1 c21 h20 fun v22 h23 =>
((List.length [(Value.string { data := #[] })] = 1 ∧ 0 < (1 : Nat) ∧ 0 < (16 : Nat) ∧ (16 : Nat) ≤ 1024) ∧ aApp 1 (f.r 14) v22 h23 fun v24 h25 =>
Sem J 130 n0 3 (subC yp5 (codeOf f3)) (RG.p (RG.p (RG.p (RG.p (RG.p (RG.p (RG.p (RG.p (RG.p (RG.p (RG.p (RG.p (RG.p (RG.p (RG.p (RG.p f 47 (f.r 15)) 48 (f.r 13)) 49 v1) 50 v2) 81 (f.r 14)) 82 (f.r 14)) 83 v17) 84 v18) 85 (f.r 3)) 86 (f.r 4)) 87 (f.r 5)) 88 v19) 89 v22) 90 v24) 14 v24) 20 (vint 0)) h25 (contX pl3 prog J 130 n0 3 ct3 yp5 (codeOf f3) [] (RetQ prog [.tmp 12] n0 K)))))) := sub_eq pok3 ct3 (by kernel_rfl)
theorem l3_3 (hJ : Closed prog main J) {S : Type} (μ : S → Nat) (I : S → RG → List AObj → Prop) (hI : ∀ s f h,I s f h → heapOk h → n0 ≤ h.length → W prog J 130 n0 3 (subC yp6 (codeOf f3)) f h (thenK (Nx n0 μ I s) (contX pl3 prog J 130 n0 3 ct3 yp1 (codeOf f3) [] (RetQ prog [.tmp 12] n0 K))))
 {s : S} {f : RG} (hi : Gets n0 I s f h) : Sem J 130 n0 3 (subC yp1 (codeOf f3)) f h (contX pl3 prog J 130 n0 3 ct3 yp1 (codeOf f3) [] (RetQ prog [.tmp 12] n0 K)) :=
 loop_rule hJ mixed (b := subC yp6 (codeOf f3)) (by kernel_rfl) μ I hI hi
theorem s3_4 {f : RG} {nx0 : RG → List AObj → Prop} : W prog J 130 n0 3 (subC yp29 (codeOf f3)) f h (contX pl3 prog J 130 n0 3 ct3 yp29 (codeOf f3) [nx0] (RetQ prog [.tmp 12] n0 K)) =
(cnd (f.r 76)
(retL n0 K f.ds [(Value.bool false)] h)
((((1 * 1 : Nat) ≤ 16777216 ∧ (1 : Nat) ≤ 16777216 ∧ List.length [(Value.string { data := #[] })] = 1) ∧ aFill (zrep [(Value.string { data := #[] })] 1) [(0,1,(f.r 18))] fun c1 =>
aNewS 1 c1 h fun v2 h3 =>
((List.length [(Value.string { data := #[] })] = 1 ∧ 0 < (1 : Nat) ∧ 0 < (16 : Nat) ∧ (16 : Nat) ≤ 1024) ∧ aApp 1 (f.r 14) v2 h3 fun v4 h5 =>
aBin prog .add 3 (f.r 15) (vint 1) fun v6 =>
nx0 (RG.p (RG.p (RG.p (RG.p (RG.p (RG.p (RG.p (RG.p f 77 (f.r 14)) 78 (f.r 18)) 79 v2) 80 v4) 14 v4) 51 (f.r 15)) 52 v6) 15 v6) h5)))) := sub_eq pok3 ct3 (by kernel_rfl)
theorem s3_5 {f : RG} {nx0 : RG → List AObj → Prop} : W prog J 130 n0 3 (subC yp13 (codeOf f3)) f h (thenK nx0 (contX pl3 prog J 130 n0 3 ct3 yp5 (codeOf f3) [] (RetQ prog [.tmp 12] n0 K))) =
(aLenS (f.r 14) fun v1 =>
aBin prog .lss 3 (f.r 20) v1 fun v2 =>
cnd v2
(aIdx 1 (f.r 14) (f.r 20) fun v3 =>
aLoad false 1 v3 h fun v4 =>
Good prog J 12 [v4] h fun v5 h6 =>
aExt v5 0 fun v7 =>
aExt v5 1 fun v8 =>
aExt v5 2 fun v9 =>
aAlloc [(vint 0),(vint 0),(vint 0),(Value.slice none 0 0),(vint 0),(Value.slice none 0 0)] h6 fun v10 h11 =>
aStore 6 v10 v7 h11 fun h12 =>
aIdx 1 (f.r 14) (f.r 20) fun v13 =>
aLoad false 1 v13 h12 fun v14 =>
Good prog J 13 [v14] h12 fun v15 h16 =>
aExt v15 0 fun v17 =>
aExt v15 1 fun v18 =>
aExt v15 2 fun v19 =>
aAlloc [(vint 0),(vint 0),(vint 0),(Value.slice none 0 0),(vint 0),(Value.slice none 0 0)] h16 fun v20 h21 =>
aStore 6 v20 v17 h21 fun h22 =>
aBin prog .neq 3 v8 v18 fun v23 =>
cnd v23
(Hold (W prog J 130 n0 3 (subC yp30 (codeOf f3)) (RG.p (RG.p (RG.p (RG.p (RG.p (RG.p (RG.p (RG.p (RG.p (RG.p (RG.p (RG.p (RG.p (RG.p (RG.p (RG.p (RG.p (RG.p (RG.p (RG.p (RG.p (RG.p (RG.p (RG.p (RG.p (RG.p (RG.p (RG.p (RG.p (RG.p (RG.p (RG.p (RG.p (RG.p (RG.p (RG.p (RG.p (RG.p (RG.p (RG.p (RG.p (RG.p (RG.p (RG.p f 91 (f.r 20)) 92 (f.r 14)) 93 v1) 94 v2) 98 (f.r 14)) 99 (f.r 20)) 100 v3) 101 v4) 102 v5) 97 v5) 103 v7) 104 v8) 105 v9) 21 v10) 22 v8) 23 v9) 107 (f.r 14)) 108 (f.r 20)) 109 v13) 110 v14) 111 v15) 106 v15) 112 v17) 113 v18) 114 v19) 24 v20) 25 v18) 26 v19) 115 v8) 116 v18) 117 v23) 118 v23) 118 (Value.bool true)) 119 undef) 120 undef) 121 undef) 122 (Value.bool true)) 123 (Value.bool true)) 123 (Value.bool true)) 124 undef) 125 undef) 126 undef) 127 undef) 128 (Value.bool true)) h22 (contX pl3 prog J 130 n0 3 ct3 yp30 (codeOf f3) [nx0] (RetQ prog [.tmp 12] n0 K))))
(aBin prog .neq 36 v9 v19 fun v24 =>
cnd v24
(Hold (W prog J 130 n0 3 (subC yp30 (codeOf f3)) (RG.p (RG.p (RG.p (RG.p (RG.p (RG.p (RG.p (RG.p (RG.p (RG.p (RG.p (RG.p (RG.p (RG.p (RG.p (RG.p (RG.p (RG.p (RG.p (RG.p (RG.p (RG.p (RG.p (RG.p (RG.p (RG.p (RG.p (RG.p (RG.p (RG.p (RG.p (RG.p (RG.p (RG.p (RG.p (RG.p (RG.p (RG.p (RG.p (RG.p (RG.p (RG.p (RG.p (RG.p f 91 (f.r 20)) 92 (f.r 14)) 93 v1) 94 v2) 98 (f.r 14)) 99 (f.r 20)) 100 v3) 101 v4) 102 v5) 97 v5) 103 v7) 104 v8) 105 v9) 21 v10) 22 v8) 23 v9) 107 (f.r 14)) 108 (f.r 20)) 109 v13) 110 v14) 111 v15) 106 v15) 112 v17) 113 v18) 114 v19) 24 v20) 25 v18) 26 v19) 115 v8) 116 v18) 117 v23) 118 v23) 118 (Value.bool false)) 119 v9) 120 v19) 121 v24) 122 v24) 123 v24) 123 (Value.bool true)) 124 undef) 125 undef) 126 undef) 127 undef) 128 (Value.bool true)) h22 (contX pl3 prog J 130 n0 3 ct3 yp30 (codeOf f3) [nx0] (RetQ prog [.tmp 12] n0 K))))
(aLoad true 6 v10 h22 fun v25 =>
aLoad true 6 v20 h22 fun v26 =>
Good prog J 14 [v25,v26] h22 fun v27 h28 =>
aUn .not v27 fun v29 =>
Hold (W prog J 130 n0 3 (subC yp30 (codeOf f3)) (RG.p (RG.p (RG.p (RG.p (RG.p (RG.p (RG.p (RG.p (RG.p (RG.p (RG.p (RG.p (RG.p (RG.p (RG.p (RG.p (RG.p (RG.p (RG.p (RG.p (RG.p (RG.p (RG.p (RG.p (RG.p (RG.p (RG.p (RG.p (RG.p (RG.p (RG.p (RG.p (RG.p (RG.p (RG.p (RG.p (RG.p (RG.p (RG.p (RG.p (RG.p (RG.p (RG.p (RG.p f 91 (f.r 20)) 92 (f.r 14)) 93 v1) 94 v2) 98 (f.r 14)) 99 (f.r 20)) 100 v3) 101 v4) 102 v5) 97 v5) 103 v7) 104 v8) 105 v9) 21 v10) 22 v8) 23 v9) 107 (f.r 14)) 108 (f.r 20)) 109 v13) 110 v14) 111 v15) 106 v15) 112 v17) 113 v18) 114 v19) 24 v20) 25 v18) 26 v19) 115 v8) 116 v18) 117 v23) 118 v23) 118 (Value.bool false)) 119 v9) 120 v19) 121 v24) 122 v24) 123 v24) 123 (Value.bool false)) 124 v25) 125 v26) 126 v27) 127 v29) 128 v29) h28 (contX pl3 prog J 130 n0 3 ct3 yp30 (codeOf f3) [nx0] (RetQ prog [.tmp 12] n0 K))))))
(Good prog J 6 [] h fun v30 h31 =>
retL n0 K f.ds [v30] h31)) := sub_eq pok3 ct3 (by kernel_rfl)
theorem l3_5 (hJ : Closed prog main J) {S : Type} (μ : S → Nat) (I : S → RG → List AObj → Prop) (hI : ∀ s f h,I s f h → heapOk h → n0 ≤ h.length → W prog J 130 n0 3 (subC yp13 (codeOf f3)) f h (thenK (Nx n0 μ I s) (contX pl3 prog J 130 n0 3 ct3 yp5 (codeOf f3) [] (RetQ prog [.tmp 12] n0 K))))
 {s : S} {f : RG} (hi : Gets n0 I s f h) : Sem J 130 n0 3 (subC yp5 (codeOf f3)) f h (contX pl3 prog J 130 n0 3 ct3 yp5 (codeOf f3) [] (RetQ prog [.tmp 12] n0 K)) :=
 loop_rule hJ mixed (b := subC yp13 (codeOf f3)) (by kernel_rfl) μ I hI hi
theorem s3_6 {f : RG} {nx0 : RG → List AObj → Prop} : W prog J 130 n0 3 (subC yp30 (codeOf f3)) f h (contX pl3 prog J 130 n0 3 ct3 yp30 (codeOf f3) [nx0] (RetQ prog [.tmp 12] n0 K)) =
(cnd (f.r 128)
(retL n0 K f.ds [(Value.bool false)] h)
(aBin prog .add 3 (f.r 20) (vint 1) fun v1 =>
nx0 (RG.p (RG.p (RG.p f 95 (f.r 20)) 96 v1) 20 v1) h)) := sub_eq pok3 ct3 (by kernel_rfl)
theorem at4 : prog.funcs[4]? = some f4 := by kernel_rfl
theorem body4 : f4.body = some (codeOf f4) := by kernel_rfl
def pl4 : Plans := []
def ct4 : Cuts := .bin (.go) (.bin (.go) (.bin (.go) (.bin (.go) (.bin (.go) (.bin (.bin (.go) (.cut (.go))) (.go))))))
theorem pok4 : plansOk prog pl4 (codeOf f4) = true := by kernel_rfl
theorem e4 {a0 a1 : Value} : W prog J 74 h.length 4 (codeOf f4) (RG.mk (regs [a0,a1]) []) h (RetQ prog [.tmp 4] h.length K) =
(aLenStr a1 fun v1 =>
aBin prog .gtr 3 v1 (vint 250) fun v2 =>
cnd v2
(Good prog J 6 [] h fun v3 h4 =>
retL h.length K [] [v3] h4)
(Good prog J 8 [a0] h fun v5 h6 =>
Good prog J 7 [v5,(vint 5),(vint 5)] h6 fun v7 h8 =>
aAlloc [(vint 0),(vint 0),(vint 0),(Value.slice none 0 0),(vint 0),(Value.slice none 0 0)] h8 fun v9 h10 =>
aStore 6 v9 v7 h10 fun h11 =>
aLoad true 6 v9 h11 fun v12 =>
Good prog J 9 [v12] h11 fun v13 h14 =>
aExt v13 0 fun v15 =>
aExt v13 1 fun v16 =>
Good prog J 12 [v15] h14 fun v17 h18 =>
aExt v17 0 fun v19 =>
aExt v17 1 fun v20 =>
aExt v17 2 fun v21 =>
aAlloc [(vint 0),(vint 0),(vint 0),(Value.slice none 0 0),(vint 0),(Value.slice none 0 0)] h18 fun v22 h23 =>
aStore 6 v22 v19 h23 fun h24 =>
aBin prog .neq 36 v16 (vint 0) fun v25 =>
cnd v25
(Hold (W prog J 74 h.length 4 (subC yp2 (codeOf f4)) (RG.p (RG.p (RG.p (RG.p (RG.p (RG.p (RG.p (RG.p (RG.p (RG.p (RG.p (RG.p (RG.p (RG.p (RG.p (RG.p (RG.p (RG.p (RG.p (RG.p (RG.p (RG.p (RG.p (RG.p (RG.p (RG.p (RG.p (RG.p (RG.p (RG.p (RG.p (RG.p (RG.p (RG.p (RG.p (RG.p (RG.p (RG.p (RG.p (RG.p (RG.p (RG.p (RG.p (RG.mk (regs [a0,a1]) []) 4 (Value.bool false)) 16 a1) 17 v1) 18 v2) 20 a0) 21 v5) 22 v7) 5 v9) 24 v12) 25 v13) 23 v13) 26 v15) 27 v16) 6 v15) 7 v16) 29 v15) 30 v17) 28 v17) 31 v19) 32 v20) 33 v21) 8 v22) 9 v20) 10 v21) 34 v16) 35 v25) 36 v25) 36 (Value.bool true)) 37 undef) 38 undef) 39 (Value.bool true)) 40 (Value.bool true)) 40 (Value.bool true)) 41 undef) 42 undef) 43 (Value.bool true)) 44 (Value.bool true)) 44 (Value.bool true)) 45 undef) 46 undef) 47 undef) 48 undef) 49 (Value.bool true)) h24 (contX pl4 prog J 74 h.length 4 ct4 yp2 (codeOf f4) [] (RetQ prog [.tmp 4] h.length K))))
(aBin prog .neq 36 v21 (vint 0) fun v26 =>
cnd v26
(Hold (W prog J 74 h.length 4 (subC yp2 (codeOf f4)) (RG.p (RG.p (RG.p (RG.p (RG.p (RG.p (RG.p (RG.p (RG.p (RG.p (RG.p (RG.p (RG.p (RG.p (RG.p (RG.p (RG.p (RG.p (RG.p (RG.p (RG.p (RG.p (RG.p (RG.p (RG.p (RG.p (RG.p (RG.p (RG.p (RG.p (RG.p (RG.p (RG.p (RG.p (RG.p (RG.p (RG.p (RG.p (RG.p (RG.p (RG.p (RG.p (RG.p (RG.mk (regs [a0,a1]) []) 4 (Value.bool false)) 16 a1) 17 v1) 18 v2) 20 a0) 21 v5) 22 v7) 5 v9) 24 v12) 25 v13) 23 v13) 26 v15) 27 v16) 6 v15) 7 v16) 29 v15) 30 v17) 28 v17) 31 v19) 32 v20) 33 v21) 8 v22) 9 v20) 10 v21) 34 v16) 35 v25) 36 v25) 36 (Value.bool false)) 37 v21) 38 v26) 39 v26) 40 v26) 40 (Value.bool true)) 41 undef) 42 undef) 43 (Value.bool true)) 44 (Value.bool true)) 44 (Value.bool true)) 45 undef) 46 undef) 47 undef) 48 undef) 49 (Value.bool true)) h24 (contX pl4 prog J 74 h.length 4 ct4 yp2 (codeOf f4) [] (RetQ prog [.tmp 4] h.length K))))
(aBin prog .neq 3 v20 (vint 0) fun v27 =>
cnd v27
(Hold (W prog J 74 h.length 4 (subC yp2 (codeOf f4)) (RG.p (RG.p (RG.p (RG.p (RG.p (RG.p (RG.p (RG.p (RG.p (RG.p (RG.p (RG.p (RG.p (RG.p (RG.p (RG.p (RG.p (RG.p (RG.p (RG.p (RG.p (RG.p (RG.p (RG.p (RG.p (RG.p (RG.p (RG.p (RG.p (RG.p (RG.p (RG.p (RG.p (RG.p (RG.p (RG.p (RG.p (RG.p (RG.p (RG.p (RG.p (RG.p (RG.p (RG.mk (regs [a0,a1]) []) 4 (Value.bool false)) 16 a1) 17 v1) 18 v2) 20 a0) 21 v5) 22 v7) 5 v9) 24 v12) 25 v13) 23 v13) 26 v15) 27 v16) 6 v15) 7 v16) 29 v15) 30 v17) 28 v17) 31 v19) 32 v20) 33 v21) 8 v22) 9 v20) 10 v21) 34 v16) 35 v25) 36 v25) 36 (Value.bool false)) 37 v21) 38 v26) 39 v26) 40 v26) 40 (Value.bool false)) 41 v20) 42 v27) 43 v27) 44 v27) 44 (Value.bool true)) 45 undef) 46 undef) 47 undef) 48 undef) 49 (Value.bool true)) h24 (contX pl4 prog J 74 h.length 4 ct4 yp2 (codeOf f4) [] (RetQ prog [.tmp 4] h.length K))))
(aLoad true 6 v9 h24 fun v28 =>
aLoad true 6 v22 h24 fun v29 =>
Good prog J 14 [v28,v29] h24 fun v30 h31 =>
aUn .not v30 fun v32 =>
Hold (W prog J 74 h.length 4 (subC yp2 (codeOf f4)) (RG.p (RG.p (RG.p (RG.p (RG.p (RG.p (RG.p (RG.p (RG.p (RG.p (RG.p (RG.p (RG.p (RG.p (RG.p (RG.p (RG.p (RG.p (RG.p (RG.p (RG.p (RG.p (RG.p (RG.p (RG.p (RG.p (RG.p (RG.p (RG.p (RG.p (RG.p (RG.p (RG.p (RG.p (RG.p (RG.p (RG.p (RG.p (RG.p (RG.p (RG.p (RG.p (RG.p (RG.mk (regs [a0,a1]) []) 4 (Value.bool false)) 16 a1) 17 v1) 18 v2) 20 a0) 21 v5) 22 v7) 5 v9) 24 v12) 25 v13) 23 v13) 26 v15) 27 v16) 6 v15) 7 v16) 29 v15) 30 v17) 28 v17) 31 v19) 32 v20) 33 v21) 8 v22) 9 v20) 10 v21) 34 v16) 35 v25) 36 v25) 36 (Value.bool false)) 37 v21) 38 v26) 39 v26) 40 v26) 40 (Value.bool false)) 41 v20) 42 v27) 43 v27) 44 v27) 44 (Value.bool false)) 45 v28) 46 v29) 47 v30) 48 v32) 49 v32) h31 (contX pl4 prog J 74 h.length 4 ct4 yp2 (codeOf f4) [] (RetQ prog [.tmp 4] h.length K)))))))) := top_eq pok4 ct4 (by kernel_rfl)
theorem g4 (hJ : Closed prog main J) {a0 a1 : Value} (hs : heapOk h → W prog J 74 h.length 4 (codeOf f4) (RG.mk (regs [a0,a1]) []) h (RetQ prog [.tmp 4] h.length K)) : Good prog J 4 [a0,a1] h K :=
 good_of_W hJ mixed at4 body4 (by kernel_rfl) (Nat.le_of_ble_eq_true rfl) hs
end
end Go.Proofs.YtlladcglhjlbpaaGreatDoor
namespace Go.Proofs.YtlladcglhjlbpaaGreatDoor
open Go.Conc Go.Proofs.Tryz
set_option maxRecDepth 100000
theorem readE_ok {s : List UInt8} (h : (readE s).2 = 0) : ∃ t,readT s = .inr t ∧ talErr t = 0 ∧ readTal s = t ∧ (readE s).1 = 0 := by
 unfold readTal
 rw [if_pos h]
 unfold readE at h ⊢
 split at h
 ·simp at h
 ·rename_i hl
  rw [if_neg hl]
  cases hr : readT s with
  | inl i =>
   rw [hr] at h
   simp at h
  | inr t =>
   rw [hr] at h
   exact ⟨t,rfl,h,rfl,rfl⟩
section
variable {main : Bool} {J : JT} {h : List AObj} {K : Value → List AObj → Prop} {n0 : Nat} {m : Int}
theorem pow_keep {X : List Nat} {H H' : List AObj} (a : PowAt H) (S : SameX X H H') (hX : ∀ x ∈ X,H.length ≤ x) : PowAt H' := S.get a fun h => absurd (hX _ h) (Nat.not_le.2 (lt_of_get a))
theorem max_keep {X : List Nat} {H H' : List AObj} (a : MaxAt H m) (S : SameX X H H') (hX : ∀ x ∈ X,H.length ≤ x) : MaxAt H' m := S.get a fun h => absurd (hX _ h) (Nat.not_le.2 (lt_of_get a))
theorem err_keep {X : List Nat} {H H' : List AObj} (a : ErrAt H) (S : SameX X H H') (hX : ∀ x ∈ X,H.length ≤ x) : ErrAt H' := by
 obtain ⟨p,a1,a2⟩ := a
 exact ⟨p,S.get a1 fun h => absurd (hX _ h) (Nat.not_le.2 (lt_of_get a1)),S.get a2 fun h => absurd (hX _ h) (Nat.not_le.2 (lt_of_get a2))⟩
end
end Go.Proofs.YtlladcglhjlbpaaGreatDoor
namespace Go.Proofs.YtlladcglhjlbpaaGreatDoor
open Go.Conc Go.Proofs.Tryz
set_option maxRecDepth 100000
set_option maxHeartbeats 4000000
set_option linter.unusedVariables false
section
variable {main : Bool} {J : JT} {n0 : Nat} {h : List AObj} {K : Value → List AObj → Prop}
theorem at32 : prog.funcs[32]? = some f32 := by kernel_rfl
theorem body32 : f32.body = some (codeOf f32) := by kernel_rfl
def pl32 : Plans := [(1,false,.take 0 (.take 1 (.take 4 (.take 5 (.last 2 true (.take 3 (.last 6 true (.take 7 (.take 8 (.fin))))))))))]
def ct32 : Cuts := .go
theorem pok32 : plansOk prog pl32 (codeOf f32) = true := by kernel_rfl
theorem e32 {a0 : Value} : W prog J 11 h.length 32 (codeOf f32) (RG.mk (regs [a0]) []) h (RetQ prog [.tmp 2] h.length K) =
(aBox a0 h fun v1 h2 =>
(∃ B,aOff v1 0 fun v3 =>
aLoad false 1 v3 h2 fun v4 =>
RdOk (some B) (ptrBlk v3) ∧ (aOff v1 1 fun v5 =>
aLoad false 1 v5 h2 fun v6 =>
RdOk (some B) (ptrBlk v5) ∧ (Good prog J 31 [v4] h2 fun v7 h8 =>
SameB (some B) h2 h8 ∧ (aBin prog .add 9 v7 (Value.string { data := #[46,46] }) fun v9 =>
Good prog J 31 [v6] h8 fun v10 h11 =>
SameB (some B) h2 h11 ∧ (aBin prog .add 9 v9 v10 fun v12 =>
retL h.length K [] [v12] h11)))))) := top_eq pok32 ct32 (by kernel_rfl)
theorem g32 (hJ : Closed prog main J) {a0 : Value} (hs : heapOk h → W prog J 11 h.length 32 (codeOf f32) (RG.mk (regs [a0]) []) h (RetQ prog [.tmp 2] h.length K)) : Good prog J 32 [a0] h K :=
 good_of_W hJ mixed at32 body32 (by kernel_rfl) (Nat.le_of_ble_eq_true rfl) hs
theorem at36 : prog.funcs[36]? = some f36 := by kernel_rfl
theorem body36 : f36.body = some (codeOf f36) := by kernel_rfl
def pl36 : Plans := []
def ct36 : Cuts := .bin (.go) (.bin (.go) (.bin (.go) (.bin (.bin (.go) (.un (.un (.bin (.go) (.bin (.un (.bin (.go) (.cut (.go)))) (.go)))))) (.go))))
theorem pok36 : plansOk prog pl36 (codeOf f36) = true := by kernel_rfl
theorem e36 {a0 a1 : Value} : W prog J 35 h.length 36 (codeOf f36) (RG.mk (regs [a0,a1]) []) h (RetQ prog [.tmp 4] h.length K) =
(Sem J 35 h.length 36 (subC yp1 (codeOf f36)) (RG.p (RG.p (RG.p (RG.p (RG.mk (regs [a0,a1]) []) 4 (Value.slice none 0 0)) 5 (Value.slice none 0 0)) 6 (vint 0)) 7 (vint 0)) h (contX pl36 prog J 35 h.length 36 ct36 yp1 (codeOf f36) [] (RetQ prog [.tmp 4] h.length K))) := top_eq pok36 ct36 (by kernel_rfl)
theorem g36 (hJ : Closed prog main J) {a0 a1 : Value} (hs : heapOk h → W prog J 35 h.length 36 (codeOf f36) (RG.mk (regs [a0,a1]) []) h (RetQ prog [.tmp 4] h.length K)) : Good prog J 36 [a0,a1] h K :=
 good_of_W hJ mixed at36 body36 (by kernel_rfl) (Nat.le_of_ble_eq_true rfl) hs
theorem s36_1 {f : RG} {nx0 : RG → List AObj → Prop} : W prog J 35 n0 36 (subC yp6 (codeOf f36)) f h (thenK nx0 (contX pl36 prog J 35 n0 36 ct36 yp1 (codeOf f36) [] (RetQ prog [.tmp 4] n0 K))) =
(aLenStr (f.r 0) fun v1 =>
aBin prog .leq 3 (f.r 7) v1 fun v2 =>
cnd v2
(aLenStr (f.r 0) fun v3 =>
aBin prog .eql 3 (f.r 7) v3 fun v4 =>
cnd v4
(Hold (W prog J 35 n0 36 (subC yp10 (codeOf f36)) (RG.p (RG.p (RG.p (RG.p (RG.p (RG.p (RG.p (RG.p (RG.p (RG.p (RG.p (RG.p (RG.p (RG.p (RG.p (RG.p f 8 (f.r 7)) 9 (f.r 0)) 10 v1) 11 v2) 14 (f.r 7)) 15 (f.r 0)) 16 v3) 17 v4) 18 v4) 18 (Value.bool true)) 19 undef) 20 undef) 21 undef) 22 undef) 23 undef) 24 (Value.bool true)) h (contX pl36 prog J 35 n0 36 ct36 yp10 (codeOf f36) [nx0] (RetQ prog [.tmp 4] n0 K))))
(aIdxStr (f.r 0) (f.r 7) fun v5 =>
aBin prog .eql 5 v5 (f.r 1) fun v6 =>
Hold (W prog J 35 n0 36 (subC yp10 (codeOf f36)) (RG.p (RG.p (RG.p (RG.p (RG.p (RG.p (RG.p (RG.p (RG.p (RG.p (RG.p (RG.p (RG.p (RG.p (RG.p (RG.p f 8 (f.r 7)) 9 (f.r 0)) 10 v1) 11 v2) 14 (f.r 7)) 15 (f.r 0)) 16 v3) 17 v4) 18 v4) 18 (Value.bool false)) 19 (f.r 0)) 20 (f.r 7)) 21 v5) 22 (f.r 1)) 23 v6) 24 v6) h (contX pl36 prog J 35 n0 36 ct36 yp10 (codeOf f36) [nx0] (RetQ prog [.tmp 4] n0 K)))))
(retL n0 K f.ds [(f.r 5)] h)) := sub_eq pok36 ct36 (by kernel_rfl)
theorem l36_1 (hJ : Closed prog main J) {S : Type} (μ : S → Nat) (I : S → RG → List AObj → Prop) (hI : ∀ s f h,I s f h → heapOk h → n0 ≤ h.length → W prog J 35 n0 36 (subC yp6 (codeOf f36)) f h (thenK (Nx n0 μ I s) (contX pl36 prog J 35 n0 36 ct36 yp1 (codeOf f36) [] (RetQ prog [.tmp 4] n0 K))))
 {s : S} {f : RG} (hi : Gets n0 I s f h) : Sem J 35 n0 36 (subC yp1 (codeOf f36)) f h (contX pl36 prog J 35 n0 36 ct36 yp1 (codeOf f36) [] (RetQ prog [.tmp 4] n0 K)) :=
 loop_rule hJ mixed (b := subC yp6 (codeOf f36)) (by kernel_rfl) μ I hI hi
theorem s36_2 {f : RG} {nx0 : RG → List AObj → Prop} : W prog J 35 n0 36 (subC yp10 (codeOf f36)) f h (contX pl36 prog J 35 n0 36 ct36 yp10 (codeOf f36) [nx0] (RetQ prog [.tmp 4] n0 K)) =
(cnd (f.r 24)
(aSlStr (f.r 0) (some (f.r 6)) (some (f.r 7)) fun v1 =>
(((1 * 1 : Nat) ≤ 16777216 ∧ (1 : Nat) ≤ 16777216 ∧ List.length [(Value.string { data := #[] })] = 1) ∧ aFill (zrep [(Value.string { data := #[] })] 1) [(0,1,v1)] fun c2 =>
aNewS 1 c2 h fun v3 h4 =>
((List.length [(Value.string { data := #[] })] = 1 ∧ 0 < (1 : Nat) ∧ 0 < (16 : Nat) ∧ (16 : Nat) ≤ 1024) ∧ aApp 1 (f.r 5) v3 h4 fun v5 h6 =>
aBin prog .add 3 (f.r 7) (vint 1) fun v7 =>
aBin prog .add 3 (f.r 7) (vint 1) fun v8 =>
nx0 (RG.p (RG.p (RG.p (RG.p (RG.p (RG.p (RG.p (RG.p (RG.p (RG.p (RG.p (RG.p (RG.p (RG.p f 25 (f.r 5)) 26 (f.r 0)) 27 (f.r 6)) 28 (f.r 7)) 29 v1) 30 v3) 31 v5) 5 v5) 32 (f.r 7)) 33 v7) 6 v7) 12 (f.r 7)) 13 v8) 7 v8) h6)))
(aBin prog .add 3 (f.r 7) (vint 1) fun v9 =>
nx0 (RG.p (RG.p (RG.p f 12 (f.r 7)) 13 v9) 7 v9) h)) := sub_eq pok36 ct36 (by kernel_rfl)
theorem at64 : prog.funcs[64]? = some f64 := by kernel_rfl
theorem body64 : f64.body = some (codeOf f64) := by kernel_rfl
def pl64 : Plans := []
def ct64 : Cuts := .bin (.go) (.bin (.go) (.bin (.bin (.go) (.cut (.go))) (.cut (.bin (.bin (.go) (.cut (.go))) (.bin (.go) (.bin (.bin (.go) (.un (.un (.bin (.go) (.bin (.un (.bin (.bin (.go) (.cut (.go))) (.go))) (.go)))))) (.go)))))))
theorem pok64 : plansOk prog pl64 (codeOf f64) = true := by kernel_rfl
theorem e64 {a0 : Value} : W prog J 66 h.length 64 (codeOf f64) (RG.mk (regs [a0]) []) h (RetQ prog [.tmp 2,.tmp 3] h.length K) =
(aLenStr a0 fun v1 =>
aBin prog .gtr 3 v1 (vint 0) fun v2 =>
cnd v2
(aIdxStr a0 (vint 0) fun v3 =>
aBin prog .eql 5 v3 (Value.int .u8 45) fun v4 =>
Hold (W prog J 66 h.length 64 (subC [1,1,0,1] (codeOf f64)) (RG.p (RG.p (RG.p (RG.p (RG.p (RG.p (RG.p (RG.p (RG.p (RG.p (RG.p (RG.p (RG.mk (regs [a0]) []) 2 (vint 0)) 3 (Value.bool false)) 4 (vint 1)) 7 a0) 8 v1) 9 v2) 10 v2) 10 (Value.bool true)) 11 a0) 12 v3) 13 v4) 14 v4) h (contX pl64 prog J 66 h.length 64 ct64 [1,1,0,1] (codeOf f64) [] (RetQ prog [.tmp 2,.tmp 3] h.length K))))
(Hold (W prog J 66 h.length 64 (subC [1,1,0,1] (codeOf f64)) (RG.p (RG.p (RG.p (RG.p (RG.p (RG.p (RG.p (RG.p (RG.p (RG.p (RG.p (RG.p (RG.mk (regs [a0]) []) 2 (vint 0)) 3 (Value.bool false)) 4 (vint 1)) 7 a0) 8 v1) 9 v2) 10 v2) 10 (Value.bool false)) 11 undef) 12 undef) 13 undef) 14 (Value.bool false)) h (contX pl64 prog J 66 h.length 64 ct64 [1,1,0,1] (codeOf f64) [] (RetQ prog [.tmp 2,.tmp 3] h.length K))))) := top_eq pok64 ct64 (by kernel_rfl)
theorem g64 (hJ : Closed prog main J) {a0 : Value} (hs : heapOk h → W prog J 66 h.length 64 (codeOf f64) (RG.mk (regs [a0]) []) h (RetQ prog [.tmp 2,.tmp 3] h.length K)) : Good prog J 64 [a0] h K :=
 good_of_W hJ mixed at64 body64 (by kernel_rfl) (Nat.le_of_ble_eq_true rfl) hs
theorem s64_1 {f : RG} : W prog J 66 n0 64 (subC [1,1,0,1] (codeOf f64)) f h (contX pl64 prog J 66 n0 64 ct64 [1,1,0,1] (codeOf f64) [] (RetQ prog [.tmp 2,.tmp 3] n0 K)) =
(cnd (f.r 14)
(aSlStr (f.r 0) (some (vint 1)) none fun v1 =>
Hold (W prog J 66 n0 64 (subC [1,1,1] (codeOf f64)) (RG.p (RG.p (RG.p (RG.p f 4 (vint (-1))) 15 (f.r 0)) 16 v1) 0 v1) h (contX pl64 prog J 66 n0 64 ct64 [1,1,1] (codeOf f64) [] (RetQ prog [.tmp 2,.tmp 3] n0 K))))
(Hold (W prog J 66 n0 64 (subC [1,1,1] (codeOf f64)) f h (contX pl64 prog J 66 n0 64 ct64 [1,1,1] (codeOf f64) [] (RetQ prog [.tmp 2,.tmp 3] n0 K))))) := sub_eq pok64 ct64 (by kernel_rfl)
theorem s64_2 {f : RG} : W prog J 66 n0 64 (subC [1,1,1] (codeOf f64)) f h (contX pl64 prog J 66 n0 64 ct64 [1,1,1] (codeOf f64) [] (RetQ prog [.tmp 2,.tmp 3] n0 K)) =
(aLenStr (f.r 0) fun v1 =>
aBin prog .lss 3 v1 (vint 1) fun v2 =>
cnd v2
(Hold (W prog J 66 n0 64 (subC yp11 (codeOf f64)) (RG.p (RG.p (RG.p (RG.p (RG.p (RG.p (RG.p (RG.p (RG.p (RG.p (RG.p (RG.p (RG.p (RG.p (RG.p (RG.p (RG.p (RG.p (RG.p (RG.p (RG.p (RG.p (RG.p (RG.p f 17 (f.r 0)) 18 v1) 19 v2) 20 v2) 20 (Value.bool true)) 21 undef) 22 undef) 23 undef) 24 (Value.bool true)) 25 (Value.bool true)) 25 (Value.bool true)) 26 undef) 27 undef) 28 undef) 29 undef) 30 undef) 31 undef) 32 undef) 33 undef) 34 undef) 35 undef) 36 undef) 37 undef) 38 (Value.bool true)) h (contX pl64 prog J 66 n0 64 ct64 yp11 (codeOf f64) [] (RetQ prog [.tmp 2,.tmp 3] n0 K))))
(aLenStr (f.r 0) fun v3 =>
aBin prog .gtr 3 v3 (vint 3) fun v4 =>
cnd v4
(Hold (W prog J 66 n0 64 (subC yp11 (codeOf f64)) (RG.p (RG.p (RG.p (RG.p (RG.p (RG.p (RG.p (RG.p (RG.p (RG.p (RG.p (RG.p (RG.p (RG.p (RG.p (RG.p (RG.p (RG.p (RG.p (RG.p (RG.p (RG.p (RG.p (RG.p f 17 (f.r 0)) 18 v1) 19 v2) 20 v2) 20 (Value.bool false)) 21 (f.r 0)) 22 v3) 23 v4) 24 v4) 25 v4) 25 (Value.bool true)) 26 undef) 27 undef) 28 undef) 29 undef) 30 undef) 31 undef) 32 undef) 33 undef) 34 undef) 35 undef) 36 undef) 37 undef) 38 (Value.bool true)) h (contX pl64 prog J 66 n0 64 ct64 yp11 (codeOf f64) [] (RetQ prog [.tmp 2,.tmp 3] n0 K))))
(aIdxStr (f.r 0) (vint 0) fun v5 =>
aBin prog .eql 5 v5 (Value.int .u8 48) fun v6 =>
cnd v6
(aLenStr (f.r 0) fun v7 =>
aBin prog .gtr 3 v7 (vint 1) fun v8 =>
cnd v8
(Hold (W prog J 66 n0 64 (subC yp11 (codeOf f64)) (RG.p (RG.p (RG.p (RG.p (RG.p (RG.p (RG.p (RG.p (RG.p (RG.p (RG.p (RG.p (RG.p (RG.p (RG.p (RG.p (RG.p (RG.p (RG.p (RG.p (RG.p (RG.p (RG.p (RG.p (RG.p (RG.p f 17 (f.r 0)) 18 v1) 19 v2) 20 v2) 20 (Value.bool false)) 21 (f.r 0)) 22 v3) 23 v4) 24 v4) 25 v4) 25 (Value.bool false)) 26 (f.r 0)) 27 v5) 28 v6) 29 v6) 29 (Value.bool true)) 30 (f.r 0)) 31 v7) 32 v8) 33 v8) 33 (Value.bool true)) 34 undef) 35 undef) 36 (Value.bool true)) 37 (Value.bool true)) 38 (Value.bool true)) h (contX pl64 prog J 66 n0 64 ct64 yp11 (codeOf f64) [] (RetQ prog [.tmp 2,.tmp 3] n0 K))))
(aBin prog .lss 3 (f.r 4) (vint 0) fun v9 =>
Hold (W prog J 66 n0 64 (subC yp11 (codeOf f64)) (RG.p (RG.p (RG.p (RG.p (RG.p (RG.p (RG.p (RG.p (RG.p (RG.p (RG.p (RG.p (RG.p (RG.p (RG.p (RG.p (RG.p (RG.p (RG.p (RG.p (RG.p (RG.p (RG.p (RG.p (RG.p (RG.p f 17 (f.r 0)) 18 v1) 19 v2) 20 v2) 20 (Value.bool false)) 21 (f.r 0)) 22 v3) 23 v4) 24 v4) 25 v4) 25 (Value.bool false)) 26 (f.r 0)) 27 v5) 28 v6) 29 v6) 29 (Value.bool true)) 30 (f.r 0)) 31 v7) 32 v8) 33 v8) 33 (Value.bool false)) 34 (f.r 4)) 35 v9) 36 v9) 37 v9) 38 v9) h (contX pl64 prog J 66 n0 64 ct64 yp11 (codeOf f64) [] (RetQ prog [.tmp 2,.tmp 3] n0 K)))))
(Hold (W prog J 66 n0 64 (subC yp11 (codeOf f64)) (RG.p (RG.p (RG.p (RG.p (RG.p (RG.p (RG.p (RG.p (RG.p (RG.p (RG.p (RG.p (RG.p (RG.p (RG.p (RG.p (RG.p (RG.p (RG.p (RG.p (RG.p (RG.p (RG.p (RG.p (RG.p f 17 (f.r 0)) 18 v1) 19 v2) 20 v2) 20 (Value.bool false)) 21 (f.r 0)) 22 v3) 23 v4) 24 v4) 25 v4) 25 (Value.bool false)) 26 (f.r 0)) 27 v5) 28 v6) 29 v6) 29 (Value.bool false)) 30 undef) 31 undef) 32 undef) 33 undef) 34 undef) 35 undef) 36 undef) 37 (Value.bool false)) 38 (Value.bool false)) h (contX pl64 prog J 66 n0 64 ct64 yp11 (codeOf f64) [] (RetQ prog [.tmp 2,.tmp 3] n0 K))))))) := sub_eq pok64 ct64 (by kernel_rfl)
theorem s64_3 {f : RG} : W prog J 66 n0 64 (subC yp11 (codeOf f64)) f h (contX pl64 prog J 66 n0 64 ct64 yp11 (codeOf f64) [] (RetQ prog [.tmp 2,.tmp 3] n0 K)) =
(cnd (f.r 38)
(retL n0 K f.ds [(vint 0),(Value.bool false)] h)
(Sem J 66 n0 64 (subC yp5 (codeOf f64)) (RG.p (RG.p f 5 (vint 0)) 6 (vint 0)) h (contX pl64 prog J 66 n0 64 ct64 yp5 (codeOf f64) [] (RetQ prog [.tmp 2,.tmp 3] n0 K)))) := sub_eq pok64 ct64 (by kernel_rfl)
theorem s64_4 {f : RG} {nx0 : RG → List AObj → Prop} : W prog J 66 n0 64 (subC yp13 (codeOf f64)) f h (thenK nx0 (contX pl64 prog J 66 n0 64 ct64 yp5 (codeOf f64) [] (RetQ prog [.tmp 2,.tmp 3] n0 K))) =
(aLenStr (f.r 0) fun v1 =>
aBin prog .lss 3 (f.r 6) v1 fun v2 =>
cnd v2
(aIdxStr (f.r 0) (f.r 6) fun v3 =>
aBin prog .lss 5 v3 (Value.int .u8 48) fun v4 =>
cnd v4
(Hold (W prog J 66 n0 64 (subC yp31 (codeOf f64)) (RG.p (RG.p (RG.p (RG.p (RG.p (RG.p (RG.p (RG.p (RG.p (RG.p (RG.p (RG.p (RG.p (RG.p (RG.p f 39 (f.r 6)) 40 (f.r 0)) 41 v1) 42 v2) 45 (f.r 0)) 46 (f.r 6)) 47 v3) 48 v4) 49 v4) 49 (Value.bool true)) 50 undef) 51 undef) 52 undef) 53 undef) 54 (Value.bool true)) h (contX pl64 prog J 66 n0 64 ct64 yp31 (codeOf f64) [nx0] (RetQ prog [.tmp 2,.tmp 3] n0 K))))
(aIdxStr (f.r 0) (f.r 6) fun v5 =>
aBin prog .gtr 5 v5 (Value.int .u8 57) fun v6 =>
Hold (W prog J 66 n0 64 (subC yp31 (codeOf f64)) (RG.p (RG.p (RG.p (RG.p (RG.p (RG.p (RG.p (RG.p (RG.p (RG.p (RG.p (RG.p (RG.p (RG.p (RG.p f 39 (f.r 6)) 40 (f.r 0)) 41 v1) 42 v2) 45 (f.r 0)) 46 (f.r 6)) 47 v3) 48 v4) 49 v4) 49 (Value.bool false)) 50 (f.r 0)) 51 (f.r 6)) 52 v5) 53 v6) 54 v6) h (contX pl64 prog J 66 n0 64 ct64 yp31 (codeOf f64) [nx0] (RetQ prog [.tmp 2,.tmp 3] n0 K)))))
(aBin prog .mul 3 (f.r 4) (f.r 5) fun v7 =>
retL n0 K f.ds [v7,(Value.bool true)] h)) := sub_eq pok64 ct64 (by kernel_rfl)
theorem l64_4 (hJ : Closed prog main J) {S : Type} (μ : S → Nat) (I : S → RG → List AObj → Prop) (hI : ∀ s f h,I s f h → heapOk h → n0 ≤ h.length → W prog J 66 n0 64 (subC yp13 (codeOf f64)) f h (thenK (Nx n0 μ I s) (contX pl64 prog J 66 n0 64 ct64 yp5 (codeOf f64) [] (RetQ prog [.tmp 2,.tmp 3] n0 K))))
 {s : S} {f : RG} (hi : Gets n0 I s f h) : Sem J 66 n0 64 (subC yp5 (codeOf f64)) f h (contX pl64 prog J 66 n0 64 ct64 yp5 (codeOf f64) [] (RetQ prog [.tmp 2,.tmp 3] n0 K)) :=
 loop_rule hJ mixed (b := subC yp13 (codeOf f64)) (by kernel_rfl) μ I hI hi
theorem s64_5 {f : RG} {nx0 : RG → List AObj → Prop} : W prog J 66 n0 64 (subC yp31 (codeOf f64)) f h (contX pl64 prog J 66 n0 64 ct64 yp31 (codeOf f64) [nx0] (RetQ prog [.tmp 2,.tmp 3] n0 K)) =
(cnd (f.r 54)
(retL n0 K f.ds [(vint 0),(Value.bool false)] h)
(aBin prog .mul 3 (vint 10) (f.r 5) fun v1 =>
aIdxStr (f.r 0) (f.r 6) fun v2 =>
aBin prog .sub 5 v2 (Value.int .u8 48) fun v3 =>
aConvI .i64 v3 fun v4 =>
aBin prog .add 3 v1 v4 fun v5 =>
aBin prog .add 3 (f.r 6) (vint 1) fun v6 =>
nx0 (RG.p (RG.p (RG.p (RG.p (RG.p (RG.p (RG.p (RG.p (RG.p (RG.p (RG.p (RG.p f 55 (f.r 5)) 56 v1) 57 (f.r 0)) 58 (f.r 6)) 59 v2) 60 v3) 61 v4) 62 v5) 5 v5) 43 (f.r 6)) 44 v6) 6 v6) h)) := sub_eq pok64 ct64 (by kernel_rfl)
theorem at65 : prog.funcs[65]? = some f65 := by kernel_rfl
theorem body65 : f65.body = some (codeOf f65) := by kernel_rfl
def pl65 : Plans := []
def ct65 : Cuts := .bin (.go) (.bin (.bin (.go) (.cut (.go))) (.go))
theorem pok65 : plansOk prog pl65 (codeOf f65) = true := by kernel_rfl
theorem e65 {a0 a1 : Value} : W prog J 26 h.length 65 (codeOf f65) (RG.mk (regs [a0,a1]) []) h (RetQ prog [.tmp 4,.tmp 5] h.length K) =
(aLenStr a0 fun v1 =>
aLenStr a1 fun v2 =>
aBin prog .lss 3 v1 v2 fun v3 =>
cnd v3
(Hold (W prog J 26 h.length 65 (subC [1,0,1] (codeOf f65)) (RG.p (RG.p (RG.p (RG.p (RG.p (RG.p (RG.p (RG.p (RG.p (RG.p (RG.p (RG.p (RG.p (RG.p (RG.p (RG.p (RG.mk (regs [a0,a1]) []) 4 (vint 0)) 5 (Value.bool false)) 6 a0) 7 v1) 8 a1) 9 v2) 10 v3) 11 v3) 11 (Value.bool true)) 12 undef) 13 undef) 14 undef) 15 undef) 16 undef) 17 undef) 18 (Value.bool true)) h (contX pl65 prog J 26 h.length 65 ct65 [1,0,1] (codeOf f65) [] (RetQ prog [.tmp 4,.tmp 5] h.length K))))
(aLenStr a1 fun v4 =>
aSlStr a0 none (some v4) fun v5 =>
aBin prog .neq 9 v5 a1 fun v6 =>
Hold (W prog J 26 h.length 65 (subC [1,0,1] (codeOf f65)) (RG.p (RG.p (RG.p (RG.p (RG.p (RG.p (RG.p (RG.p (RG.p (RG.p (RG.p (RG.p (RG.p (RG.p (RG.p (RG.p (RG.mk (regs [a0,a1]) []) 4 (vint 0)) 5 (Value.bool false)) 6 a0) 7 v1) 8 a1) 9 v2) 10 v3) 11 v3) 11 (Value.bool false)) 12 a0) 13 a1) 14 v4) 15 v5) 16 a1) 17 v6) 18 v6) h (contX pl65 prog J 26 h.length 65 ct65 [1,0,1] (codeOf f65) [] (RetQ prog [.tmp 4,.tmp 5] h.length K))))) := top_eq pok65 ct65 (by kernel_rfl)
theorem g65 (hJ : Closed prog main J) {a0 a1 : Value} (hs : heapOk h → W prog J 26 h.length 65 (codeOf f65) (RG.mk (regs [a0,a1]) []) h (RetQ prog [.tmp 4,.tmp 5] h.length K)) : Good prog J 65 [a0,a1] h K :=
 good_of_W hJ mixed at65 body65 (by kernel_rfl) (Nat.le_of_ble_eq_true rfl) hs
theorem s65_1 {f : RG} : W prog J 26 n0 65 (subC [1,0,1] (codeOf f65)) f h (contX pl65 prog J 26 n0 65 ct65 [1,0,1] (codeOf f65) [] (RetQ prog [.tmp 4,.tmp 5] n0 K)) =
(cnd (f.r 18)
(retL n0 K f.ds [(vint 0),(Value.bool false)] h)
(aLenStr (f.r 1) fun v1 =>
aSlStr (f.r 0) (some v1) none fun v2 =>
Good prog J 64 [v2] h fun v3 h4 =>
aExt v3 0 fun v5 =>
aExt v3 1 fun v6 =>
retL n0 K f.ds [v5,v6] h4)) := sub_eq pok65 ct65 (by kernel_rfl)
theorem at37 : prog.funcs[37]? = some f37 := by kernel_rfl
theorem body37 : f37.body = some (codeOf f37) := by kernel_rfl
def pl37 : Plans := []
def ct37 : Cuts := .bin (.go) (.bin (.bin (.go) (.cut (.go))) (.bin (.go) (.bin (.bin (.go) (.un (.un (.bin (.go) (.bin (.un (.bin (.go) (.cut (.go)))) (.go)))))) (.go))))
theorem pok37 : plansOk prog pl37 (codeOf f37) = true := by kernel_rfl
theorem e37 {a0 a1 : Value} : W prog J 70 h.length 37 (codeOf f37) (RG.mk (regs [a0,a1]) []) h (RetQ prog [.cell 4 23,.tmp 5] h.length K) =
(aAlloc [(vint 0),(vint 0)] h fun v1 h2 =>
aLenStr a0 fun v3 =>
aLenStr a1 fun v4 =>
aBin prog .lss 3 v3 v4 fun v5 =>
cnd v5
(Hold (W prog J 70 h.length 37 (subC [1,0,1] (codeOf f37)) (RG.p (RG.p (RG.p (RG.p (RG.p (RG.p (RG.p (RG.p (RG.p (RG.p (RG.p (RG.p (RG.p (RG.p (RG.p (RG.p (RG.mk (regs [a0,a1]) []) 4 v1) 5 (Value.bool false)) 11 a0) 12 v3) 13 a1) 14 v4) 15 v5) 16 v5) 16 (Value.bool true)) 17 undef) 18 undef) 19 undef) 20 undef) 21 undef) 22 undef) 23 (Value.bool true)) h2 (contX pl37 prog J 70 h.length 37 ct37 [1,0,1] (codeOf f37) [] (RetQ prog [.cell 4 23,.tmp 5] h.length K))))
(aLenStr a1 fun v6 =>
aSlStr a0 none (some v6) fun v7 =>
aBin prog .neq 9 v7 a1 fun v8 =>
Hold (W prog J 70 h.length 37 (subC [1,0,1] (codeOf f37)) (RG.p (RG.p (RG.p (RG.p (RG.p (RG.p (RG.p (RG.p (RG.p (RG.p (RG.p (RG.p (RG.p (RG.p (RG.p (RG.p (RG.mk (regs [a0,a1]) []) 4 v1) 5 (Value.bool false)) 11 a0) 12 v3) 13 a1) 14 v4) 15 v5) 16 v5) 16 (Value.bool false)) 17 a0) 18 a1) 19 v6) 20 v7) 21 a1) 22 v8) 23 v8) h2 (contX pl37 prog J 70 h.length 37 ct37 [1,0,1] (codeOf f37) [] (RetQ prog [.cell 4 23,.tmp 5] h.length K))))) := top_eq pok37 ct37 (by kernel_rfl)
theorem g37 (hJ : Closed prog main J) {a0 a1 : Value} (hs : heapOk h → W prog J 70 h.length 37 (codeOf f37) (RG.mk (regs [a0,a1]) []) h (RetQ prog [.cell 4 23,.tmp 5] h.length K)) : Good prog J 37 [a0,a1] h K :=
 good_of_W hJ mixed at37 body37 (by kernel_rfl) (Nat.le_of_ble_eq_true rfl) hs
theorem s37_1 {f : RG} : W prog J 70 n0 37 (subC [1,0,1] (codeOf f37)) f h (contX pl37 prog J 70 n0 37 ct37 [1,0,1] (codeOf f37) [] (RetQ prog [.cell 4 23,.tmp 5] n0 K)) =
(cnd (f.r 23)
(aFill [(vint 0),(vint 0)] [] fun c1 =>
aStore 2 (f.r 4) (Value.agg ⟨c1⟩) h fun h2 =>
RetQ prog [.cell 4 23,.tmp 5] n0 K .ret (RG.p (RG.p f 24 (Value.agg ⟨c1⟩)) 5 (Value.bool false)) h2)
(aLenStr (f.r 1) fun v3 =>
aSlStr (f.r 0) (some v3) none fun v4 =>
Sem J 70 n0 37 (subC yp1 (codeOf f37)) (RG.p (RG.p (RG.p (RG.p (RG.p (RG.p f 25 (f.r 0)) 26 (f.r 1)) 27 v3) 28 v4) 0 v4) 6 (vint 0)) h (contX pl37 prog J 70 n0 37 ct37 yp1 (codeOf f37) [] (RetQ prog [.cell 4 23,.tmp 5] n0 K)))) := sub_eq pok37 ct37 (by kernel_rfl)
theorem s37_2 {f : RG} {nx0 : RG → List AObj → Prop} : W prog J 70 n0 37 (subC yp6 (codeOf f37)) f h (thenK nx0 (contX pl37 prog J 70 n0 37 ct37 yp1 (codeOf f37) [] (RetQ prog [.cell 4 23,.tmp 5] n0 K))) =
(aBin prog .add 3 (f.r 6) (vint 1) fun v1 =>
aLenStr (f.r 0) fun v2 =>
aBin prog .lss 3 v1 v2 fun v3 =>
cnd v3
(aIdxStr (f.r 0) (f.r 6) fun v4 =>
aBin prog .eql 5 v4 (Value.int .u8 46) fun v5 =>
cnd v5
(aBin prog .add 3 (f.r 6) (vint 1) fun v6 =>
aIdxStr (f.r 0) v6 fun v7 =>
aBin prog .eql 5 v7 (Value.int .u8 46) fun v8 =>
Hold (W prog J 70 n0 37 (subC yp10 (codeOf f37)) (RG.p (RG.p (RG.p (RG.p (RG.p (RG.p (RG.p (RG.p (RG.p (RG.p (RG.p (RG.p (RG.p (RG.p (RG.p (RG.p (RG.p f 29 (f.r 6)) 30 v1) 31 (f.r 0)) 32 v2) 33 v3) 36 (f.r 0)) 37 (f.r 6)) 38 v4) 39 v5) 40 v5) 40 (Value.bool true)) 41 (f.r 0)) 42 (f.r 6)) 43 v6) 44 v7) 45 v8) 46 v8) h (contX pl37 prog J 70 n0 37 ct37 yp10 (codeOf f37) [nx0] (RetQ prog [.cell 4 23,.tmp 5] n0 K))))
(Hold (W prog J 70 n0 37 (subC yp10 (codeOf f37)) (RG.p (RG.p (RG.p (RG.p (RG.p (RG.p (RG.p (RG.p (RG.p (RG.p (RG.p (RG.p (RG.p (RG.p (RG.p (RG.p (RG.p f 29 (f.r 6)) 30 v1) 31 (f.r 0)) 32 v2) 33 v3) 36 (f.r 0)) 37 (f.r 6)) 38 v4) 39 v5) 40 v5) 40 (Value.bool false)) 41 undef) 42 undef) 43 undef) 44 undef) 45 undef) 46 (Value.bool false)) h (contX pl37 prog J 70 n0 37 ct37 yp10 (codeOf f37) [nx0] (RetQ prog [.cell 4 23,.tmp 5] n0 K)))))
(aFill [(vint 0),(vint 0)] [] fun c9 =>
aStore 2 (f.r 4) (Value.agg ⟨c9⟩) h fun h10 =>
RetQ prog [.cell 4 23,.tmp 5] n0 K .ret (RG.p (RG.p (RG.p (RG.p (RG.p (RG.p (RG.p f 29 (f.r 6)) 30 v1) 31 (f.r 0)) 32 v2) 33 v3) 69 (Value.agg ⟨c9⟩)) 5 (Value.bool false)) h10)) := sub_eq pok37 ct37 (by kernel_rfl)
theorem l37_2 (hJ : Closed prog main J) {S : Type} (μ : S → Nat) (I : S → RG → List AObj → Prop) (hI : ∀ s f h,I s f h → heapOk h → n0 ≤ h.length → W prog J 70 n0 37 (subC yp6 (codeOf f37)) f h (thenK (Nx n0 μ I s) (contX pl37 prog J 70 n0 37 ct37 yp1 (codeOf f37) [] (RetQ prog [.cell 4 23,.tmp 5] n0 K))))
 {s : S} {f : RG} (hi : Gets n0 I s f h) : Sem J 70 n0 37 (subC yp1 (codeOf f37)) f h (contX pl37 prog J 70 n0 37 ct37 yp1 (codeOf f37) [] (RetQ prog [.cell 4 23,.tmp 5] n0 K)) :=
 loop_rule hJ mixed (b := subC yp6 (codeOf f37)) (by kernel_rfl) μ I hI hi
theorem s37_3 {f : RG} {nx0 : RG → List AObj → Prop} : W prog J 70 n0 37 (subC yp10 (codeOf f37)) f h (contX pl37 prog J 70 n0 37 ct37 yp10 (codeOf f37) [nx0] (RetQ prog [.cell 4 23,.tmp 5] n0 K)) =
(cnd (f.r 46)
(aSlStr (f.r 0) none (some (f.r 6)) fun v1 =>
Good prog J 64 [v1] h fun v2 h3 =>
aExt v2 0 fun v4 =>
aExt v2 1 fun v5 =>
aBin prog .add 3 (f.r 6) (vint 2) fun v6 =>
aSlStr (f.r 0) (some v6) none fun v7 =>
Good prog J 64 [v7] h3 fun v8 h9 =>
aExt v8 0 fun v10 =>
aExt v8 1 fun v11 =>
aFill [(vint 0),(vint 0)] [(0,1,v4),(1,1,v10)] fun c12 =>
cnd v5
(aStore 2 (f.r 4) (Value.agg ⟨c12⟩) h9 fun h13 =>
RetQ prog [.cell 4 23,.tmp 5] n0 K .ret (RG.p (RG.p (RG.p (RG.p (RG.p (RG.p (RG.p (RG.p (RG.p (RG.p (RG.p (RG.p (RG.p (RG.p (RG.p (RG.p (RG.p (RG.p (RG.p (RG.p (RG.p (RG.p (RG.p (RG.p (RG.p (RG.p (RG.p (RG.p f 48 (f.r 0)) 49 (f.r 6)) 50 v1) 51 v2) 47 v2) 52 v4) 53 v5) 7 v4) 8 v5) 55 (f.r 0)) 56 (f.r 6)) 57 v6) 58 v7) 59 v8) 54 v8) 60 v10) 61 v11) 9 v10) 10 v11) 62 v4) 63 v10) 64 (Value.agg ⟨c12⟩)) 65 v5) 66 v5) 66 (Value.bool true)) 67 v11) 68 v11) 5 v11) h13)
(aStore 2 (f.r 4) (Value.agg ⟨c12⟩) h9 fun h14 =>
RetQ prog [.cell 4 23,.tmp 5] n0 K .ret (RG.p (RG.p (RG.p (RG.p (RG.p (RG.p (RG.p (RG.p (RG.p (RG.p (RG.p (RG.p (RG.p (RG.p (RG.p (RG.p (RG.p (RG.p (RG.p (RG.p (RG.p (RG.p (RG.p (RG.p (RG.p (RG.p (RG.p (RG.p f 48 (f.r 0)) 49 (f.r 6)) 50 v1) 51 v2) 47 v2) 52 v4) 53 v5) 7 v4) 8 v5) 55 (f.r 0)) 56 (f.r 6)) 57 v6) 58 v7) 59 v8) 54 v8) 60 v10) 61 v11) 9 v10) 10 v11) 62 v4) 63 v10) 64 (Value.agg ⟨c12⟩)) 65 v5) 66 v5) 66 (Value.bool false)) 67 undef) 68 (Value.bool false)) 5 (Value.bool false)) h14))
(aBin prog .add 3 (f.r 6) (vint 1) fun v15 =>
nx0 (RG.p (RG.p (RG.p f 34 (f.r 6)) 35 v15) 6 v15) h)) := sub_eq pok37 ct37 (by kernel_rfl)
end
end Go.Proofs.YtlladcglhjlbpaaGreatDoor
namespace Go.Proofs.YtlladcglhjlbpaaGreatDoor
open Go.Conc Go.Proofs.Tryz
set_option maxRecDepth 100000
section
variable {main : Bool} {J : JT} {H : List AObj} {K : Value → List AObj → Prop} {KV : Value → Prop} {F : RG} {n0 : Nat}
theorem nmb_1 (hJ : Closed prog main J) {d : List UInt8} {mb : Bool} (ds : F.ds = []) (r0 : F.r 0 = strV d) (r4 : F.r 4 = vint (if mb then -1 else 1)) {pre : Bool} (r38 : F.r 38 = .bool (!pre)) (hpre : pre = true → d.length ≤ 3)
  (k1 : (pre && d.all isDig) = true → K (.tuple ⟨[vint (if mb then -valB d else valB d),.bool true]⟩) H) (k2 : (pre && d.all isDig) = false → K (.tuple ⟨[vint 0,.bool false]⟩) H) :
  W prog J 66 n0 64 (subC yp11 (codeOf f64)) F H (contX pl64 prog J 66 n0 64 ct64 yp11 (codeOf f64) [] (RetQ prog [.tmp 2,.tmp 3] n0 K)) := by
 rw [s64_3]
 simp only [ds,r0,r4,r38]
 cases pre with
 | false => exact cnd_true.2 (retL_same (by simp [unk]) (k2 rfl))
 | true =>
  have hd3 := hpre rfl
  simp only [Bool.true_and] at k1 k2
  refine cnd_false.2 ?_
  refine l64_4 hJ (S := Nat) (fun i => d.length + 1 - i) (fun i F H' => H' = H ∧ i ≤ d.length ∧ F.ds = [] ∧ F.r 0 = strV d ∧ F.r 4 = vint (if mb then -1 else 1) ∧ F.r 6 = vint (i : Nat) ∧ F.r 5 = vint (valB (d.take i)) ∧ (d.take i).all isDig = true) ?_ (s := 0) (.inl ⟨rfl,Nat.zero_le _,ds,r0,r4,rfl,rfl,rfl⟩)
  rintro i F H' ⟨rfl,hi,ds,r0,r4,r6,r5,hall⟩ ok' hn'
  rw [s64_4]
  simp only [ds,r0,r4,r5,r6]
  have hbd := valB_small hall (by simp; omega)
  refine lenStr (lssI (cndI (fun hlt => ?_) fun hge => ?_))
  ·have hil : i < d.length := by omega
   have hx : d[i]? = some d[i] := List.getElem?_eq_getElem hil
   generalize d[i] = x at hx
   have hxl := x.toNat_lt
   have htk := take_snoc hx
   have bad : isDig x = false → d.all isDig = false := fun h => by
    cases ha : d.all isDig with
    | false => rfl
    | true =>
     rw [List.all_eq_true] at ha
     rw [ha x (List.mem_of_getElem? hx)] at h
     cases h
   have out : ∀ {F : RG} {b2 : Bool},F.ds = [] → F.r 54 = .bool b2 → F.r 5 = vint (valB (d.take i)) → F.r 0 = strV d → F.r 6 = vint (i : Nat) → F.r 4 = vint (if mb then -1 else 1) → isDig x = !b2 → _ := fun {F b2} ds r54 r5 r0 r6 r4 hdig => show W prog J 66 n0 64 (subC yp31 (codeOf f64)) F H' (contX pl64 prog J 66 n0 64 ct64 yp31 (codeOf f64) [Nx n0 (fun i => d.length + 1 - i) (fun i F H2 => H2 = H' ∧ i ≤ d.length ∧ F.ds = [] ∧ F.r 0 = strV d ∧ F.r 4 = vint (if mb then -1 else 1) ∧ F.r 6 = vint (i : Nat) ∧ F.r 5 = vint (valB (d.take i)) ∧ (d.take i).all isDig = true) i] (RetQ prog [.tmp 2,.tmp 3] n0 K)) by
    rw [s64_5]
    simp only [ds,r54,r5,r0,r6]
    cases b2 with
    | true => exact cnd_true.2 (retL_same (by simp [unk]) (k2 (bad hdig)))
    | false =>
     have hdig : isDig x = true := hdig
     rw [isDig_iff] at hdig
     refine cnd_false.2 (mulI ⟨by omega,by omega⟩ (idS hx (subU ⟨by omega,by omega⟩ (cvI64 ⟨by omega,by omega⟩ (addI ⟨by omega,by omega⟩ (addI ⟨by omega,by omega⟩ ⟨i + 1,by dsimp only; omega,.inl ⟨rfl,by omega,ds,r0,r4,rfl,?_,?_⟩⟩))))))
     ·show vint _ = vint _
      rw [htk,valB_snoc,Int.mul_comm 10]
     ·rw [htk,List.all_append,hall]
      simp [isDig_iff,hdig]
   refine idS hx (lssK (cndI (fun hlo => hold.2 ?_) fun hlo => idS hx (gtrK (hold.2 ?_))))
   ·exact out ds rfl r5 r0 r6 r4 (by
     have : ¬ (48 ≤ x.toNat) := by omega
     simp [isDig,this])
   ·refine out ds rfl r5 r0 r6 r4 ?_
    have h48 : 48 ≤ x.toNat := by omega
    simp only [isDig,decide_eq_true h48,Bool.true_and]
    rw [← decide_not]
    congr 1
    exact propext ⟨fun h => by omega,fun h => by omega⟩
  ·have hid : i = d.length := by omega
   subst hid
   rw [List.take_length] at hall hbd
   simp only [List.take_length]
   have kk := k1 hall
   refine mulI (by cases mb <;> simp <;> omega) (retL_same (by simp [unk]) ?_)
   have e : (if mb then (-1 : Int) else 1) * valB d = if mb then -valB d else valB d := by cases mb <;> simp
   rw [e]
   exact kk
theorem good64 (hJ : Closed prog main J) {s : List UInt8} (hs : s.length ≤ 2000) (k1 : ∀ n,wholeB s = some n → K (.tuple ⟨[vint n,.bool true]⟩) H) (k2 : wholeB s = none → K (.tuple ⟨[vint 0,.bool false]⟩) H) : Good prog J 64 [strV s] H K := by
 refine g64 hJ fun ok => ?_
 rw [e64]
 have hdl := sign_len s
 unfold wholeB at k1 k2
 -- behind the sign
 have two : ∀ {F : RG} {d : List UInt8} {mb : Bool},signB s = (mb,d) → F.ds = [] → F.r 0 = strV d → F.r 4 = vint (if mb then -1 else 1) → _ := fun {F d mb} hsg ds r0 r4 => show W prog J 66 H.length 64 (subC [1,1,1] (codeOf f64)) F H (contX pl64 prog J 66 H.length 64 ct64 [1,1,1] (codeOf f64) [] (RetQ prog [.tmp 2,.tmp 3] H.length K)) by
  rw [s64_2]
  simp only [r0,r4]
  rw [hsg] at k1 k2 hdl
  simp only at k1 k2 hdl
  unfold digsOk at k1 k2
  have k1 : ∀ pre,pre = (decide (1 ≤ d.length) && decide (d.length ≤ 3) && !(d.head? == some 48 && (mb || decide (1 < d.length)))) → (pre && d.all isDig) = true → K (.tuple ⟨[vint (if mb then -valB d else valB d),.bool true]⟩) H := fun pre e h => k1 _ (by rw [← e,if_pos h])
  have k2 : ∀ pre,pre = (decide (1 ≤ d.length) && decide (d.length ≤ 3) && !(d.head? == some 48 && (mb || decide (1 < d.length)))) → (pre && d.all isDig) = false → K (.tuple ⟨[vint 0,.bool false]⟩) H := fun pre e h => k2 (by rw [← e,if_neg (by simp [h])])
  have go : ∀ {F : RG} (pre : Bool),F.ds = [] → F.r 0 = strV d → F.r 4 = vint (if mb then -1 else 1) → F.r 38 = .bool (!pre) → pre = (decide (1 ≤ d.length) && decide (d.length ≤ 3) && !(d.head? == some 48 && (mb || decide (1 < d.length)))) → _ := fun {F} pre ds r0 r4 r38 hp =>
   nmb_1 (n0 := H.length) (F := F) hJ ds r0 r4 r38 (fun h => by
    rw [h] at hp
    have := hp.symm
    simp only [Bool.and_eq_true,decide_eq_true_eq] at this
    omega) (k1 pre hp) (k2 pre hp)
  refine lenStr (lssI (cndI (fun h => hold.2 ?_) fun h1 => lenStr (gtrI (cndI (fun h => hold.2 ?_) fun h3 => ?_))))
  ·exact go false ds r0 r4 rfl (by rw [decide_eq_false (by omega : ¬ 1 ≤ d.length)]; rfl)
  ·exact go false ds r0 r4 rfl (by rw [decide_eq_false (by omega : ¬ d.length ≤ 3),Bool.and_false]; rfl)
  ·cases d with
   | nil => exact absurd (by simp) h1
   | cons x r =>
    have e1 : decide (1 ≤ (x :: r).length) = true := decide_eq_true (by simp)
    have e3 : decide ((x :: r).length ≤ 3) = true := decide_eq_true (by omega)
    rw [e1,e3] at go
    simp only [Bool.true_and,List.head?_cons] at go
    refine idS (j := 0) (b := x) rfl (eqU48 (cndI (fun hx => ?_) fun hx => hold.2 ?_))
    ·subst hx
     refine lenStr (gtrI (cndI (fun h => hold.2 ?_) fun h => lssI (hold.2 ?_)))
     ·exact go false ds r0 r4 rfl (by
       have : decide (1 < (48 :: r : List UInt8).length) = true := decide_eq_true (by omega)
       rw [this]
       simp)
     ·refine go (!mb) ds r0 r4 ?_ ?_
      ·cases mb <;> rfl
      ·have : decide (1 < (48 :: r : List UInt8).length) = false := decide_eq_false (by omega)
       rw [this]
       simp
    ·exact go true ds r0 r4 rfl (by
      have : (some x == some (48 : UInt8)) = false := by simpa using hx
      rw [this]
      rfl)
 -- the sign
 have one : ∀ {F : RG} {q : Bool},F.ds = [] → F.r 0 = strV s → F.r 4 = vint 1 → F.r 14 = .bool q → (q = true → s ≠ []) → signB s = (q,if q then s.drop 1 else s) → _ := fun {F q} ds r0 r4 r14 hq hsg => show W prog J 66 H.length 64 (subC [1,1,0,1] (codeOf f64)) F H (contX pl64 prog J 66 H.length 64 ct64 [1,1,0,1] (codeOf f64) [] (RetQ prog [.tmp 2,.tmp 3] H.length K)) by
  rw [s64_1]
  simp only [r0,r14]
  cases q with
  | true =>
   refine cnd_true.2 (slFr' (lo := 1) (List.length_pos_iff.2 (hq rfl)) (hold.2 ?_))
   exact two hsg ds rfl rfl
  | false => exact cnd_false.2 (hold.2 (two hsg ds r0 r4))
 refine lenStr (gtrI (cndI (fun h => ?_) fun h => hold.2 ?_))
 ·cases s with
  | nil => exact absurd h (by simp)
  | cons x r =>
   refine idS (j := 0) (b := x) rfl (eqU (b := 45) (hold.2 (one rfl rfl rfl rfl (fun _ => by simp) ?_)))
   by_cases hx : x = 45
   ·subst hx
    rfl
   ·rw [decide_eq_false hx]
    unfold signB
    split
    ·rename_i d e
     simp only [List.cons.injEq] at e
     exact absurd e.1 hx
    ·rfl
 ·cases s with
  | cons x r => exact absurd (by simp) h
  | nil => exact one rfl rfl rfl rfl (fun e => by cases e) rfl
theorem take_pre {p w : List UInt8} : w.take p.length = p ↔ p.isPrefixOf w = true := by
 rw [List.isPrefixOf_iff_prefix,List.prefix_iff_eq_take]
 exact ⟨fun h => h.symm,fun h => h.symm⟩
theorem good65 (hJ : Closed prog main J) {w p : List UInt8} (hw : w.length ≤ 2000) (k1 : ∀ n,(afterB p w).bind wholeB = some n → K (.tuple ⟨[vint n,.bool true]⟩) H) (k2 : (afterB p w).bind wholeB = none → K (.tuple ⟨[vint 0,.bool false]⟩) H) : Good prog J 65 [strV w,strV p] H K := by
 refine g65 hJ fun ok => ?_
 rw [e65]
 have go : ∀ {F : RG} {q : Bool},F.ds = [] → F.r 0 = strV w → F.r 1 = strV p → F.r 18 = .bool q → p.isPrefixOf w = !q → _ := fun {F q} ds r0 r1 r18 hq => show W prog J 26 H.length 65 (subC [1,0,1] (codeOf f65)) F H (contX pl65 prog J 26 H.length 65 ct65 [1,0,1] (codeOf f65) [] (RetQ prog [.tmp 4,.tmp 5] H.length K)) by
  rw [s65_1]
  simp only [ds,r0,r1,r18]
  cases q with
  | true =>
   refine cnd_true.2 (retL_same (by simp [unk]) (k2 ?_))
   rw [after_false hq]
   rfl
  | false =>
   have ha := after_true (w := w) hq
   rw [ha] at k1 k2
   have hpl := List.IsPrefix.length_le (List.isPrefixOf_iff_prefix.1 hq)
   exact cnd_false.2 (lenStr (slFr' hpl (good64 hJ (by simp; omega) (fun n hn => ext0 (ext1 (retL_same (by simp [unk]) (k1 n hn)))) fun hn => ext0 (ext1 (retL_same (by simp [unk]) (k2 hn))))))
 refine lenStr (lenStr (lssI (cndI (fun h => hold.2 ?_) fun h => lenStr (slTo' (by omega) (neS (hold.2 ?_))))))
 ·refine go rfl rfl rfl rfl ?_
  cases hp : p.isPrefixOf w with
  | false => rfl
  | true => exact absurd (List.IsPrefix.length_le (List.isPrefixOf_iff_prefix.1 hp)) (by omega)
 ·refine go rfl rfl rfl rfl ?_
  rw [← decide_not]
  simp only [Decidable.not_not]
  rw [Bool.eq_iff_iff,decide_eq_true_iff]
  exact take_pre.symm
theorem cut2_step {s : List UInt8} {i : Nat} {x : UInt8} (hx : s[i]? = some x) : cut2 (s.drop i) = if x = 46 ∧ s[i + 1]? = some 46 then some ([],s.drop (i + 2)) else (cut2 (s.drop (i + 1))).map fun y => (x :: y.1,y.2) := by
 obtain ⟨hi,rfl⟩ := List.getElem?_eq_some_iff.1 hx
 rw [List.drop_eq_getElem_cons hi]
 show (if s[i] = 46 ∧ (s.drop (i + 1)).head? = some 46 then some ([],(s.drop (i + 1)).tail) else (cut2 (s.drop (i + 1))).map fun x => (s[i] :: x.1,x.2)) = _
 rw [List.head?_drop,List.tail_drop]
theorem cut2_end {s : List UInt8} {i : Nat} (h : s.length ≤ i + 1) : cut2 (s.drop i) = none := by
 rcases Nat.lt_or_ge i s.length with hi | hi
 ·rw [cut2_step (List.getElem?_eq_getElem hi),if_neg (fun h' => by rw [List.getElem?_eq_none (by omega)] at h'; cases h'.2),List.drop_eq_nil_of_le h]
  rfl
 ·rw [List.drop_eq_nil_of_le hi]
  rfl
def rngE (p w : List UInt8) : Option Rng := (afterB p w).bind fun s => (cut2 s).bind fun x => (wholeB x.1).bind fun a => (wholeB x.2).map fun b => ⟨a,b⟩
theorem good37 (hJ : Closed prog main J) {w p : List UInt8} (hw : w.length ≤ 2000) (k1 : ∀ r,rngE p w = some r → K (.tuple ⟨[r.val,.bool true]⟩) H) (k2 : rngE p w = none → ∀ r : Rng,K (.tuple ⟨[r.val,.bool false]⟩) H) : Good prog J 37 [strV w,strV p] H K := by
 refine g37 hJ fun ok => ?_
 rw [e37]
 refine qAl fun H1 b e1 S1 c1 l1 => ?_
 have htk : tk prog 23 = some (true,2) := by kernel_rfl
 have hb : H.length ≤ b := by omega
 -- the way back
 have back : ∀ {F : RG} {H' : List AObj} {r : Rng} {q : Bool},F.ds = [] → F.r 4 = ptr b 0 → F.r 5 = .bool q → SameX [] H H' → H'[b]? = some (.cells r.cells true 0) → K (.tuple ⟨[r.val,.bool q]⟩) H → RetQ prog [.cell 4 23,.tmp 5] H.length K .ret F H' := by
  intro F H' r q ds r4 r5 S c hk
  unfold RetQ
  rw [ds]
  unfold takeW
  refine resW_cell htk ?_
  rw [r4]
  refine load_part (c := r.cells) c (by simp [Rng.cells]) rfl rfl (resW_tmp (by rw [r5]; simp [unk]) (resW_nil ?_))
  rw [r5]
  obtain ⟨g,rfl⟩ := S.app0 (by simp)
  have hv : VOk H.length (.tuple ⟨[r.val,.bool q]⟩) := by simp [VOk,AOk,LOk,Rng.val,Rng.cells]
  exact .inr ⟨id,H,.tuple ⟨[r.val,.bool q]⟩,gc_drop ok (Nat.le_refl _),(sub_id hv).symm,hv,hk⟩
 have rz : ∀ {KL : List Value → Prop},KL [vint 0,vint 0] → aFill [vint 0,vint 0] [] KL := fun h => h
 have go : ∀ {F : RG} {q : Bool},F.ds = [] → F.r 0 = strV w → F.r 1 = strV p → F.r 4 = ptr b 0 → F.r 23 = .bool q → p.isPrefixOf w = !q → _ := fun {F q} ds r0 r1 r4 r23 hq => show W prog J 70 H.length 37 (subC [1,0,1] (codeOf f37)) F H1 (contX pl37 prog J 70 H.length 37 ct37 [1,0,1] (codeOf f37) [] (RetQ prog [.cell 4 23,.tmp 5] H.length K)) by
  rw [s37_1]
  simp only [r0,r1,r4,r23]
  cases q with
  | true =>
   have hn : rngE p w = none := by
    unfold rngE
    rw [after_false hq]
    rfl
   exact cnd_true.2 (fillI (qStA (c := (⟨0,0⟩ : Rng).cells) c1 rfl rfl rfl fun H2 S2 c2 l2 => back ds r4 rfl (S1.thru S2 (by simp; omega)) c2 (k2 hn ⟨0,0⟩)))
  | false =>
   have ha := after_true (w := w) hq
   have hE : ∀ {x},((cut2 (w.drop p.length)).bind fun x => (wholeB x.1).bind fun a => (wholeB x.2).map fun b => (⟨a,b⟩ : Rng)) = x → rngE p w = x := fun hx => by
    unfold rngE
    rw [ha]
    exact hx
   have hpl := List.IsPrefix.length_le (List.isPrefixOf_iff_prefix.1 hq)
   refine cnd_false.2 (lenStr (slFr' hpl ?_))
   have hul : (w.drop p.length).length ≤ 2000 := by simp; omega
   generalize hu : w.drop p.length = u at *
   refine l37_2 hJ (S := Nat) (fun i => u.length + 1 - i) (fun i F H' => H' = H1 ∧ i ≤ u.length ∧ F.ds = [] ∧ F.r 0 = strV u ∧ F.r 4 = ptr b 0 ∧ F.r 6 = vint (i : Nat) ∧ cut2 u = (cut2 (u.drop i)).map fun y => (u.take i ++ y.1,y.2)) ?_ (s := 0) (.inl ⟨rfl,Nat.zero_le _,ds,rfl,r4,rfl,by
    show cut2 u = (cut2 u).map fun y => ([] ++ y.1,y.2)
    cases cut2 u <;> rfl⟩)
   rintro i F H' ⟨rfl,hi,ds,r0,r4,r6,hcut⟩ ok' hn'
   rw [s37_2]
   simp only [r0,r4,r6]
   refine addI (by omega) (lenStr (lssI (cndI (fun hlt => ?_) fun hge => ?_)))
   ·have hil : i < u.length := by omega
    have hx : u[i]? = some u[i] := List.getElem?_eq_getElem hil
    have hx1 : u[i + 1]? = some u[i + 1] := List.getElem?_eq_getElem (by omega)
    generalize u[i] = x at hx
    generalize u[i + 1] = x1 at hx1
    have hstep := cut2_step hx
    rw [hx1] at hstep
    have out : ∀ {F : RG} {q : Bool},F.ds = [] → F.r 0 = strV u → F.r 4 = ptr b 0 → F.r 6 = vint (i : Nat) → F.r 46 = .bool q → (q = true ↔ x = 46 ∧ x1 = 46) → _ := fun {F q} ds r0 r4 r6 r46 hq => show W prog J 70 H.length 37 (subC yp10 (codeOf f37)) F H' (contX pl37 prog J 70 H.length 37 ct37 yp10 (codeOf f37) [Nx H.length (fun i => u.length + 1 - i) (fun i F H2 => H2 = H' ∧ i ≤ u.length ∧ F.ds = [] ∧ F.r 0 = strV u ∧ F.r 4 = ptr b 0 ∧ F.r 6 = vint (i : Nat) ∧ cut2 u = (cut2 (u.drop i)).map fun y => (u.take i ++ y.1,y.2)) i] (RetQ prog [.cell 4 23,.tmp 5] H.length K)) by
     rw [s37_3]
     simp only [r0,r4,r6,r46]
     cases q with
     | true =>
      obtain ⟨rfl,rfl⟩ := hq.1 rfl
      rw [if_pos ⟨rfl,rfl⟩] at hstep
      rw [hstep] at hcut
      simp only [Option.map_some,List.append_nil] at hcut
      refine cnd_true.2 (slTo' (by omega) ?_)
      have fin : ∀ {F : RG} {H2 : List AObj} {a c : Int} {q1 q2 : Bool},H2 = H' → F.ds = [] → F.r 4 = ptr b 0 → F.r 5 = .bool (q1 && q2) → ((wholeB (u.take i) = some a ∧ q1 = true) ∨ (wholeB (u.take i) = none ∧ q1 = false)) → ((wholeB (u.drop (i + 2)) = some c ∧ q2 = true) ∨ (wholeB (u.drop (i + 2)) = none ∧ q2 = false)) → ∀ H3,SameX [b] H2 H3 → H3[b]? = some (.cells (⟨a,c⟩ : Rng).cells true 0) → RetQ prog [.cell 4 23,.tmp 5] H.length K .ret F H3 := by
       intro F H2 a c q1 q2 e ds r4 r5 h1 h2 H3 S3 c3
       subst e
       refine back ds r4 r5 (S1.thru S3 (by simp; omega)) c3 ?_
       rcases h1 with ⟨h1,rfl⟩ | ⟨h1,rfl⟩
       ·rcases h2 with ⟨h2,rfl⟩ | ⟨h2,rfl⟩
        ·exact k1 _ (hE (by rw [hcut]; simp [h1,h2]))
        ·exact k2 (hE (by rw [hcut]; simp [h1,h2])) _
       ·exact k2 (hE (by rw [hcut]; simp [h1])) _
      have snd : ∀ {KV : Value → List AObj → Prop},(∀ c,wholeB (u.drop (i + 2)) = some c → KV (.tuple ⟨[vint c,.bool true]⟩) H') → (wholeB (u.drop (i + 2)) = none → KV (.tuple ⟨[vint 0,.bool false]⟩) H') → Good prog J 64 [strV (u.drop (i + 2))] H' KV := fun a c => good64 hJ (by simp; omega) a c
      refine good64 hJ (by simp; omega) (fun a ha1 => ext0 (ext1 (addI (by omega) (slFr' (lo := i + 2) (by omega) ?_)))) fun ha1 => ext0 (ext1 (addI (by omega) (slFr' (lo := i + 2) (by omega) ?_)))
      ·refine snd (fun c hc1 => ext0 (ext1 ?_)) fun hc1 => ext0 (ext1 ?_)
       ·exact fill_four (l := [vint a]) rfl rfl rfl (by decide) (fill_four (l := [vint c]) rfl rfl rfl (by simp [wrAt]) (fillI (cnd_true.2 (qStA (c := (⟨a,c⟩ : Rng).cells) c1 rfl rfl rfl fun H3 S3 c3 l3 => by
         refine fin (q1 := true) (q2 := true) rfl ?_ ?_ ?_ (.inl ⟨ha1,rfl⟩) (.inl ⟨hc1,rfl⟩) H3 S3 c3 <;> first | exact ds | exact r4 | rfl))))
       ·exact fill_four (l := [vint a]) rfl rfl rfl (by decide) (fill_four (l := [vint 0]) rfl rfl rfl (by simp [wrAt]) (fillI (cnd_true.2 (qStA (c := (⟨a,0⟩ : Rng).cells) c1 rfl rfl rfl fun H3 S3 c3 l3 => by
         refine fin (q1 := true) (q2 := false) rfl ?_ ?_ ?_ (.inl ⟨ha1,rfl⟩) (.inr ⟨hc1,rfl⟩) H3 S3 c3 <;> first | exact ds | exact r4 | rfl))))
      ·refine snd (fun c hc1 => ext0 (ext1 ?_)) fun hc1 => ext0 (ext1 ?_)
       ·exact fill_four (l := [vint 0]) rfl rfl rfl (by decide) (fill_four (l := [vint c]) rfl rfl rfl (by simp [wrAt]) (fillI (cnd_false.2 (qStA (c := (⟨0,c⟩ : Rng).cells) c1 rfl rfl rfl fun H3 S3 c3 l3 => by
         refine fin (q1 := false) (q2 := true) rfl ?_ ?_ ?_ (.inr ⟨ha1,rfl⟩) (.inl ⟨hc1,rfl⟩) H3 S3 c3 <;> first | exact ds | exact r4 | rfl))))
       ·exact fill_four (l := [vint 0]) rfl rfl rfl (by decide) (fill_four (l := [vint 0]) rfl rfl rfl (by simp [wrAt]) (fillI (cnd_false.2 (qStA (c := (⟨0,0⟩ : Rng).cells) c1 rfl rfl rfl fun H3 S3 c3 l3 => by
         refine fin (q1 := false) (q2 := false) rfl ?_ ?_ ?_ (.inr ⟨ha1,rfl⟩) (.inr ⟨hc1,rfl⟩) H3 S3 c3 <;> first | exact ds | exact r4 | rfl))))
     | false =>
      have hne : ¬ (x = 46 ∧ some x1 = some 46) := fun h => by
       have := hq.2 ⟨h.1,by simpa using h.2⟩
       cases this
      rw [if_neg hne] at hstep
      refine cnd_false.2 (addI (by omega) ⟨i + 1,by dsimp only; omega,.inl ⟨rfl,by omega,ds,r0,r4,rfl,?_⟩⟩)
      rw [hcut,hstep,Option.map_map,take_snoc hx]
      congr 1
      funext y
      simp
    refine idS hx (eqU (b := 46) (cndI (fun h => addI (by omega) (idS (j := i + 1) hx1 (eqU (b := 46) (hold.2 ?_)))) fun h => hold.2 ?_))
    ·exact out ds r0 r4 r6 rfl (by rw [decide_eq_true_iff]; exact ⟨fun h2 => ⟨h,h2⟩,fun h2 => h2.2⟩)
    ·exact out ds r0 r4 r6 rfl ⟨(fun h2 => by cases h2),fun h2 => absurd h2.1 h⟩
   ·have hn : rngE p w = none := hE (by
     rw [hcut,cut2_end (by omega)]
     rfl)
    exact fillI (qStA (c := (⟨0,0⟩ : Rng).cells) c1 rfl rfl rfl fun H2 S2 c2 l2 => back ds r4 rfl (S1.thru S2 (by simp; omega)) c2 (k2 hn ⟨0,0⟩))
 refine lenStr (lenStr (lssI (cndI (fun h => hold.2 ?_) fun h => lenStr (slTo' (by omega) (neS (hold.2 ?_))))))
 ·refine go rfl rfl rfl rfl rfl ?_
  cases hp : p.isPrefixOf w with
  | false => rfl
  | true => exact absurd (List.IsPrefix.length_le (List.isPrefixOf_iff_prefix.1 hp)) (by omega)
 ·refine go rfl rfl rfl rfl rfl ?_
  rw [← decide_not]
  simp only [Decidable.not_not]
  rw [Bool.eq_iff_iff,decide_eq_true_iff]
  exact take_pre.symm
end
theorem parts_step {c : UInt8} {s : List UInt8} {fr i : Nat} (hf : fr ≤ i) (hx : s[i]? = some c) (hno : ∀ b ∈ (s.take i).drop fr,b ≠ c) : partsB c (s.drop fr) = (s.take i).drop fr :: partsB c (s.drop (i + 1)) := by
 obtain ⟨hi,hc⟩ := List.getElem?_eq_some_iff.1 hx
 have : s.drop fr = (s.take i).drop fr ++ c :: s.drop (i + 1) := by
  have h1 : s = s.take i ++ c :: s.drop (i + 1) := by rw [← hc,List.getElem_cons_drop,List.take_append_drop]
  have h2 : fr ≤ (s.take i).length := by simp; omega
  calc s.drop fr = (s.take i ++ c :: s.drop (i + 1)).drop fr := by rw [← h1]
   _ = _ := List.drop_append_of_le_length h2
 rw [this,partsB_cut _ _ hno]
theorem take_drop_snoc {s : List UInt8} {fr i : Nat} {x : UInt8} (hf : fr ≤ i) (hx : s[i]? = some x) : (s.take (i + 1)).drop fr = (s.take i).drop fr ++ [x] := by
 have hi := (List.getElem?_eq_some_iff.1 hx).1
 rw [take_snoc hx,List.drop_append_of_le_length (by simp; omega)]
section
variable {main : Bool} {J : JT} {H : List AObj} {K : Value → List AObj → Prop} {KV : Value → Prop} {F : RG} {n0 : Nat}
theorem good36 (hJ : Closed prog main J) {s : List UInt8} {c : UInt8} (hs : s.length ≤ 900) (hK : ∀ v H',SameX [] H H' → Sli H' v 1 (partsB c s).length ((partsB c s).map strV) → K v H') : Good prog J 36 [strV s,.int .u8 c.toNat] H K := by
 refine g36 hJ fun ok => ?_
 rw [e36]
 refine l36_1 hJ (S := Nat) (fun i => s.length + 2 - i) (fun i F H' => ∃ (L : List (List UInt8)) (fr : Nat) (v : Value) (o : Option Nat),F.ds = [] ∧ F.r 0 = strV s ∧ F.r 1 = .int .u8 c.toNat ∧ F.r 5 = v ∧ F.r 6 = vint (fr : Nat) ∧ F.r 7 = vint (i : Nat) ∧ OwnX H' 1 (L.map strV) L.length v o ∧ (∀ k,o = some k → H.length ≤ k) ∧ SameX [] H H' ∧ L.length ≤ i ∧
   ((i ≤ s.length ∧ fr ≤ i ∧ partsB c s = L ++ partsB c (s.drop fr) ∧ ∀ b ∈ (s.take i).drop fr,b ≠ c) ∨ (i = s.length + 1 ∧ fr ≤ i ∧ L = partsB c s))) ?_ (s := 0)
  (.inl ⟨[],0,_,none,rfl,rfl,rfl,rfl,rfl,rfl,ownX_nil,(fun k e => by cases e),SameX.refl,Nat.le_refl _,.inl ⟨Nat.zero_le _,Nat.le_refl _,by simp,by simp⟩⟩)
 rintro i F H' ⟨L,fr,v,o,ds,r0,r1,r5,r6,r7,O,hO,S,hL,hcase⟩ ok' hn'
 rw [s36_1]
 simp only [ds,r0,r1,r5,r7]
 refine lenStr (leqI (cndI (fun hle => lenStr (eqlI ?_)) fun hgt => ?_))
 ·obtain ⟨hi,hf,hp,hno⟩ := hcase.resolve_right (fun h => by omega)
  have out : ∀ {F : RG} {q : Bool},F.ds = [] → F.r 0 = strV s → F.r 1 = .int .u8 c.toNat → F.r 5 = v → F.r 6 = vint (fr : Nat) → F.r 7 = vint (i : Nat) → F.r 24 = .bool q → (q = true ↔ i = s.length ∨ s[i]? = some c) → _ := fun {F q} ds r0 r1 r5 r6 r7 r24 hq => show W prog J 35 H.length 36 (subC yp10 (codeOf f36)) F H' (contX pl36 prog J 35 H.length 36 ct36 yp10 (codeOf f36) [Nx H.length (fun i => s.length + 2 - i) (fun i F H' => ∃ (L : List (List UInt8)) (fr : Nat) (v : Value) (o : Option Nat),F.ds = [] ∧ F.r 0 = strV s ∧ F.r 1 = .int .u8 c.toNat ∧ F.r 5 = v ∧ F.r 6 = vint (fr : Nat) ∧ F.r 7 = vint (i : Nat) ∧ OwnX H' 1 (L.map strV) L.length v o ∧ (∀ k,o = some k → H.length ≤ k) ∧ SameX [] H H' ∧ L.length ≤ i ∧
   ((i ≤ s.length ∧ fr ≤ i ∧ partsB c s = L ++ partsB c (s.drop fr) ∧ ∀ b ∈ (s.take i).drop fr,b ≠ c) ∨ (i = s.length + 1 ∧ fr ≤ i ∧ L = partsB c s))) i] (RetQ prog [.tmp 4] H.length K)) by
   rw [s36_2]
   simp only [r0,r5,r6,r7,r24]
   cases q with
   | true =>
    refine cnd_true.2 (slS ⟨hf,hi⟩ ⟨⟨by decide,by decide,rfl⟩,fillO (l := [strV ((s.take i).drop fr)]) rfl rfl rfl (by decide) (fillI (qNew fun H2 p2 e2 S2 c2 l2 => ⟨⟨rfl,by decide,by decide,by decide⟩,?_⟩))⟩)
    have c2 : H2[p2]? = some (.cells [strV ((s.take i).drop fr)] true 0) := c2
    have O2 := ownX_keep O S2 (by simp)
    refine ownX_more O2 (by omega) (by omega) (ownX_sli (ownX_new (s := 1) (n := 1) c2 rfl rfl)) fun v' H3 p3 e3 O3 S3 => addI (by omega) (addI (by omega) ⟨i + 1,by dsimp only; omega,.inl ⟨L ++ [(s.take i).drop fr],i + 1,v',some p3,ds,r0,r1,rfl,rfl,rfl,by simpa using O3,(fun k e => by cases e; have := S.1; have := S2.1; omega),(S.trans S2).thru S3 (fun y hy => .inr (hO y (by simpa using hy))),by simp; omega,?_⟩⟩)
    rcases Nat.lt_or_ge i s.length with hlt | hge
    ·have hx : s[i]? = some c := (hq.1 rfl).resolve_left (by omega)
     refine .inl ⟨hlt,Nat.le_refl _,?_,?_⟩
     ·rw [hp,parts_step hf hx hno]
      simp
     ·rw [List.drop_of_length_le (by simp; omega)]
      simp
    ·have hie : i = s.length := by omega
     refine .inr ⟨by omega,Nat.le_refl _,?_⟩
     subst hie
     rw [List.take_length] at hno ⊢
     rw [hp,partsB_one _ hno]
   | false =>
    have hlt : i < s.length := by
     rcases Nat.lt_or_ge i s.length with h | h
     ·exact h
     ·have := hq.2 (.inl (by omega))
      cases this
    have hx : s[i]? = some s[i] := List.getElem?_eq_getElem hlt
    refine cnd_false.2 (addI (by omega) ⟨i + 1,by dsimp only; omega,.inl ⟨L,fr,v,o,ds,r0,r1,r5,r6,rfl,O,hO,S,by omega,.inl ⟨hlt,by omega,hp,?_⟩⟩⟩)
    rw [take_drop_snoc hf hx]
    intro b hb
    rcases List.mem_append.1 hb with hb | hb
    ·exact hno b hb
    ·rw [List.mem_singleton.1 hb]
     intro e
     have := hq.2 (.inr (by rw [hx,e]))
     cases this
  refine cndI (fun he => hold.2 ?_) fun hne => ?_
  ·exact out ds r0 r1 r5 r6 r7 rfl ⟨fun _ => .inl (by omega),fun _ => rfl⟩
  ·have hlt : i < s.length := by omega
   have hx : s[i]? = some s[i] := List.getElem?_eq_getElem hlt
   refine idS hx (eqU (hold.2 (out ds r0 r1 r5 r6 r7 rfl ?_)))
   rw [decide_eq_true_iff]
   exact ⟨fun e => .inr (by rw [hx,e]),fun h => by
    rcases h with h | h
    ·omega
    ·rw [hx] at h
     exact Option.some.inj h⟩
 ·obtain ⟨hi,_,hp⟩ := hcase.resolve_left (fun h => by omega)
  subst hp
  refine retL_same (by
   intro x hx
   rw [List.mem_singleton.1 hx]
   obtain ⟨b,k,e,_⟩ := ownX_sli O
   rw [e]
   simp [unk]) (hK v H' S (ownX_sli O))
end
end Go.Proofs.YtlladcglhjlbpaaGreatDoor
namespace Go.Proofs.YtlladcglhjlbpaaGreatDoor
open Go.Conc Go.Proofs.Tryz
set_option maxRecDepth 100000
set_option maxHeartbeats 4000000
set_option linter.unusedVariables false
section
variable {main : Bool} {J : JT} {n0 : Nat} {h : List AObj} {K : Value → List AObj → Prop}
theorem at39 : prog.funcs[39]? = some f39 := by kernel_rfl
theorem body39 : f39.body = some (codeOf f39) := by kernel_rfl
def pl39 : Plans := [(6,false,.take 0 (.take 1 (.take 2 (.take 3 (.take 4 (.take 5 (.take 6 (.take 7 (.last 8 true (.take 9 (.take 10 (.last 11 false (.take 12 (.take 13 (.last 14 false (.fin))))))))))))))))]
def ct39 : Cuts := .bin (.go) (.bin (.go) (.bin (.go) (.bin (.go) (.bin (.go) (.cut (.bin (.go) (.cut (.go))))))))
theorem pok39 : plansOk prog pl39 (codeOf f39) = true := by kernel_rfl
theorem e39 {a0 a1 : Value} : W prog J 54 h.length 39 (codeOf f39) (RG.mk (regs [a0,a1]) []) h (RetQ prog [.tmp 4] h.length K) =
(aLenS a1 fun v1 =>
aBin prog .neq 3 v1 (vint 3) fun v2 =>
cnd v2
(retL h.length K [] [(Value.bool false)] h)
(aIdx 1 a1 (vint 0) fun v3 =>
aLoad false 1 v3 h fun v4 =>
Good prog J 65 [v4,(Value.string { data := #[103,97,116,101,115,61] })] h fun v5 h6 =>
aExt v5 0 fun v7 =>
aExt v5 1 fun v8 =>
aIdx 1 a1 (vint 1) fun v9 =>
aLoad false 1 v9 h6 fun v10 =>
Good prog J 37 [v10,(Value.string { data := #[102,105,114,115,116,61] })] h6 fun v11 h12 =>
aExt v11 0 fun v13 =>
aExt v11 1 fun v14 =>
aAlloc [(vint 0),(vint 0)] h12 fun v15 h16 =>
aStore 2 v15 v13 h16 fun h17 =>
aIdx 1 a1 (vint 2) fun v18 =>
aLoad false 1 v18 h17 fun v19 =>
Good prog J 65 [v19,(Value.string { data := #[108,111,115,116,61] })] h17 fun v20 h21 =>
aExt v20 0 fun v22 =>
aExt v20 1 fun v23 =>
Hold (W prog J 54 h.length 39 (subC yp8 (codeOf f39)) (RG.p (RG.p (RG.p (RG.p (RG.p (RG.p (RG.p (RG.p (RG.p (RG.p (RG.p (RG.p (RG.p (RG.p (RG.p (RG.p (RG.p (RG.p (RG.p (RG.p (RG.p (RG.p (RG.p (RG.p (RG.p (RG.p (RG.p (RG.p (RG.p (RG.p (RG.p (RG.mk (regs [a0,a1]) []) 4 (Value.bool false)) 11 a1) 12 v1) 13 v2) 15 a1) 16 v3) 17 v4) 18 v5) 14 v5) 19 v7) 20 v8) 5 v7) 6 v8) 22 a1) 23 v9) 24 v10) 25 v11) 21 v11) 26 v13) 27 v14) 7 v15) 8 v14) 29 a1) 30 v18) 31 v19) 32 v20) 28 v20) 33 v22) 34 v23) 9 v22) 10 v23) h21 (contX pl39 prog J 54 h.length 39 ct39 yp8 (codeOf f39) [] (RetQ prog [.tmp 4] h.length K))))) := top_eq pok39 ct39 (by kernel_rfl)
theorem g39 (hJ : Closed prog main J) {a0 a1 : Value} (hs : heapOk h → W prog J 54 h.length 39 (codeOf f39) (RG.mk (regs [a0,a1]) []) h (RetQ prog [.tmp 4] h.length K)) : Good prog J 39 [a0,a1] h K :=
 good_of_W hJ mixed at39 body39 (by kernel_rfl) (Nat.le_of_ble_eq_true rfl) hs
theorem s39_1 {f : RG} : W prog J 54 n0 39 (subC yp8 (codeOf f39)) f h (contX pl39 prog J 54 n0 39 ct39 yp8 (codeOf f39) [] (RetQ prog [.tmp 4] n0 K)) =
((∃ B,aLoad true 2 (f.r 7) h fun v1 =>
RdOk (some B) (ptrBlk (f.r 7)) ∧ (aNil (f.r 0) fun v2 =>
aOff v2 0 fun v3 =>
aStore 1 v3 (f.r 5) h fun h4 =>
SameB (some B) h h4 ∧ (aNil (f.r 0) fun v5 =>
aOff v5 1 fun v6 =>
aStore 2 v6 v1 h4 fun h7 =>
aNil (f.r 0) fun v8 =>
aOff v8 4 fun v9 =>
aStore 1 v9 (f.r 9) h7 fun h10 =>
Hold (W prog J 54 n0 39 (subC [1,1,1,1,1,1] (codeOf f39)) (RG.p (RG.p (RG.p (RG.p (RG.p (RG.p (RG.p (RG.p (RG.p (RG.p (RG.p (RG.p f 35 (f.r 0)) 36 (f.r 0)) 37 (f.r 0)) 38 (f.r 5)) 39 v1) 40 (f.r 9)) 41 v2) 42 v3) 43 v5) 44 v6) 45 v8) 46 v9) h10 (contX pl39 prog J 54 n0 39 ct39 [1,1,1,1,1,1] (codeOf f39) [] (RetQ prog [.tmp 4] n0 K))))))) := sub_eq pok39 ct39 (by kernel_rfl)
theorem s39_2 {f : RG} : W prog J 54 n0 39 (subC [1,1,1,1,1,1] (codeOf f39)) f h (contX pl39 prog J 54 n0 39 ct39 [1,1,1,1,1,1] (codeOf f39) [] (RetQ prog [.tmp 4] n0 K)) =
(cnd (f.r 6)
(cnd (f.r 8)
(retL n0 K f.ds [(f.r 10)] h)
(retL n0 K f.ds [(Value.bool false)] h))
(retL n0 K f.ds [(Value.bool false)] h)) := sub_eq pok39 ct39 (by kernel_rfl)
end
end Go.Proofs.YtlladcglhjlbpaaGreatDoor
