/- Parts of the proof, 5. No conditions. -/
import Derived.Test.YtkbfhelfnagccaaK2
import Derived.Test.YtkbfhelfnagccaaK3
import Derived.Test.YtkbfhelfnagccaaK4
namespace Go.Proofs.Ytkbfhelfnagccaa
open Go.Conc Go.Proofs.Try
set_option maxRecDepth 100000
set_option maxHeartbeats 4000000
set_option linter.unusedVariables false
section
variable {main : Bool} {J : JT} {n0 : Nat} {h : List AObj} {K : Value → List AObj → Prop}
theorem at35 : prog.funcs[35]? = some f35 := by kernel_rfl
theorem body35 : f35.body = some (codeOf f35) := by kernel_rfl
def pl35 : Plans := []
def ct35 : Cuts := .go
theorem pok35 : plansOk prog pl35 (codeOf f35) = true := by kernel_rfl
theorem e35 {a0 a1 a2 : Value} : W prog J 15 h.length 35 (codeOf f35) (RG.mk (regs [a0,a1,a2]) []) h (RetQ prog [.tmp 6] h.length K) =
(aBin prog .leq 3 a1 a0 fun v1 =>
cnd v1
(aBin prog .leq 3 a0 a2 fun v2 =>
retL h.length K [] [v2] h)
(retL h.length K [] [(Value.bool false)] h)) := top_eq pok35 ct35 (by kernel_rfl)
theorem g35 (hJ : Closed prog main J) {a0 a1 a2 : Value} (hs : heapOk h → W prog J 15 h.length 35 (codeOf f35) (RG.mk (regs [a0,a1,a2]) []) h (RetQ prog [.tmp 6] h.length K)) : Good prog J 35 [a0,a1,a2] h K :=
 good_of_W hJ mixed at35 body35 (by kernel_rfl) (Nat.le_of_ble_eq_true rfl) hs
theorem at38 : prog.funcs[38]? = some f38 := by kernel_rfl
theorem body38 : f38.body = some (codeOf f38) := by kernel_rfl
def pl38 : Plans := []
def ct38 : Cuts := .go
theorem pok38 : plansOk prog pl38 (codeOf f38) = true := by kernel_rfl
theorem e38 {a0 a1 : Value} : W prog J 8 h.length 38 (codeOf f38) (RG.mk (regs [a0,a1]) []) h (RetQ prog [.tmp 4] h.length K) =
(aBin prog .andNot 90 a0 a1 fun v1 =>
retL h.length K [] [v1] h) := top_eq pok38 ct38 (by kernel_rfl)
theorem g38 (hJ : Closed prog main J) {a0 a1 : Value} (hs : heapOk h → W prog J 8 h.length 38 (codeOf f38) (RG.mk (regs [a0,a1]) []) h (RetQ prog [.tmp 4] h.length K)) : Good prog J 38 [a0,a1] h K :=
 good_of_W hJ mixed at38 body38 (by kernel_rfl) (Nat.le_of_ble_eq_true rfl) hs
theorem at39 : prog.funcs[39]? = some f39 := by kernel_rfl
theorem body39 : f39.body = some (codeOf f39) := by kernel_rfl
def pl39 : Plans := []
def ct39 : Cuts := .go
theorem pok39 : plansOk prog pl39 (codeOf f39) = true := by kernel_rfl
theorem e39 {a0 : Value} : W prog J 6 h.length 39 (codeOf f39) (RG.mk (regs [a0]) []) h (RetQ prog [.tmp 2] h.length K) =
(aConvI .u64 a0 fun v1 =>
Good prog J 50 [v1] h fun v2 h3 =>
retL h.length K [] [v2] h3) := top_eq pok39 ct39 (by kernel_rfl)
theorem g39 (hJ : Closed prog main J) {a0 : Value} (hs : heapOk h → W prog J 6 h.length 39 (codeOf f39) (RG.mk (regs [a0]) []) h (RetQ prog [.tmp 2] h.length K)) : Good prog J 39 [a0] h K :=
 good_of_W hJ mixed at39 body39 (by kernel_rfl) (Nat.le_of_ble_eq_true rfl) hs
theorem at49 : prog.funcs[49]? = some f49 := by kernel_rfl
theorem body49 : f49.body = some (codeOf f49) := by kernel_rfl
def pl49 : Plans := []
def ct49 : Cuts := .bin (.go) (.bin (.go) (.cut (.go)))
theorem pok49 : plansOk prog pl49 (codeOf f49) = true := by kernel_rfl
theorem e49 {a0 a1 : Value} : W prog J 14 h.length 49 (codeOf f49) (RG.mk (regs [a0,a1]) []) h (RetQ prog [.tmp 4] h.length K) =
(aBox a1 h fun v1 h2 =>
aOff v1 1 fun v3 =>
aLoad false 1 v3 h2 fun v4 =>
cnd v4
(aBin prog .andNot 90 a0 (vint 15) fun v5 =>
Hold (W prog J 14 h.length 49 (subC [1,1] (codeOf f49)) (RG.p (RG.p (RG.p (RG.p (RG.p (RG.p (RG.p (RG.mk (regs [a0,a1]) []) 3 v1) 4 (vint 0)) 5 v3) 6 v4) 7 a0) 8 v5) 0 v5) h2 (contX pl49 prog J 14 h.length 49 ct49 [1,1] (codeOf f49) [] (RetQ prog [.tmp 4] h.length K))))
(Hold (W prog J 14 h.length 49 (subC [1,1] (codeOf f49)) (RG.p (RG.p (RG.p (RG.p (RG.mk (regs [a0,a1]) []) 3 v1) 4 (vint 0)) 5 v3) 6 v4) h2 (contX pl49 prog J 14 h.length 49 ct49 [1,1] (codeOf f49) [] (RetQ prog [.tmp 4] h.length K))))) := top_eq pok49 ct49 (by kernel_rfl)
theorem g49 (hJ : Closed prog main J) {a0 a1 : Value} (hs : heapOk h → W prog J 14 h.length 49 (codeOf f49) (RG.mk (regs [a0,a1]) []) h (RetQ prog [.tmp 4] h.length K)) : Good prog J 49 [a0,a1] h K :=
 good_of_W hJ mixed at49 body49 (by kernel_rfl) (Nat.le_of_ble_eq_true rfl) hs
theorem s49_1 {f : RG} : W prog J 14 n0 49 (subC [1,1] (codeOf f49)) f h (contX pl49 prog J 14 n0 49 ct49 [1,1] (codeOf f49) [] (RetQ prog [.tmp 4] n0 K)) =
(aOff (f.r 3) 2 fun v1 =>
aLoad false 1 v1 h fun v2 =>
cnd v2
(aBin prog .andNot 90 (f.r 0) (vint 240) fun v3 =>
retL n0 K f.ds [v3] h)
(retL n0 K f.ds [(f.r 0)] h)) := sub_eq pok49 ct49 (by kernel_rfl)
theorem at50 : prog.funcs[50]? = some f50 := by kernel_rfl
theorem body50 : f50.body = some (codeOf f50) := by kernel_rfl
def pl50 : Plans := []
def ct50 : Cuts := .go
theorem pok50 : plansOk prog pl50 (codeOf f50) = true := by kernel_rfl
theorem e50 {a0 : Value} : W prog J 8 h.length 50 (codeOf f50) (RG.mk (regs [a0]) []) h (RetQ prog [.tmp 2] h.length K) =
(Good prog J 59 [a0] h fun v1 h2 =>
retL h.length K [] [v1] h2) := top_eq pok50 ct50 (by kernel_rfl)
theorem g50 (hJ : Closed prog main J) {a0 : Value} (hs : heapOk h → W prog J 8 h.length 50 (codeOf f50) (RG.mk (regs [a0]) []) h (RetQ prog [.tmp 2] h.length K)) : Good prog J 50 [a0] h K :=
 good_of_W hJ mixed at50 body50 (by kernel_rfl) (Nat.le_of_ble_eq_true rfl) hs
theorem at18 : prog.funcs[18]? = some f18 := by kernel_rfl
theorem body18 : f18.body = some (codeOf f18) := by kernel_rfl
def pl18 : Plans := []
def ct18 : Cuts := .bin (.go) (.bin (.go) (.bin (.go) (.bin (.bin (.go) (.un (.un (.bin (.go) (.bin (.go) (.bin (.un (.bin (.go) (.bin (.bin (.go) (.cut (.go))) (.go)))) (.go))))))) (.go))))
theorem pok18 : plansOk prog pl18 (codeOf f18) = true := by kernel_rfl
theorem e18 {a0 : Value} : W prog J 53 h.length 18 (codeOf f18) (RG.mk (regs [a0]) []) h (RetQ prog [.tmp 2] h.length K) =
(aBox a0 h fun v1 h2 =>
aOff v1 0 fun v3 =>
aLoad false 1 v3 h2 fun v4 =>
Good prog J 35 [v4,(vint 0),(vint 2)] h2 fun v5 h6 =>
aUn .not v5 fun v7 =>
cnd v7
(retL h.length K [] [(vint 1)] h6)
(aOff v1 1 fun v8 =>
aLoad false 1 v8 h6 fun v9 =>
aLenS v9 fun v10 =>
aBin prog .gtr 3 v10 (vint 5) fun v11 =>
cnd v11
(retL h.length K [] [(vint 6)] h6)
(aOff v1 1 fun v12 =>
aLoad false 1 v12 h6 fun v13 =>
aLenS v13 fun v14 =>
Sem J 53 h.length 18 (subC [1,1,1,0,1,0] (codeOf f18)) (RG.p (RG.p (RG.p (RG.p (RG.p (RG.p (RG.p (RG.p (RG.p (RG.p (RG.p (RG.p (RG.p (RG.p (RG.mk (regs [a0]) []) 1 v1) 2 (vint 0)) 7 v3) 8 v4) 9 v5) 10 v7) 11 v8) 12 v9) 13 v10) 14 v11) 15 v12) 16 v13) 17 v14) 18 (vint 0)) h6 (contX pl18 prog J 53 h.length 18 ct18 [1,1,1,0,1,0] (codeOf f18) [] (RetQ prog [.tmp 2] h.length K))))) := top_eq pok18 ct18 (by kernel_rfl)
theorem g18 (hJ : Closed prog main J) {a0 : Value} (hs : heapOk h → W prog J 53 h.length 18 (codeOf f18) (RG.mk (regs [a0]) []) h (RetQ prog [.tmp 2] h.length K)) : Good prog J 18 [a0] h K :=
 good_of_W hJ mixed at18 body18 (by kernel_rfl) (Nat.le_of_ble_eq_true rfl) hs
theorem s18_1 {f : RG} {nx0 : RG → List AObj → Prop} : W prog J 53 n0 18 (subC [1,1,1,0,1,0,0] (codeOf f18)) f h (thenK nx0 (contX pl18 prog J 53 n0 18 ct18 [1,1,1,0,1,0] (codeOf f18) [] (RetQ prog [.tmp 2] n0 K))) =
(aBin prog .lss 3 (f.r 18) (f.r 17) fun v1 =>
cnd v1
(aIdx 3 (f.r 16) (f.r 18) fun v2 =>
aLoad true 3 v2 h fun v3 =>
aAlloc [(vint 0),(vint 0),(vint 0)] h fun v4 h5 =>
aStore 3 v4 v3 h5 fun h6 =>
aOff v4 0 fun v7 =>
aLoad false 1 v7 h6 fun v8 =>
Good prog J 35 [v8,(vint 0),(vint 255)] h6 fun v9 h10 =>
aUn .not v9 fun v11 =>
cnd v11
(Hold (W prog J 53 n0 18 (subC [1,1,1,0,1,0,0,1,1,0,0,1,0,1] (codeOf f18)) (RG.p (RG.p (RG.p (RG.p (RG.p (RG.p (RG.p (RG.p (RG.p (RG.p (RG.p (RG.p (RG.p (RG.p (RG.p (RG.p (RG.p (RG.p (RG.p (RG.p (RG.p (RG.p (RG.p (RG.p f 19 v1) 20 (f.r 18)) 21 v2) 22 v3) 4 v4) 3 (f.r 18)) 23 v7) 24 v8) 25 v9) 26 v11) 27 v11) 27 (Value.bool true)) 28 undef) 29 undef) 30 undef) 31 undef) 32 (Value.bool true)) 33 (Value.bool true)) 33 (Value.bool true)) 34 undef) 35 undef) 36 undef) 37 undef) 38 (Value.bool true)) h10 (contX pl18 prog J 53 n0 18 ct18 [1,1,1,0,1,0,0,1,1,0,0,1,0,1] (codeOf f18) [nx0] (RetQ prog [.tmp 2] n0 K))))
(aOff v4 1 fun v12 =>
aLoad false 1 v12 h10 fun v13 =>
Good prog J 35 [v13,(vint 0),(vint 9)] h10 fun v14 h15 =>
aUn .not v14 fun v16 =>
cnd v16
(Hold (W prog J 53 n0 18 (subC [1,1,1,0,1,0,0,1,1,0,0,1,0,1] (codeOf f18)) (RG.p (RG.p (RG.p (RG.p (RG.p (RG.p (RG.p (RG.p (RG.p (RG.p (RG.p (RG.p (RG.p (RG.p (RG.p (RG.p (RG.p (RG.p (RG.p (RG.p (RG.p (RG.p (RG.p (RG.p f 19 v1) 20 (f.r 18)) 21 v2) 22 v3) 4 v4) 3 (f.r 18)) 23 v7) 24 v8) 25 v9) 26 v11) 27 v11) 27 (Value.bool false)) 28 v12) 29 v13) 30 v14) 31 v16) 32 v16) 33 v16) 33 (Value.bool true)) 34 undef) 35 undef) 36 undef) 37 undef) 38 (Value.bool true)) h15 (contX pl18 prog J 53 n0 18 ct18 [1,1,1,0,1,0,0,1,1,0,0,1,0,1] (codeOf f18) [nx0] (RetQ prog [.tmp 2] n0 K))))
(aOff v4 2 fun v17 =>
aLoad false 1 v17 h15 fun v18 =>
Good prog J 35 [v18,(vint 0),(vint 6)] h15 fun v19 h20 =>
aUn .not v19 fun v21 =>
Hold (W prog J 53 n0 18 (subC [1,1,1,0,1,0,0,1,1,0,0,1,0,1] (codeOf f18)) (RG.p (RG.p (RG.p (RG.p (RG.p (RG.p (RG.p (RG.p (RG.p (RG.p (RG.p (RG.p (RG.p (RG.p (RG.p (RG.p (RG.p (RG.p (RG.p (RG.p (RG.p (RG.p (RG.p (RG.p f 19 v1) 20 (f.r 18)) 21 v2) 22 v3) 4 v4) 3 (f.r 18)) 23 v7) 24 v8) 25 v9) 26 v11) 27 v11) 27 (Value.bool false)) 28 v12) 29 v13) 30 v14) 31 v16) 32 v16) 33 v16) 33 (Value.bool false)) 34 v17) 35 v18) 36 v19) 37 v21) 38 v21) h20 (contX pl18 prog J 53 n0 18 ct18 [1,1,1,0,1,0,0,1,1,0,0,1,0,1] (codeOf f18) [nx0] (RetQ prog [.tmp 2] n0 K))))))
(retL n0 K f.ds [(vint 0)] h)) := sub_eq pok18 ct18 (by kernel_rfl)
theorem l18_1 (hJ : Closed prog main J) {S : Type} (μ : S → Nat) (I : S → RG → List AObj → Prop) (hI : ∀ s f h,I s f h → heapOk h → n0 ≤ h.length → W prog J 53 n0 18 (subC [1,1,1,0,1,0,0] (codeOf f18)) f h (thenK (Nx n0 μ I s) (contX pl18 prog J 53 n0 18 ct18 [1,1,1,0,1,0] (codeOf f18) [] (RetQ prog [.tmp 2] n0 K))))
 {s : S} {f : RG} (hi : Gets n0 I s f h) : Sem J 53 n0 18 (subC [1,1,1,0,1,0] (codeOf f18)) f h (contX pl18 prog J 53 n0 18 ct18 [1,1,1,0,1,0] (codeOf f18) [] (RetQ prog [.tmp 2] n0 K)) :=
 loop_rule hJ mixed (b := subC [1,1,1,0,1,0,0] (codeOf f18)) (by kernel_rfl) μ I hI hi
theorem s18_2 {f : RG} {nx0 : RG → List AObj → Prop} : W prog J 53 n0 18 (subC [1,1,1,0,1,0,0,1,1,0,0,1,0,1] (codeOf f18)) f h (contX pl18 prog J 53 n0 18 ct18 [1,1,1,0,1,0,0,1,1,0,0,1,0,1] (codeOf f18) [nx0] (RetQ prog [.tmp 2] n0 K)) =
(cnd (f.r 38)
(retL n0 K f.ds [(vint 1)] h)
(aOff (f.r 1) 1 fun v1 =>
aLoad false 1 v1 h fun v2 =>
aSl2 3 v2 none (some (f.r 3)) h fun v3 =>
aLenS v3 fun v4 =>
Sem J 53 n0 18 (subC [1,1,1,0,1,0,0,1,1,0,0,1,1,1,0] (codeOf f18)) (RG.p (RG.p (RG.p (RG.p (RG.p (RG.p f 39 v1) 40 v2) 41 (f.r 3)) 42 v3) 43 v4) 44 (vint 0)) h (contX pl18 prog J 53 n0 18 ct18 [1,1,1,0,1,0,0,1,1,0,0,1,1,1,0] (codeOf f18) [nx0] (RetQ prog [.tmp 2] n0 K)))) := sub_eq pok18 ct18 (by kernel_rfl)
theorem s18_3 {f : RG} {nx0 nx1 : RG → List AObj → Prop} : W prog J 53 n0 18 (subC [1,1,1,0,1,0,0,1,1,0,0,1,1,1,0,0] (codeOf f18)) f h (thenK nx1 (contX pl18 prog J 53 n0 18 ct18 [1,1,1,0,1,0,0,1,1,0,0,1,1,1,0] (codeOf f18) [nx0] (RetQ prog [.tmp 2] n0 K))) =
(aBin prog .lss 3 (f.r 44) (f.r 43) fun v1 =>
cnd v1
(aIdx 3 (f.r 42) (f.r 44) fun v2 =>
aLoad true 3 v2 h fun v3 =>
aAlloc [(vint 0),(vint 0),(vint 0)] h fun v4 h5 =>
aStore 3 v4 v3 h5 fun h6 =>
aLoad true 3 v4 h6 fun v7 =>
aLoad true 3 (f.r 4) h6 fun v8 =>
aBin prog .eql 30 v7 v8 fun v9 =>
cnd v9
(retL n0 K f.ds [(vint 4)] h6)
(aBin prog .add 3 (f.r 44) (vint 1) fun v10 =>
nx1 (RG.p (RG.p (RG.p (RG.p (RG.p (RG.p (RG.p (RG.p (RG.p f 45 v1) 46 v2) 47 v3) 6 v4) 48 v7) 49 v8) 50 v9) 51 v10) 44 v10) h6))
(aBin prog .add 3 (f.r 18) (vint 1) fun v11 =>
nx0 (RG.p (RG.p (RG.p f 45 v1) 52 v11) 18 v11) h)) := sub_eq pok18 ct18 (by kernel_rfl)
theorem l18_3 (hJ : Closed prog main J) {nx0 : RG → List AObj → Prop} {S : Type} (μ : S → Nat) (I : S → RG → List AObj → Prop) (hI : ∀ s f h,I s f h → heapOk h → n0 ≤ h.length → W prog J 53 n0 18 (subC [1,1,1,0,1,0,0,1,1,0,0,1,1,1,0,0] (codeOf f18)) f h (thenK (Nx n0 μ I s) (contX pl18 prog J 53 n0 18 ct18 [1,1,1,0,1,0,0,1,1,0,0,1,1,1,0] (codeOf f18) [nx0] (RetQ prog [.tmp 2] n0 K))))
 {s : S} {f : RG} (hi : Gets n0 I s f h) : Sem J 53 n0 18 (subC [1,1,1,0,1,0,0,1,1,0,0,1,1,1,0] (codeOf f18)) f h (contX pl18 prog J 53 n0 18 ct18 [1,1,1,0,1,0,0,1,1,0,0,1,1,1,0] (codeOf f18) [nx0] (RetQ prog [.tmp 2] n0 K)) :=
 loop_rule hJ mixed (b := subC [1,1,1,0,1,0,0,1,1,0,0,1,1,1,0,0] (codeOf f18)) (by kernel_rfl) μ I hI hi
theorem at36 : prog.funcs[36]? = some f36 := by kernel_rfl
theorem body36 : f36.body = some (codeOf f36) := by kernel_rfl
def pl36 : Plans := []
def ct36 : Cuts := .bin (.go) (.bin (.bin (.go) (.un (.bin (.go) (.bin (.go) (.bin (.go) (.bin (.go) (.bin (.bin (.go) (.cut (.go))) (.cut (.go))))))))) (.go))
theorem pok36 : plansOk prog pl36 (codeOf f36) = true := by kernel_rfl
theorem e36 {a0 a1 a2 : Value} : W prog J 42 h.length 36 (codeOf f36) (RG.mk (regs [a0,a1,a2]) []) h (RetQ prog [.tmp 6] h.length K) =
(aBox a0 h fun v1 h2 =>
aOff v1 0 fun v3 =>
aLoad false 1 v3 h2 fun v4 =>
aOff v1 0 fun v5 =>
aLoad false 1 v5 h2 fun v6 =>
Good prog J 35 [v6,(vint 0),(vint 255)] h2 fun v7 h8 =>
aUn .not v7 fun v9 =>
cnd v9
(retL h.length K [] [(vint 1)] h8)
(aLoad true 5 v1 h8 fun v10 =>
Good prog J 49 [v4,v10] h8 fun v11 h12 =>
aBin prog .neq 90 v11 v4 fun v13 =>
cnd v13
(retL h.length K [] [(vint 8)] h12)
(aOff v1 3 fun v14 =>
aLoad false 1 v14 h12 fun v15 =>
aBin prog .neq 3 v15 (vint (-1)) fun v16 =>
cnd v16
(aOff v1 3 fun v17 =>
aLoad false 1 v17 h12 fun v18 =>
Good prog J 35 [v18,(vint 0),a1] h12 fun v19 h20 =>
aUn .not v19 fun v21 =>
Hold (W prog J 42 h.length 36 (subC [1,0,1,0,1,1,1,1,0,1] (codeOf f36)) (RG.p (RG.p (RG.p (RG.p (RG.p (RG.p (RG.p (RG.p (RG.p (RG.p (RG.p (RG.p (RG.p (RG.p (RG.p (RG.p (RG.p (RG.p (RG.p (RG.p (RG.p (RG.p (RG.p (RG.p (RG.p (RG.p (RG.p (RG.p (RG.mk (regs [a0,a1,a2]) []) 3 v1) 6 (vint 0)) 8 v3) 9 v4) 7 v4) 11 v5) 12 v6) 13 v7) 14 v9) 10 v9) 16 v4) 17 v10) 18 v11) 19 v4) 20 v13) 15 v13) 22 v14) 23 v15) 24 v16) 25 v16) 25 (Value.bool true)) 26 v17) 27 v18) 28 a1) 29 v19) 30 v21) 31 v21) 21 v21) h20 (contX pl36 prog J 42 h.length 36 ct36 [1,0,1,0,1,1,1,1,0,1] (codeOf f36) [] (RetQ prog [.tmp 6] h.length K))))
(Hold (W prog J 42 h.length 36 (subC [1,0,1,0,1,1,1,1,0,1] (codeOf f36)) (RG.p (RG.p (RG.p (RG.p (RG.p (RG.p (RG.p (RG.p (RG.p (RG.p (RG.p (RG.p (RG.p (RG.p (RG.p (RG.p (RG.p (RG.p (RG.p (RG.p (RG.p (RG.p (RG.p (RG.p (RG.p (RG.p (RG.p (RG.p (RG.mk (regs [a0,a1,a2]) []) 3 v1) 6 (vint 0)) 8 v3) 9 v4) 7 v4) 11 v5) 12 v6) 13 v7) 14 v9) 10 v9) 16 v4) 17 v10) 18 v11) 19 v4) 20 v13) 15 v13) 22 v14) 23 v15) 24 v16) 25 v16) 25 (Value.bool false)) 26 undef) 27 undef) 28 undef) 29 undef) 30 undef) 31 (Value.bool false)) 21 (Value.bool false)) h12 (contX pl36 prog J 42 h.length 36 ct36 [1,0,1,0,1,1,1,1,0,1] (codeOf f36) [] (RetQ prog [.tmp 6] h.length K))))))) := top_eq pok36 ct36 (by kernel_rfl)
theorem g36 (hJ : Closed prog main J) {a0 a1 a2 : Value} (hs : heapOk h → W prog J 42 h.length 36 (codeOf f36) (RG.mk (regs [a0,a1,a2]) []) h (RetQ prog [.tmp 6] h.length K)) : Good prog J 36 [a0,a1,a2] h K :=
 good_of_W hJ mixed at36 body36 (by kernel_rfl) (Nat.le_of_ble_eq_true rfl) hs
theorem s36_1 {f : RG} : W prog J 42 n0 36 (subC [1,0,1,0,1,1,1,1,0,1] (codeOf f36)) f h (contX pl36 prog J 42 n0 36 ct36 [1,0,1,0,1,1,1,1,0,1] (codeOf f36) [] (RetQ prog [.tmp 6] n0 K)) =
(cnd (f.r 21)
(Hold (W prog J 42 n0 36 (subC [1,0,1,0,1,1,1,1,1] (codeOf f36)) f h (contX pl36 prog J 42 n0 36 ct36 [1,0,1,0,1,1,1,1,1] (codeOf f36) [] (RetQ prog [.tmp 6] n0 K))))
(aOff (f.r 3) 4 fun v1 =>
aLoad false 1 v1 h fun v2 =>
aBin prog .neq 3 v2 (vint (-1)) fun v3 =>
cnd v3
(aOff (f.r 3) 4 fun v4 =>
aLoad false 1 v4 h fun v5 =>
Good prog J 35 [v5,(vint 0),(f.r 2)] h fun v6 h7 =>
aUn .not v6 fun v8 =>
Hold (W prog J 42 n0 36 (subC [1,0,1,0,1,1,1,1,1] (codeOf f36)) (RG.p (RG.p (RG.p (RG.p (RG.p (RG.p (RG.p (RG.p (RG.p (RG.p (RG.p (RG.p f 32 v1) 33 v2) 34 v3) 35 v3) 35 (Value.bool true)) 36 v4) 37 v5) 38 (f.r 2)) 39 v6) 40 v8) 41 v8) 21 v8) h7 (contX pl36 prog J 42 n0 36 ct36 [1,0,1,0,1,1,1,1,1] (codeOf f36) [] (RetQ prog [.tmp 6] n0 K))))
(Hold (W prog J 42 n0 36 (subC [1,0,1,0,1,1,1,1,1] (codeOf f36)) (RG.p (RG.p (RG.p (RG.p (RG.p (RG.p (RG.p (RG.p (RG.p (RG.p (RG.p (RG.p f 32 v1) 33 v2) 34 v3) 35 v3) 35 (Value.bool false)) 36 undef) 37 undef) 38 undef) 39 undef) 40 undef) 41 (Value.bool false)) 21 (Value.bool false)) h (contX pl36 prog J 42 n0 36 ct36 [1,0,1,0,1,1,1,1,1] (codeOf f36) [] (RetQ prog [.tmp 6] n0 K)))))) := sub_eq pok36 ct36 (by kernel_rfl)
theorem s36_2 {f : RG} : W prog J 42 n0 36 (subC [1,0,1,0,1,1,1,1,1] (codeOf f36)) f h (contX pl36 prog J 42 n0 36 ct36 [1,0,1,0,1,1,1,1,1] (codeOf f36) [] (RetQ prog [.tmp 6] n0 K)) =
(cnd (f.r 21)
(retL n0 K f.ds [(vint 1)] h)
(retL n0 K f.ds [(vint 0)] h)) := sub_eq pok36 ct36 (by kernel_rfl)
theorem at19 : prog.funcs[19]? = some f19 := by kernel_rfl
theorem body19 : f19.body = some (codeOf f19) := by kernel_rfl
def pl19 : Plans := []
def ct19 : Cuts := .go
theorem pok19 : plansOk prog pl19 (codeOf f19) = true := by kernel_rfl
theorem e19 {a0 : Value} : W prog J 5 h.length 19 (codeOf f19) (RG.mk (regs [a0]) []) h (RetQ prog [.tmp 2] h.length K) =
(aBox a0 h fun v1 h2 =>
aLoad true 5 v1 h2 fun v3 =>
Good prog J 36 [v3,(vint 9),(vint 6)] h2 fun v4 h5 =>
retL h.length K [] [v4] h5) := top_eq pok19 ct19 (by kernel_rfl)
theorem g19 (hJ : Closed prog main J) {a0 : Value} (hs : heapOk h → W prog J 5 h.length 19 (codeOf f19) (RG.mk (regs [a0]) []) h (RetQ prog [.tmp 2] h.length K)) : Good prog J 19 [a0] h K :=
 good_of_W hJ mixed at19 body19 (by kernel_rfl) (Nat.le_of_ble_eq_true rfl) hs
theorem at21 : prog.funcs[21]? = some f21 := by kernel_rfl
theorem body21 : f21.body = some (codeOf f21) := by kernel_rfl
def pl21 : Plans := []
def ct21 : Cuts := .go
theorem pok21 : plansOk prog pl21 (codeOf f21) = true := by kernel_rfl
theorem e21 {a0 a1 : Value} : W prog J 22 h.length 21 (codeOf f21) (RG.mk (regs [a0,a1]) []) h (RetQ prog [.tmp 4] h.length K) =
(aBox a0 h fun v1 h2 =>
aLenS a1 fun v3 =>
Sem J 22 h.length 21 (subC [1,0,1,0] (codeOf f21)) (RG.p (RG.p (RG.p (RG.p (RG.p (RG.mk (regs [a0,a1]) []) 2 v1) 4 (vint 0)) 7 a1) 8 v3) 9 (vint 0)) h2 (contX pl21 prog J 22 h.length 21 ct21 [1,0,1,0] (codeOf f21) [] (RetQ prog [.tmp 4] h.length K))) := top_eq pok21 ct21 (by kernel_rfl)
theorem g21 (hJ : Closed prog main J) {a0 a1 : Value} (hs : heapOk h → W prog J 22 h.length 21 (codeOf f21) (RG.mk (regs [a0,a1]) []) h (RetQ prog [.tmp 4] h.length K)) : Good prog J 21 [a0,a1] h K :=
 good_of_W hJ mixed at21 body21 (by kernel_rfl) (Nat.le_of_ble_eq_true rfl) hs
theorem s21_1 {f : RG} {nx0 : RG → List AObj → Prop} : W prog J 22 n0 21 (subC [1,0,1,0,0] (codeOf f21)) f h (thenK nx0 (contX pl21 prog J 22 n0 21 ct21 [1,0,1,0] (codeOf f21) [] (RetQ prog [.tmp 4] n0 K))) =
(aBin prog .lss 3 (f.r 9) (f.r 8) fun v1 =>
cnd v1
(aIdx 1 (f.r 7) (f.r 9) fun v2 =>
aLoad false 1 v2 h fun v3 =>
aOff (f.r 2) 0 fun v4 =>
aOff v4 1 fun v5 =>
aLoad false 1 v5 h fun v6 =>
aLenS v6 fun v7 =>
aBin prog .sub 3 v7 (vint 1) fun v8 =>
Good prog J 35 [v3,(vint 0),v8] h fun v9 h10 =>
aUn .not v9 fun v11 =>
cnd v11
(retL n0 K f.ds [(vint 3)] h10)
(aBin prog .add 3 (f.r 9) (vint 1) fun v12 =>
nx0 (RG.p (RG.p (RG.p (RG.p (RG.p (RG.p (RG.p (RG.p (RG.p (RG.p (RG.p (RG.p (RG.p (RG.p f 10 v1) 11 v2) 12 v3) 6 v3) 13 v3) 14 v4) 15 v5) 16 v6) 17 v7) 18 v8) 19 v9) 20 v11) 21 v12) 9 v12) h10))
(retL n0 K f.ds [(vint 0)] h)) := sub_eq pok21 ct21 (by kernel_rfl)
theorem l21_1 (hJ : Closed prog main J) {S : Type} (μ : S → Nat) (I : S → RG → List AObj → Prop) (hI : ∀ s f h,I s f h → heapOk h → n0 ≤ h.length → W prog J 22 n0 21 (subC [1,0,1,0,0] (codeOf f21)) f h (thenK (Nx n0 μ I s) (contX pl21 prog J 22 n0 21 ct21 [1,0,1,0] (codeOf f21) [] (RetQ prog [.tmp 4] n0 K))))
 {s : S} {f : RG} (hi : Gets n0 I s f h) : Sem J 22 n0 21 (subC [1,0,1,0] (codeOf f21)) f h (contX pl21 prog J 22 n0 21 ct21 [1,0,1,0] (codeOf f21) [] (RetQ prog [.tmp 4] n0 K)) :=
 loop_rule hJ mixed (b := subC [1,0,1,0,0] (codeOf f21)) (by kernel_rfl) μ I hI hi
theorem at37 : prog.funcs[37]? = some f37 := by kernel_rfl
theorem body37 : f37.body = some (codeOf f37) := by kernel_rfl
def pl37 : Plans := [(3,false,.take 0 (.take 1 (.take 2 (.take 4 (.take 5 (.last 3 true (.take 6 (.take 7 (.fin))))))))),
 (4,false,.take 0 (.take 1 (.last 2 true (.take 3 (.take 4 (.take 5 (.take 6 (.take 9 (.take 10 (.take 11 (.last 7 true (.last 8 true (.take 12 (.take 13 (.take 14 (.fin))))))))))))))))]
def ct37 : Cuts := .bin (.go) (.bin (.bin (.go) (.cut (.go))) (.go))
theorem pok37 : plansOk prog pl37 (codeOf f37) = true := by kernel_rfl
theorem e37 {a0 a1 a2 : Value} : W prog J 51 h.length 37 (codeOf f37) (RG.mk (regs [a0,a1,a2]) []) h (RetQ prog [.tmp 6] h.length K) =
(aBox a0 h fun v1 h2 =>
aBox a1 h2 fun v3 h4 =>
aBox a2 h4 fun v5 h6 =>
aOff v3 3 fun v7 =>
aLoad false 1 v7 h6 fun v8 =>
aBin prog .neq 3 v8 (vint (-1)) fun v9 =>
cnd v9
(aOff v3 3 fun v10 =>
aLoad false 1 v10 h6 fun v11 =>
aOff v5 1 fun v12 =>
aLoad false 1 v12 h6 fun v13 =>
aBin prog .neq 3 v11 v13 fun v14 =>
cnd v14
(Hold (W prog J 51 h.length 37 (subC [1,0,1] (codeOf f37)) (RG.p (RG.p (RG.p (RG.p (RG.p (RG.p (RG.p (RG.p (RG.p (RG.p (RG.p (RG.p (RG.p (RG.p (RG.p (RG.p (RG.p (RG.p (RG.p (RG.p (RG.p (RG.p (RG.p (RG.p (RG.p (RG.p (RG.p (RG.p (RG.mk (regs [a0,a1,a2]) []) 3 v1) 4 v3) 5 v5) 6 (Value.bool false)) 9 v7) 10 v8) 11 v9) 12 v9) 12 (Value.bool true)) 13 v10) 14 v11) 15 v12) 16 v13) 17 v14) 18 v14) 19 v14) 19 (Value.bool true)) 20 undef) 21 undef) 22 undef) 23 undef) 24 undef) 25 undef) 26 undef) 27 undef) 28 undef) 29 undef) 30 (Value.bool true)) h6 (contX pl37 prog J 51 h.length 37 ct37 [1,0,1] (codeOf f37) [] (RetQ prog [.tmp 6] h.length K))))
(aOff v3 4 fun v15 =>
aLoad false 1 v15 h6 fun v16 =>
aBin prog .neq 3 v16 (vint (-1)) fun v17 =>
cnd v17
(aOff v3 4 fun v18 =>
aLoad false 1 v18 h6 fun v19 =>
aOff v5 2 fun v20 =>
aLoad false 1 v20 h6 fun v21 =>
aBin prog .neq 3 v19 v21 fun v22 =>
Hold (W prog J 51 h.length 37 (subC [1,0,1] (codeOf f37)) (RG.p (RG.p (RG.p (RG.p (RG.p (RG.p (RG.p (RG.p (RG.p (RG.p (RG.p (RG.p (RG.p (RG.p (RG.p (RG.p (RG.p (RG.p (RG.p (RG.p (RG.p (RG.p (RG.p (RG.p (RG.p (RG.p (RG.p (RG.p (RG.p (RG.mk (regs [a0,a1,a2]) []) 3 v1) 4 v3) 5 v5) 6 (Value.bool false)) 9 v7) 10 v8) 11 v9) 12 v9) 12 (Value.bool true)) 13 v10) 14 v11) 15 v12) 16 v13) 17 v14) 18 v14) 19 v14) 19 (Value.bool false)) 20 v15) 21 v16) 22 v17) 23 v17) 23 (Value.bool true)) 24 v18) 25 v19) 26 v20) 27 v21) 28 v22) 29 v22) 30 v22) h6 (contX pl37 prog J 51 h.length 37 ct37 [1,0,1] (codeOf f37) [] (RetQ prog [.tmp 6] h.length K))))
(Hold (W prog J 51 h.length 37 (subC [1,0,1] (codeOf f37)) (RG.p (RG.p (RG.p (RG.p (RG.p (RG.p (RG.p (RG.p (RG.p (RG.p (RG.p (RG.p (RG.p (RG.p (RG.p (RG.p (RG.p (RG.p (RG.p (RG.p (RG.p (RG.p (RG.p (RG.p (RG.p (RG.p (RG.p (RG.p (RG.p (RG.mk (regs [a0,a1,a2]) []) 3 v1) 4 v3) 5 v5) 6 (Value.bool false)) 9 v7) 10 v8) 11 v9) 12 v9) 12 (Value.bool true)) 13 v10) 14 v11) 15 v12) 16 v13) 17 v14) 18 v14) 19 v14) 19 (Value.bool false)) 20 v15) 21 v16) 22 v17) 23 v17) 23 (Value.bool false)) 24 undef) 25 undef) 26 undef) 27 undef) 28 undef) 29 (Value.bool false)) 30 (Value.bool false)) h6 (contX pl37 prog J 51 h.length 37 ct37 [1,0,1] (codeOf f37) [] (RetQ prog [.tmp 6] h.length K))))))
(aOff v3 4 fun v23 =>
aLoad false 1 v23 h6 fun v24 =>
aBin prog .neq 3 v24 (vint (-1)) fun v25 =>
cnd v25
(aOff v3 4 fun v26 =>
aLoad false 1 v26 h6 fun v27 =>
aOff v5 2 fun v28 =>
aLoad false 1 v28 h6 fun v29 =>
aBin prog .neq 3 v27 v29 fun v30 =>
Hold (W prog J 51 h.length 37 (subC [1,0,1] (codeOf f37)) (RG.p (RG.p (RG.p (RG.p (RG.p (RG.p (RG.p (RG.p (RG.p (RG.p (RG.p (RG.p (RG.p (RG.p (RG.p (RG.p (RG.p (RG.p (RG.p (RG.p (RG.p (RG.p (RG.p (RG.p (RG.p (RG.p (RG.p (RG.p (RG.p (RG.mk (regs [a0,a1,a2]) []) 3 v1) 4 v3) 5 v5) 6 (Value.bool false)) 9 v7) 10 v8) 11 v9) 12 v9) 12 (Value.bool false)) 13 undef) 14 undef) 15 undef) 16 undef) 17 undef) 18 (Value.bool false)) 19 (Value.bool false)) 19 (Value.bool false)) 20 v23) 21 v24) 22 v25) 23 v25) 23 (Value.bool true)) 24 v26) 25 v27) 26 v28) 27 v29) 28 v30) 29 v30) 30 v30) h6 (contX pl37 prog J 51 h.length 37 ct37 [1,0,1] (codeOf f37) [] (RetQ prog [.tmp 6] h.length K))))
(Hold (W prog J 51 h.length 37 (subC [1,0,1] (codeOf f37)) (RG.p (RG.p (RG.p (RG.p (RG.p (RG.p (RG.p (RG.p (RG.p (RG.p (RG.p (RG.p (RG.p (RG.p (RG.p (RG.p (RG.p (RG.p (RG.p (RG.p (RG.p (RG.p (RG.p (RG.p (RG.p (RG.p (RG.p (RG.p (RG.p (RG.mk (regs [a0,a1,a2]) []) 3 v1) 4 v3) 5 v5) 6 (Value.bool false)) 9 v7) 10 v8) 11 v9) 12 v9) 12 (Value.bool false)) 13 undef) 14 undef) 15 undef) 16 undef) 17 undef) 18 (Value.bool false)) 19 (Value.bool false)) 19 (Value.bool false)) 20 v23) 21 v24) 22 v25) 23 v25) 23 (Value.bool false)) 24 undef) 25 undef) 26 undef) 27 undef) 28 undef) 29 (Value.bool false)) 30 (Value.bool false)) h6 (contX pl37 prog J 51 h.length 37 ct37 [1,0,1] (codeOf f37) [] (RetQ prog [.tmp 6] h.length K)))))) := top_eq pok37 ct37 (by kernel_rfl)
theorem g37 (hJ : Closed prog main J) {a0 a1 a2 : Value} (hs : heapOk h → W prog J 51 h.length 37 (codeOf f37) (RG.mk (regs [a0,a1,a2]) []) h (RetQ prog [.tmp 6] h.length K)) : Good prog J 37 [a0,a1,a2] h K :=
 good_of_W hJ mixed at37 body37 (by kernel_rfl) (Nat.le_of_ble_eq_true rfl) hs
theorem s37_1 {f : RG} : W prog J 51 n0 37 (subC [1,0,1] (codeOf f37)) f h (contX pl37 prog J 51 n0 37 ct37 [1,0,1] (codeOf f37) [] (RetQ prog [.tmp 6] n0 K)) =
(cnd (f.r 30)
(retL n0 K f.ds [(Value.bool false)] h)
((∃ B,aOff (f.r 5) 0 fun v1 =>
aLoad false 1 v1 h fun v2 =>
RdOk (some B) (ptrBlk v1) ∧ (aLoad true 5 (f.r 4) h fun v3 =>
RdOk (some B) (ptrBlk (f.r 4)) ∧ (aOff (f.r 4) 0 fun v4 =>
aLoad false 1 v4 h fun v5 =>
RdOk (some B) (ptrBlk v4) ∧ (Good prog J 49 [v2,v3] h fun v6 h7 =>
SameB (some B) h h7 ∧ ((∃ B,Good prog J 38 [v6,v5] h7 fun v8 h9 =>
SameB (some B) h7 h9 ∧ (aBin prog .eql 90 v8 (vint 0) fun v10 =>
cnd v10
(aOff (f.r 3) 0 fun v11 =>
aOff v11 0 fun v12 =>
aLoad false 1 v12 h9 fun v13 =>
RdOk (some B) (ptrBlk v12) ∧ (Good prog J 38 [v5,v6] h9 fun v14 h15 =>
SameB (some B) h7 h15 ∧ (Good prog J 39 [v14] h15 fun v16 h17 =>
SameB (some B) h7 h17 ∧ (aBin prog .leq 3 v16 v13 fun v18 =>
retL n0 K f.ds [v18] h17))))
(retL n0 K f.ds [(Value.bool false)] h9)))))))))) := sub_eq pok37 ct37 (by kernel_rfl)
theorem at20 : prog.funcs[20]? = some f20 := by kernel_rfl
theorem body20 : f20.body = some (codeOf f20) := by kernel_rfl
def pl20 : Plans := []
def ct20 : Cuts := .go
theorem pok20 : plansOk prog pl20 (codeOf f20) = true := by kernel_rfl
theorem e20 {a0 a1 : Value} : W prog J 27 h.length 20 (codeOf f20) (RG.mk (regs [a0,a1]) []) h (RetQ prog [.tmp 4] h.length K) =
(aBox a0 h fun v1 h2 =>
aBox a1 h2 fun v3 h4 =>
aOff v1 0 fun v5 =>
aOff v5 1 fun v6 =>
aLoad false 1 v6 h4 fun v7 =>
aLenS v7 fun v8 =>
Sem J 27 h.length 20 (subC [1,1,0,1,0] (codeOf f20)) (RG.p (RG.p (RG.p (RG.p (RG.p (RG.p (RG.p (RG.p (RG.p (RG.mk (regs [a0,a1]) []) 2 v1) 3 v3) 4 (Value.slice none 0 0)) 5 (Value.slice none 0 0)) 8 v5) 9 v6) 10 v7) 11 v8) 12 (vint 0)) h4 (contX pl20 prog J 27 h.length 20 ct20 [1,1,0,1,0] (codeOf f20) [] (RetQ prog [.tmp 4] h.length K))) := top_eq pok20 ct20 (by kernel_rfl)
theorem g20 (hJ : Closed prog main J) {a0 a1 : Value} (hs : heapOk h → W prog J 27 h.length 20 (codeOf f20) (RG.mk (regs [a0,a1]) []) h (RetQ prog [.tmp 4] h.length K)) : Good prog J 20 [a0,a1] h K :=
 good_of_W hJ mixed at20 body20 (by kernel_rfl) (Nat.le_of_ble_eq_true rfl) hs
theorem s20_1 {f : RG} {nx0 : RG → List AObj → Prop} : W prog J 27 n0 20 (subC [1,1,0,1,0,0] (codeOf f20)) f h (thenK nx0 (contX pl20 prog J 27 n0 20 ct20 [1,1,0,1,0] (codeOf f20) [] (RetQ prog [.tmp 4] n0 K))) =
(aBin prog .lss 3 (f.r 12) (f.r 11) fun v1 =>
cnd v1
(aIdx 3 (f.r 10) (f.r 12) fun v2 =>
aLoad true 3 v2 h fun v3 =>
aAlloc [(vint 0),(vint 0),(vint 0)] h fun v4 h5 =>
aStore 3 v4 v3 h5 fun h6 =>
aLoad true 2 (f.r 2) h6 fun v7 =>
aLoad true 5 (f.r 3) h6 fun v8 =>
aLoad true 3 v4 h6 fun v9 =>
Good prog J 37 [v7,v8,v9] h6 fun v10 h11 =>
cnd v10
((((1 * 1 : Nat) ≤ 16777216 ∧ (1 : Nat) ≤ 16777216 ∧ List.length [(vint 0)] = 1) ∧ aFill (zrep [(vint 0)] 1) [(0,1,(f.r 12))] fun c12 =>
aNewS 1 c12 h11 fun v13 h14 =>
((List.length [(vint 0)] = 1 ∧ 0 < (1 : Nat) ∧ 0 < (8 : Nat) ∧ (8 : Nat) ≤ 1024) ∧ aApp 1 (f.r 5) v13 h14 fun v15 h16 =>
aBin prog .add 3 (f.r 12) (vint 1) fun v17 =>
nx0 (RG.p (RG.p (RG.p (RG.p (RG.p (RG.p (RG.p (RG.p (RG.p (RG.p (RG.p (RG.p (RG.p (RG.p (RG.p (RG.p (RG.p f 13 v1) 14 (f.r 12)) 15 v2) 16 v3) 7 v4) 6 (f.r 12)) 17 v7) 18 v8) 19 v9) 20 v10) 21 (f.r 5)) 22 (f.r 12)) 23 v13) 24 v15) 5 v15) 25 v17) 12 v17) h16)))
(aBin prog .add 3 (f.r 12) (vint 1) fun v18 =>
nx0 (RG.p (RG.p (RG.p (RG.p (RG.p (RG.p (RG.p (RG.p (RG.p (RG.p (RG.p (RG.p f 13 v1) 14 (f.r 12)) 15 v2) 16 v3) 7 v4) 6 (f.r 12)) 17 v7) 18 v8) 19 v9) 20 v10) 25 v18) 12 v18) h11))
(retL n0 K f.ds [(f.r 5)] h)) := sub_eq pok20 ct20 (by kernel_rfl)
theorem l20_1 (hJ : Closed prog main J) {S : Type} (μ : S → Nat) (I : S → RG → List AObj → Prop) (hI : ∀ s f h,I s f h → heapOk h → n0 ≤ h.length → W prog J 27 n0 20 (subC [1,1,0,1,0,0] (codeOf f20)) f h (thenK (Nx n0 μ I s) (contX pl20 prog J 27 n0 20 ct20 [1,1,0,1,0] (codeOf f20) [] (RetQ prog [.tmp 4] n0 K))))
 {s : S} {f : RG} (hi : Gets n0 I s f h) : Sem J 27 n0 20 (subC [1,1,0,1,0] (codeOf f20)) f h (contX pl20 prog J 27 n0 20 ct20 [1,1,0,1,0] (codeOf f20) [] (RetQ prog [.tmp 4] n0 K)) :=
 loop_rule hJ mixed (b := subC [1,1,0,1,0,0] (codeOf f20)) (by kernel_rfl) μ I hI hi
theorem at6 : prog.funcs[6]? = some f6 := by kernel_rfl
theorem body6 : f6.body = some (codeOf f6) := by kernel_rfl
def pl6 : Plans := []
def ct6 : Cuts := .go
theorem pok6 : plansOk prog pl6 (codeOf f6) = true := by kernel_rfl
theorem e6 {a0 a1 : Value} : W prog J 22 h.length 6 (codeOf f6) (RG.mk (regs [a0,a1]) []) h (RetQ prog [.tmp 4,.tmp 5] h.length K) =
(aBox a0 h fun v1 h2 =>
aBox a1 h2 fun v3 h4 =>
aLoad true 2 v1 h4 fun v5 =>
Good prog J 18 [v5] h4 fun v6 h7 =>
aBin prog .neq 33 v6 (vint 0) fun v8 =>
cnd v8
(retL h.length K [] [(Value.slice none 0 0),v6] h7)
(aLoad true 5 v3 h7 fun v9 =>
Good prog J 19 [v9] h7 fun v10 h11 =>
aBin prog .neq 33 v10 (vint 0) fun v12 =>
cnd v12
(retL h.length K [] [(Value.slice none 0 0),v10] h11)
(aLoad true 2 v1 h11 fun v13 =>
aFill [(vint 0),(Value.slice none 0 0)] [(0,2,v13)] fun c14 =>
aLoad true 5 v3 h11 fun v15 =>
Good prog J 20 [(Value.agg ⟨c14⟩),v15] h11 fun v16 h17 =>
retL h.length K [] [v16,(vint 0)] h17))) := top_eq pok6 ct6 (by kernel_rfl)
theorem g6 (hJ : Closed prog main J) {a0 a1 : Value} (hs : heapOk h → W prog J 22 h.length 6 (codeOf f6) (RG.mk (regs [a0,a1]) []) h (RetQ prog [.tmp 4,.tmp 5] h.length K)) : Good prog J 6 [a0,a1] h K :=
 good_of_W hJ mixed at6 body6 (by kernel_rfl) (Nat.le_of_ble_eq_true rfl) hs
theorem at22 : prog.funcs[22]? = some f22 := by kernel_rfl
theorem body22 : f22.body = some (codeOf f22) := by kernel_rfl
def pl22 : Plans := []
def ct22 : Cuts := .bin (.go) (.bin (.go) (.bin (.go) (.bin (.bin (.go) (.cut (.go))) (.bin (.go) (.bin (.go) (.cut (.go)))))))
theorem pok22 : plansOk prog pl22 (codeOf f22) = true := by kernel_rfl
theorem e22 {a0 a1 : Value} : W prog J 50 h.length 22 (codeOf f22) (RG.mk (regs [a0,a1]) []) h (RetQ prog [.tmp 4] h.length K) =
(aBox a0 h fun v1 h2 =>
aBox a1 h2 fun v3 h4 =>
aLoad true 3 v1 h4 fun v5 =>
aLoad true 3 v3 h4 fun v6 =>
aBin prog .eql 30 v5 v6 fun v7 =>
cnd v7
(retL h.length K [] [(vint 0)] h4)
(aOff v3 0 fun v8 =>
aLoad false 1 v8 h4 fun v9 =>
aOff v1 0 fun v10 =>
aLoad false 1 v10 h4 fun v11 =>
Good prog J 38 [v9,v11] h4 fun v12 h13 =>
aOff v1 0 fun v14 =>
aLoad false 1 v14 h13 fun v15 =>
aOff v3 0 fun v16 =>
aLoad false 1 v16 h13 fun v17 =>
Good prog J 38 [v15,v17] h13 fun v18 h19 =>
aBin prog .neq 90 v18 (vint 0) fun v20 =>
cnd v20
(Hold (W prog J 50 h.length 22 (subC [1,1,1,0,1] (codeOf f22)) (RG.p (RG.p (RG.p (RG.p (RG.p (RG.p (RG.p (RG.p (RG.p (RG.p (RG.p (RG.p (RG.p (RG.p (RG.p (RG.p (RG.p (RG.p (RG.p (RG.p (RG.p (RG.p (RG.p (RG.p (RG.p (RG.p (RG.p (RG.p (RG.p (RG.p (RG.p (RG.mk (regs [a0,a1]) []) 2 v1) 3 v3) 4 (vint 0)) 7 v5) 8 v6) 9 v7) 10 v8) 11 v9) 12 v10) 13 v11) 14 v12) 5 v12) 15 v14) 16 v15) 17 v16) 18 v17) 19 v18) 20 v20) 21 v20) 21 (Value.bool true)) 22 undef) 23 undef) 24 undef) 25 undef) 26 undef) 27 undef) 28 undef) 29 undef) 30 undef) 31 undef) 32 (Value.bool true)) h19 (contX pl22 prog J 50 h.length 22 ct22 [1,1,1,0,1] (codeOf f22) [] (RetQ prog [.tmp 4] h.length K))))
(aOff v1 1 fun v21 =>
aLoad false 1 v21 h19 fun v22 =>
aBin prog .neq 3 v22 (vint 0) fun v23 =>
cnd v23
(aOff v1 1 fun v24 =>
aLoad false 1 v24 h19 fun v25 =>
aOff v3 1 fun v26 =>
aLoad false 1 v26 h19 fun v27 =>
aBin prog .neq 3 v25 v27 fun v28 =>
Hold (W prog J 50 h.length 22 (subC [1,1,1,0,1] (codeOf f22)) (RG.p (RG.p (RG.p (RG.p (RG.p (RG.p (RG.p (RG.p (RG.p (RG.p (RG.p (RG.p (RG.p (RG.p (RG.p (RG.p (RG.p (RG.p (RG.p (RG.p (RG.p (RG.p (RG.p (RG.p (RG.p (RG.p (RG.p (RG.p (RG.p (RG.p (RG.p (RG.p (RG.mk (regs [a0,a1]) []) 2 v1) 3 v3) 4 (vint 0)) 7 v5) 8 v6) 9 v7) 10 v8) 11 v9) 12 v10) 13 v11) 14 v12) 5 v12) 15 v14) 16 v15) 17 v16) 18 v17) 19 v18) 20 v20) 21 v20) 21 (Value.bool false)) 22 v21) 23 v22) 24 v23) 25 v23) 25 (Value.bool true)) 26 v24) 27 v25) 28 v26) 29 v27) 30 v28) 31 v28) 32 v28) h19 (contX pl22 prog J 50 h.length 22 ct22 [1,1,1,0,1] (codeOf f22) [] (RetQ prog [.tmp 4] h.length K))))
(Hold (W prog J 50 h.length 22 (subC [1,1,1,0,1] (codeOf f22)) (RG.p (RG.p (RG.p (RG.p (RG.p (RG.p (RG.p (RG.p (RG.p (RG.p (RG.p (RG.p (RG.p (RG.p (RG.p (RG.p (RG.p (RG.p (RG.p (RG.p (RG.p (RG.p (RG.p (RG.p (RG.p (RG.p (RG.p (RG.p (RG.p (RG.p (RG.p (RG.p (RG.mk (regs [a0,a1]) []) 2 v1) 3 v3) 4 (vint 0)) 7 v5) 8 v6) 9 v7) 10 v8) 11 v9) 12 v10) 13 v11) 14 v12) 5 v12) 15 v14) 16 v15) 17 v16) 18 v17) 19 v18) 20 v20) 21 v20) 21 (Value.bool false)) 22 v21) 23 v22) 24 v23) 25 v23) 25 (Value.bool false)) 26 undef) 27 undef) 28 undef) 29 undef) 30 undef) 31 (Value.bool false)) 32 (Value.bool false)) h19 (contX pl22 prog J 50 h.length 22 ct22 [1,1,1,0,1] (codeOf f22) [] (RetQ prog [.tmp 4] h.length K))))))) := top_eq pok22 ct22 (by kernel_rfl)
theorem g22 (hJ : Closed prog main J) {a0 a1 : Value} (hs : heapOk h → W prog J 50 h.length 22 (codeOf f22) (RG.mk (regs [a0,a1]) []) h (RetQ prog [.tmp 4] h.length K)) : Good prog J 22 [a0,a1] h K :=
 good_of_W hJ mixed at22 body22 (by kernel_rfl) (Nat.le_of_ble_eq_true rfl) hs
theorem s22_1 {f : RG} : W prog J 50 n0 22 (subC [1,1,1,0,1] (codeOf f22)) f h (contX pl22 prog J 50 n0 22 ct22 [1,1,1,0,1] (codeOf f22) [] (RetQ prog [.tmp 4] n0 K)) =
(cnd (f.r 32)
(retL n0 K f.ds [(vint (-1))] h)
(Good prog J 39 [(f.r 5)] h fun v1 h2 =>
aOff (f.r 2) 1 fun v3 =>
aLoad false 1 v3 h2 fun v4 =>
aOff (f.r 3) 1 fun v5 =>
aLoad false 1 v5 h2 fun v6 =>
aBin prog .neq 3 v4 v6 fun v7 =>
cnd v7
(aBin prog .add 3 v1 (vint 1) fun v8 =>
Hold (W prog J 50 n0 22 (subC [1,1,1,1,1,1] (codeOf f22)) (RG.p (RG.p (RG.p (RG.p (RG.p (RG.p (RG.p (RG.p (RG.p (RG.p (RG.p f 33 (f.r 5)) 34 v1) 6 v1) 35 v3) 36 v4) 37 v5) 38 v6) 39 v7) 40 v1) 41 v8) 6 v8) h2 (contX pl22 prog J 50 n0 22 ct22 [1,1,1,1,1,1] (codeOf f22) [] (RetQ prog [.tmp 4] n0 K))))
(Hold (W prog J 50 n0 22 (subC [1,1,1,1,1,1] (codeOf f22)) (RG.p (RG.p (RG.p (RG.p (RG.p (RG.p (RG.p (RG.p f 33 (f.r 5)) 34 v1) 6 v1) 35 v3) 36 v4) 37 v5) 38 v6) 39 v7) h2 (contX pl22 prog J 50 n0 22 ct22 [1,1,1,1,1,1] (codeOf f22) [] (RetQ prog [.tmp 4] n0 K)))))) := sub_eq pok22 ct22 (by kernel_rfl)
theorem s22_2 {f : RG} : W prog J 50 n0 22 (subC [1,1,1,1,1,1] (codeOf f22)) f h (contX pl22 prog J 50 n0 22 ct22 [1,1,1,1,1,1] (codeOf f22) [] (RetQ prog [.tmp 4] n0 K)) =
(aOff (f.r 2) 2 fun v1 =>
aLoad false 1 v1 h fun v2 =>
aOff (f.r 3) 2 fun v3 =>
aLoad false 1 v3 h fun v4 =>
aBin prog .neq 3 v2 v4 fun v5 =>
cnd v5
(aBin prog .add 3 (f.r 6) (vint 1) fun v6 =>
retL n0 K f.ds [v6] h)
(retL n0 K f.ds [(f.r 6)] h)) := sub_eq pok22 ct22 (by kernel_rfl)
theorem at8 : prog.funcs[8]? = some f8 := by kernel_rfl
theorem body8 : f8.body = some (codeOf f8) := by kernel_rfl
def pl8 : Plans := [(7,false,.take 0 (.take 1 (.take 2 (.take 3 (.take 4 (.take 5 (.take 6 (.take 7 (.take 8 (.take 9 (.last 10 true (.take 11 (.fin)))))))))))))]
def ct8 : Cuts := .go
theorem pok8 : plansOk prog pl8 (codeOf f8) = true := by kernel_rfl
theorem e8 {a0 a1 a2 : Value} : W prog J 39 h.length 8 (codeOf f8) (RG.mk (regs [a0,a1,a2]) []) h (RetQ prog [.tmp 6,.tmp 7] h.length K) =
(aBox a0 h fun v1 h2 =>
aLoad true 2 v1 h2 fun v3 =>
Good prog J 18 [v3] h2 fun v4 h5 =>
aBin prog .neq 33 v4 (vint 0) fun v6 =>
cnd v6
(retL h.length K [] [(vint 0),v4] h5)
(aLoad true 2 v1 h5 fun v7 =>
aFill [(vint 0),(Value.slice none 0 0)] [(0,2,v7)] fun c8 =>
(((2 * 1 : Nat) ≤ 16777216 ∧ (2 : Nat) ≤ 16777216 ∧ List.length [(vint 0)] = 1) ∧ aFill (zrep [(vint 0)] 2) [(0,1,a1),(1,1,a2)] fun c9 =>
aNewS 2 c9 h5 fun v10 h11 =>
Good prog J 21 [(Value.agg ⟨c8⟩),v10] h11 fun v12 h13 =>
aBin prog .neq 33 v12 (vint 0) fun v14 =>
cnd v14
(retL h.length K [] [(vint 0),v12] h13)
((∃ B,aOff v1 1 fun v15 =>
aLoad false 1 v15 h13 fun v16 =>
RdOk (some B) (ptrBlk v15) ∧ (aIdx 3 v16 a1 fun v17 =>
aLoad true 3 v17 h13 fun v18 =>
RdOk (some B) (ptrBlk v17) ∧ (aOff v1 1 fun v19 =>
aLoad false 1 v19 h13 fun v20 =>
RdOk (some B) (ptrBlk v19) ∧ (aIdx 3 v20 a2 fun v21 =>
aLoad true 3 v21 h13 fun v22 =>
RdOk (some B) (ptrBlk v21) ∧ (Good prog J 22 [v18,v22] h13 fun v23 h24 =>
SameB (some B) h13 h24 ∧ (aBin prog .lss 3 v23 (vint 0) fun v25 =>
cnd v25
(retL h.length K [] [(vint 0),(vint 11)] h24)
(retL h.length K [] [v23,(vint 0)] h24))))))))))) := top_eq pok8 ct8 (by kernel_rfl)
theorem g8 (hJ : Closed prog main J) {a0 a1 a2 : Value} (hs : heapOk h → W prog J 39 h.length 8 (codeOf f8) (RG.mk (regs [a0,a1,a2]) []) h (RetQ prog [.tmp 6,.tmp 7] h.length K)) : Good prog J 8 [a0,a1,a2] h K :=
 good_of_W hJ mixed at8 body8 (by kernel_rfl) (Nat.le_of_ble_eq_true rfl) hs
end
section
variable {main : Bool} {J : JT} {n0 : Nat} {h : List AObj} {K : Value → List AObj → Prop}
theorem at59 : prog.funcs[59]? = some f59 := by kernel_rfl
theorem body59 : f59.body = some (codeOf f59) := by kernel_rfl
def pl59 : Plans := []
def ct59 : Cuts := .go
theorem pok59 : plansOk prog pl59 (codeOf f59) = true := by kernel_rfl
theorem e59 {a0 : Value} : W prog J 35 h.length 59 (codeOf f59) (RG.mk (regs [a0]) []) h (RetQ prog [.tmp 2] h.length K) =
(aBin prog .shr 56 a0 (Value.int .u64 1) fun v1 =>
aBin prog .and 56 v1 (Value.int .u64 6148914691236517205) fun v2 =>
aBin prog .and 56 a0 (Value.int .u64 6148914691236517205) fun v3 =>
aBin prog .add 56 v2 v3 fun v4 =>
aBin prog .shr 56 v4 (Value.int .u64 2) fun v5 =>
aBin prog .and 56 v5 (Value.int .u64 3689348814741910323) fun v6 =>
aBin prog .and 56 v4 (Value.int .u64 3689348814741910323) fun v7 =>
aBin prog .add 56 v6 v7 fun v8 =>
aBin prog .shr 56 v8 (Value.int .u64 4) fun v9 =>
aBin prog .add 56 v9 v8 fun v10 =>
aBin prog .and 56 v10 (Value.int .u64 1085102592571150095) fun v11 =>
aBin prog .shr 56 v11 (Value.int .u64 8) fun v12 =>
aBin prog .add 56 v11 v12 fun v13 =>
aBin prog .shr 56 v13 (Value.int .u64 16) fun v14 =>
aBin prog .add 56 v13 v14 fun v15 =>
aBin prog .shr 56 v15 (Value.int .u64 32) fun v16 =>
aBin prog .add 56 v15 v16 fun v17 =>
aConvI .i64 v17 fun v18 =>
aBin prog .and 3 v18 (vint 127) fun v19 =>
retL h.length K [] [v19] h) := top_eq pok59 ct59 (by kernel_rfl)
theorem g59 (hJ : Closed prog main J) {a0 : Value} (hs : heapOk h → W prog J 35 h.length 59 (codeOf f59) (RG.mk (regs [a0]) []) h (RetQ prog [.tmp 2] h.length K)) : Good prog J 59 [a0] h K :=
 good_of_W hJ mixed at59 body59 (by kernel_rfl) (Nat.le_of_ble_eq_true rfl) hs
theorem at34 : prog.funcs[34]? = some f34 := by kernel_rfl
theorem body34 : f34.body = some (codeOf f34) := by kernel_rfl
def pl34 : Plans := []
def ct34 : Cuts := .go
theorem pok34 : plansOk prog pl34 (codeOf f34) = true := by kernel_rfl
theorem e34 {a0 a1 a2 : Value} : W prog J 13 h.length 34 (codeOf f34) (RG.mk (regs [a0,a1,a2]) []) h (RetQ prog [.tmp 6] h.length K) =
(aBin prog .sub 3 a2 (vint 1) fun v1 =>
Good prog J 15 [a0,v1] h fun v2 h3 =>
aBin prog .lss 3 v2 a1 fun v4 =>
retL h.length K [] [v4] h3) := top_eq pok34 ct34 (by kernel_rfl)
theorem g34 (hJ : Closed prog main J) {a0 a1 a2 : Value} (hs : heapOk h → W prog J 13 h.length 34 (codeOf f34) (RG.mk (regs [a0,a1,a2]) []) h (RetQ prog [.tmp 6] h.length K)) : Good prog J 34 [a0,a1,a2] h K :=
 good_of_W hJ mixed at34 body34 (by kernel_rfl) (Nat.le_of_ble_eq_true rfl) hs
end
end Go.Proofs.Ytkbfhelfnagccaa
namespace Go.Proofs.Ytkbfhelfnagccaa
open Go.Conc Go.Proofs.Try
set_option maxRecDepth 100000
section
variable {main : Bool} {J : JT} {n0 : Nat} {h H : List AObj} {K : Value → List AObj → Prop} {KV : Value → Prop} {HL : List AObj → Prop}
theorem eqlT {KV : Value → Prop} {a b : Int} {t : TypeId} (h : a = b) (hk : KV (.bool true)) : aBin prog .eql t (vint a) (vint b) KV := eqlI (by rw [decide_eq_true h]; exact hk)
theorem eqlF {KV : Value → Prop} {a b : Int} {t : TypeId} (h : a ≠ b) (hk : KV (.bool false)) : aBin prog .eql t (vint a) (vint b) KV := eqlI (by rw [decide_eq_false h]; exact hk)
theorem neqF {KV : Value → Prop} {a b : Int} {t : TypeId} (h : a = b) (hk : KV (.bool false)) : aBin prog .neq t (vint a) (vint b) KV := neqI (by rw [decide_eq_false (not_not_intro h)]; exact hk)
theorem neqT {KV : Value → Prop} {a b : Int} {t : TypeId} (h : a ≠ b) (hk : KV (.bool true)) : aBin prog .neq t (vint a) (vint b) KV := neqI (by rw [decide_eq_true h]; exact hk)
theorem gtrF {KV : Value → Prop} {a b : Int} {t : TypeId} (h : ¬ a > b) (hk : KV (.bool false)) : aBin prog .gtr t (vint a) (vint b) KV := gtrI (by rw [decide_eq_false h]; exact hk)
theorem geqF {KV : Value → Prop} {a b : Int} {t : TypeId} (h : ¬ a ≥ b) (hk : KV (.bool false)) : aBin prog .geq t (vint a) (vint b) KV := geqI (by rw [decide_eq_false h]; exact hk)
theorem lssF {KV : Value → Prop} {a b : Int} {t : TypeId} (h : ¬ a < b) (hk : KV (.bool false)) : aBin prog .lss t (vint a) (vint b) KV := lssI (by rw [decide_eq_false h]; exact hk)
theorem sli1 {h : List AObj} {v : Value} {s n : Nat} {cs : List Value} (hs : Sli h v s n cs) : v.cells = #[v] ∧ one v = true ∧ kn1 v = true := by
 obtain ⟨_,_,rfl,_⟩ := hs
 exact ⟨rfl,rfl,rfl⟩
theorem fillA {c l : List Value} {off s : Nat} {ps : List (Nat × Nat × Value)} {KL : List Value → Prop} (h1 : l.length = s) (h2 : l.all one = true) (ho : off + s ≤ c.length) (hk : aFill (wrAt c off l) ps KL) : aFill c ((off,s,.agg ⟨l⟩) :: ps) KL :=
 ⟨h1,h2,ho,hk⟩
theorem fillV {c : List Value} {off : Nat} {v : Value} {ps : List (Nat × Nat × Value)} {KL : List Value → Prop} (h1 : v.cells = #[v]) (h2 : one v = true) (ho : off + 1 ≤ c.length) (hk : aFill (wrAt c off [v]) ps KL) : aFill c ((off,1,v) :: ps) KL := by
 refine ⟨by rw [h1]; rfl,by rw [h1]; simp [h2],ho,?_⟩
 rw [h1]
 exact hk
theorem elemE {α : Type} {v : Value} {s : Nat} {enc : α → List Value} {xs : List α} (hen : ∀ x,(enc x).length = s) (hpos : 0 < s) (hs : SliE H v s enc xs) {i : Nat} (hi : i < xs.length) {K2 : Value → Value → Prop} (hK : ∀ p,K2 p (.agg ⟨enc xs[i]⟩)) : aIdx s v (vint (i : Nat)) fun p => aLoad true s p H (K2 p) := by
 obtain ⟨b,o,cs,wr,sz,hidx,hb,hos,htk,hkn⟩ := sliE_elem hen hpos hs hi
 exact hidx _ (load_part hb hos htk hkn (hK _))
theorem sl2E {s : Nat} {cs : List Value} {len k : Nat} {v : Value} {o : Option Nat} {KV : Value → Prop} (O : OwnX H s cs len v o) (h0 : 0 < s) (hk : k ≤ len) (hl : len < 1000000) (hn : 0 < len) (hK : ∀ v',Sli H v' s k (cs.take (k * s)) → KV v') : aSl2 s v none (some (vint (k : Nat))) H KV := by
 obtain ⟨h1,h2,⟨h3,_⟩ | ⟨i',c,sz,hi,rfl,h5,h6⟩⟩ := O
 ·omega
 have hle : k * s ≤ len * s := Nat.mul_le_mul_right s hk
 have hkn : kn (cs.take (k * s)) = true := by
  unfold kn at h2 ⊢
  rw [List.all_eq_true] at h2 ⊢
  exact fun x hx => h2 x (List.mem_of_mem_take hx)
 have hb : bnd len (some (vint (k : Nat))) = some k := by
  show (bif decide (0 ≤ (k : Int)) then some (k : Int).toNat else none) = some k
  rw [decide_eq_true (by omega)]
  simp
 have hs : ∀ o c,o = 0 → Sli H (.slice (some ⟨i',o,none⟩) (k - 0) c) s k (cs.take (k * s)) := fun o c ho => by
  subst ho
  refine ⟨_,_,rfl,⟨by simp; omega,hkn⟩,.inr ⟨i',0,rfl,.inr ⟨cs,true,sz,h5,?_⟩⟩⟩
  rw [List.drop_zero]
 have hfz : (1000000 : Nat) < fz := by decide
 unfold aSl2
 dsimp only
 rw [hb]
 refine ⟨Nat.zero_le _,fun hc => ⟨?_,?_⟩,fun hc => ?_⟩
 ·rcases h6 with ⟨rfl,_⟩ | rfl
  ·exact absurd hc (Nat.lt_irrefl _)
  ·omega
 ·refine hK _ (hs _ _ ?_)
  cases Nat.beq c 0 <;> simp
 ·rcases h6 with ⟨rfl,rfl⟩ | rfl
  ·rw [h5]
   exact ⟨⟨rfl,rfl,h0,by omega,.inl rfl⟩,hK _ (hs _ _ (by omega))⟩
  ·omega
theorem flat_pre {α : Type} {enc : α → List Value} {s : Nat} (hen : ∀ x,(enc x).length = s) : ∀ (xs : List α) (k : Nat),k ≤ xs.length → (xs.flatMap enc).take (k * s) = (xs.take k).flatMap enc
 | [],k,hk => by simp at hk; subst hk; simp
 | x :: xs,0,_ => by simp
 | x :: xs,k + 1,hk => by
  have ih := flat_pre hen xs k (by simpa using hk)
  rw [List.flatMap_cons,List.take_succ_cons,List.flatMap_cons,← ih,Nat.succ_mul,Nat.add_comm,List.take_append]
  rw [hen x,List.take_of_length_le (by rw [hen]; omega)]
  congr 2
  omega
theorem sbX {X B : List Nat} (S : SameX X h H) (hB : ∀ p ∈ B,p < h.length ∧ p ∉ X) : SameB (some B) h H := fun b hb => by
 exact S.2 b (hB b hb).1 (hB b hb).2
end
structure Mrk where
 n : Int
 b : Int
 p : Int
 deriving DecidableEq
structure Sgt where
 n : Int
 b : Int
 p : Int
 deriving DecidableEq
def Mrk.cells (m : Mrk) : List Value := [vint m.n,vint m.b,vint m.p]
def Sgt.cells (s : Sgt) : List Value := [vint s.n,.bool false,.bool false,vint s.b,vint s.p]
structure MrkOk (m : Mrk) : Prop where
 n : 0 ≤ m.n ∧ m.n ≤ 255
 b : 0 ≤ m.b ∧ m.b ≤ 9
 p : 0 ≤ m.p ∧ m.p ≤ 6
structure SgtOk (s : Sgt) : Prop where
 n : 0 ≤ s.n ∧ s.n ≤ 255
 b : s.b = -1 ∨ (0 ≤ s.b ∧ s.b ≤ 9)
 p : s.p = -1 ∨ (0 ≤ s.p ∧ s.p ≤ 6)
structure RegOk (t : Int) (ms : List Mrk) : Prop where
 t : 0 ≤ t ∧ t ≤ 2
 len : ms.length ≤ 5
 each : ∀ m ∈ ms,MrkOk m
 twice : ∀ (i j : Nat) x y,j < i → ms[i]? = some x → ms[j]? = some y → x ≠ y
def andN (a b : Int) : Int := IntKind.i64.wrap (BitVec.ofInt 64 a &&& ~~~ BitVec.ofInt 64 b).toNat
theorem andN_self (a : Int) : andN a a = 0 := by
 unfold andN
 rw [BitVec.and_not_self]
 rfl
def uAnd (a b : Int) : Int := IntKind.u64.wrap (BitVec.ofInt 64 a &&& BitVec.ofInt 64 b).toNat
def uAdd (a b : Int) : Int := IntKind.u64.wrap (a + b)
def uShr (a : Int) (i : Nat) : Int := a.fdiv (2 ^ min i 64)
def last7 (a : Int) : Int := IntKind.i64.wrap (BitVec.ofInt 64 (IntKind.i64.wrap a) &&& BitVec.ofInt 64 127).toNat
def cnt64 (x : Int) : Int :=
 let a := uAdd (uAnd (uShr x 1) 6148914691236517205) (uAnd x 6148914691236517205)
 let b := uAdd (uAnd (uShr a 2) 3689348814741910323) (uAnd a 3689348814741910323)
 let c := uAnd (uAdd (uShr b 4) b) 1085102592571150095
 let d := uAdd c (uShr c 8)
 let e := uAdd d (uShr d 16)
 last7 (uAdd e (uShr e 32))
def cntR (n : Int) : Int := cnt64 (IntKind.u64.wrap n)
theorem last7_bd (a : Int) : 0 ≤ last7 a ∧ last7 a ≤ 127 := by
 unfold last7
 have h1 : (BitVec.ofInt 64 (IntKind.i64.wrap a) &&& BitVec.ofInt 64 127).toNat ≤ 127 := by
  rw [BitVec.toNat_and]
  exact Nat.le_trans Nat.and_le_right (by decide)
 generalize (BitVec.ofInt 64 (IntKind.i64.wrap a) &&& BitVec.ofInt 64 127).toNat = n at h1 ⊢
 rw [wrap64 (by omega) (by omega)]
 omega
theorem cntR_bd (n : Int) : 0 ≤ cntR n ∧ cntR n ≤ 127 := last7_bd _
theorem cntR_zero : cntR 0 = 0 := by decide +kernel
def fitsB (t : Int) (s : Sgt) (m : Mrk) : Bool :=
 if (s.b ≠ -1 ∧ s.b ≠ m.b) ∨ (s.p ≠ -1 ∧ s.p ≠ m.p) then false else if andN m.n s.n = 0 then decide (cntR (andN s.n m.n) ≤ t) else false
def mayT (t : Int) (s : Sgt) (ms : List Mrk) (k : Nat) : List Nat := (List.range k).filter fun i => match ms[i]? with
 | some m => fitsB t s m
 | none => false
def mayL (t : Int) (s : Sgt) (ms : List Mrk) : List Nat := mayT t s ms ms.length
theorem mayT_succ {t : Int} {s : Sgt} {ms : List Mrk} {k : Nat} {m : Mrk} (h : ms[k]? = some m) : mayT t s ms (k + 1) = mayT t s ms k ++ if fitsB t s m = true then [k] else [] := by
 unfold mayT
 rw [List.range_succ,List.filter_append]
 congr 1
 simp only [List.filter_cons,h,List.filter_nil]
theorem mem_mayL {t : Int} {s : Sgt} {ms : List Mrk} {k : Nat} : k ∈ mayL t s ms ↔ ∃ m,ms[k]? = some m ∧ fitsB t s m = true := by
 unfold mayL mayT
 rw [List.mem_filter,List.mem_range]
 constructor
 ·rintro ⟨h1,h2⟩
  rw [List.getElem?_eq_getElem h1] at h2 ⊢
  exact ⟨_,rfl,h2⟩
 ·rintro ⟨m,h1,h2⟩
  rw [h1]
  exact ⟨(List.getElem?_eq_some_iff.1 h1).1,h2⟩
theorem mayT_len (t : Int) (s : Sgt) (ms : List Mrk) (k : Nat) : (mayT t s ms k).length ≤ k := by
 unfold mayT
 exact Nat.le_trans (List.length_filter_le _ _) (by simp)
def forgeN (x y : Mrk) : Int :=
 if x = y then 0 else if andN x.n y.n ≠ 0 ∨ (x.b ≠ 0 ∧ x.b ≠ y.b) then -1 else cntR (andN y.n x.n) + (if x.b ≠ y.b then 1 else 0) + (if x.p ≠ y.p then 1 else 0)
def natsV (l : List Nat) : List Value := l.map fun i => vint (i : Nat)
theorem natsV_ints (l : List Nat) : natsV l = (l.map fun i : Nat => (i : Int)).map vint := by simp [natsV]
def mB (x y : Option Bool) : Option Bool := match x with
 | some true => y
 | some false => some false
 | none => none
theorem mB_some (a b : Bool) : mB (some a) (some b) = some (a && b) := by cases a <;> rfl
theorem teqM (x y : Mrk) : teq prog 10000 30 (.agg ⟨x.cells⟩) (.agg ⟨y.cells⟩) = mB (some (x.n == y.n)) (mB (some (x.b == y.b)) (mB (some (x.p == y.p)) (some true))) := by kernel_rfl
def MksAt (H : List AObj) (v : Value) (ms : List Mrk) : Prop := ∃ o,OwnX H 3 (ms.flatMap Mrk.cells) ms.length v o
theorem MksAt.sli {H : List AObj} {v : Value} {ms : List Mrk} (a : MksAt H v ms) : SliE H v 3 Mrk.cells ms := a.elim fun _ O => ownX_sli O
theorem MksAt.same {H H' : List AObj} {v : Value} {ms : List Mrk} (a : MksAt H v ms) (S : SameX [] H H') : MksAt H' v ms := a.imp fun _ O => ownX_keep O S (by simp)
section
variable {main : Bool} {J : JT} {n0 : Nat} {h H : List AObj} {K : Value → List AObj → Prop} {KV : Value → Prop} {HL : List AObj → Prop}
theorem andNI {t : TypeId} {a b : Int} (hk : KV (vint (andN a b))) : aBin prog .andNot t (vint a) (vint b) KV := ⟨rfl,hk⟩
theorem uAndI {t : TypeId} {a b : Int} (hk : KV (.int .u64 (uAnd a b))) : aBin prog .and t (.int .u64 a) (.int .u64 b) KV := ⟨rfl,hk⟩
theorem uAddI {t : TypeId} {a b : Int} (hk : KV (.int .u64 (uAdd a b))) : aBin prog .add t (.int .u64 a) (.int .u64 b) KV := ⟨rfl,hk⟩
theorem uShrI {t : TypeId} {a : Int} {i : Nat} (hk : KV (.int .u64 (uShr a i))) : aBin prog .shr t (.int .u64 a) (.int .u64 i) KV := ⟨by omega,hk⟩
theorem eqlM {x y : Mrk} (hk : KV (.bool (decide (x = y)))) : aBin prog .eql 30 (.agg ⟨x.cells⟩) (.agg ⟨y.cells⟩) KV := by
 show aEq prog false 30 (.agg ⟨x.cells⟩) (.agg ⟨y.cells⟩) KV
 unfold aEq
 rw [teqM,mB_some,mB_some,mB_some]
 refine ⟨by kernel_rfl,?_⟩
 have : (x.n == y.n && (x.b == y.b && (x.p == y.p && true))) = decide (x = y) := by
  rw [Bool.eq_iff_iff]
  simp only [Bool.and_eq_true,beq_iff_eq,decide_eq_true_eq,and_true]
  obtain ⟨a,b,c⟩ := x
  obtain ⟨d,e,f⟩ := y
  simp
 simp only [cond_false]
 rw [this]
 exact hk
theorem good35 (hJ : Closed prog main J) {n lo hi : Int} (hK : K (.bool (decide (lo ≤ n ∧ n ≤ hi))) H) : Good prog J 35 [vint n,vint lo,vint hi] H K := by
 refine g35 hJ fun ok => ?_
 rw [e35]
 refine leqI (cndI (fun h1 => leqI (retL_same (by simp [unk]) ?_)) fun h1 => retL_same (by simp [unk]) ?_)
 ·rw [decide_eq_decide.2 (show lo ≤ n ∧ n ≤ hi ↔ n ≤ hi from ⟨fun h => h.2,fun h => ⟨h1,h⟩⟩)] at hK
  exact hK
 ·rw [decide_eq_false fun h => h1 h.1] at hK
  exact hK
theorem btwT (hJ : Closed prog main J) {n lo hi : Int} (h : lo ≤ n ∧ n ≤ hi) (hK : K (.bool true) H) : Good prog J 35 [vint n,vint lo,vint hi] H K := good35 hJ (by rw [decide_eq_true h]; exact hK)
theorem good38 (hJ : Closed prog main J) {a b : Int} (hK : K (vint (andN a b)) H) : Good prog J 38 [vint a,vint b] H K := by
 refine g38 hJ fun ok => ?_
 rw [e38]
 exact andNI (retL_same (by simp [unk]) hK)
theorem good59 (hJ : Closed prog main J) {x : Int} (hK : K (vint (cnt64 x)) H) : Good prog J 59 [.int .u64 x] H K := by
 refine g59 hJ fun ok => ?_
 rw [e59]
 refine uShrI (i := 1) (uAndI (uAndI (uAddI (uShrI (i := 2) (uAndI (uAndI (uAddI (uShrI (i := 4) (uAddI (uAndI (uShrI (i := 8) (uAddI (uShrI (i := 16) (uAddI (uShrI (i := 32) (uAddI ?_))))))))))))))))
 exact ⟨rfl,retL_same (by simp [unk]) hK⟩
theorem good50 (hJ : Closed prog main J) {x : Int} (hK : K (vint (cnt64 x)) H) : Good prog J 50 [.int .u64 x] H K := by
 refine g50 hJ fun ok => ?_
 rw [e50]
 exact good59 hJ (retL_same (by simp [unk]) hK)
theorem good39 (hJ : Closed prog main J) {x : Int} (hK : K (vint (cntR x)) H) : Good prog J 39 [vint x] H K := by
 refine g39 hJ fun ok => ?_
 rw [e39]
 show Good prog J 50 [.int .u64 (IntKind.u64.wrap x)] _ _
 exact good50 hJ (retL_same (by simp [unk]) hK)
theorem good49 (hJ : Closed prog main J) {n : Int} {s : Sgt} (hK : ∀ H',SameX [] H H' → K (vint n) H') : Good prog J 49 [vint n,.agg ⟨s.cells⟩] H K := by
 refine g49 hJ fun ok => ?_
 rw [e49]
 refine qBox (l := s.cells) rfl fun H1 p1 e1 S1 c1 l1 => offI (ldI (v := .bool false) c1 rfl rfl (cnd_false.2 (hold.2 ?_)))
 rw [s49_1]
 exact offI (ldI (v := .bool false) c1 rfl rfl (cnd_false.2 (retL_same (vs := [vint n]) (by simp [unk]) (hK H1 S1))))
theorem good18 (hJ : Closed prog main J) {t : Int} {ms : List Mrk} {mv : Value} (hm : MksAt H mv ms) (ok : RegOk t ms) (hK : ∀ H',SameX [] H H' → K (vint 0) H') : Good prog J 18 [.agg ⟨[vint t,mv]⟩] H K := by
 refine g18 hJ fun okh => ?_
 rw [e18]
 have kk := sli1 hm.sli
 have hl := ok.len
 refine qBox (l := [vint t,mv]) (by simp [kk.2.1]; exact rfl) fun H1 p1 e1 S1 c1 l1 => ?_
 have m1 := hm.same S1
 refine offI (ldI (v := vint t) c1 rfl rfl (btwT hJ ok.t (notI (cnd_false.2 (offI (ldI (v := mv) c1 rfl kk.2.2 (lenI m1.sli (gtrF (by omega) (cnd_false.2 (offI (ldI (v := mv) c1 rfl kk.2.2 (lenI m1.sli ?_))))))))))))
 have hp1 := lt_of_get c1
 refine l18_1 hJ (fun k : Nat => ms.length - k) (fun k F H' => k ≤ ms.length ∧ SameX [] H1 H' ∧ F.ds = [] ∧ F.r 1 = ptr p1 0 ∧ F.r 16 = mv ∧ F.r 17 = vint (ms.length : Nat) ∧ F.r 18 = vint (k : Nat)) ?_ (s := 0)
  (.inl ⟨by omega,SameX.refl,rfl,rfl,rfl,rfl,rfl⟩)
 rintro k F H' ⟨hk,S,ds,r1,r16,r17,r18⟩ okc hnc
 rw [s18_1,r16,r17,r18,ds]
 refine lssI (cndI (fun hlt => ?_) fun hge => retL_same (by simp [unk]) (hK H' (S1.trans S)))
 have hkl : k < ms.length := by omega
 obtain ⟨o1,o2,o3⟩ := ok.each _ (List.getElem_mem hkl)
 refine elemE (enc := Mrk.cells) (fun _ => rfl) (by decide) (m1.same S).sli hkl fun q => ?_
 have hget : ms[k]? = some ms[k] := List.getElem?_eq_getElem hkl
 generalize ms[k] = x at *
 refine qAl fun H2 p2 e2 S2 c2 l2 => qStA (c := x.cells) c2 rfl rfl rfl fun H3 S3 c3 l3 => ?_
 have T3 : SameX [] H1 H3 := (S.trans S2).thru S3 (by have := S.1; simp; omega)
 have d1 := T3.get c1 (by simp)
 have t3 := m1.same T3
 refine offI (ldI (v := vint x.n) c3 rfl rfl (btwT hJ o1 (notI (cnd_false.2 (offI (ldI (v := vint x.b) c3 rfl rfl (btwT hJ o2 (notI (cnd_false.2 (offI (ldI (v := vint x.p) c3 rfl rfl (btwT hJ o3 (notI (hold.2 ?_))))))))))))))
 rw [s18_2]
 refine cnd_false.2 ?_
 show aOff (F.r 1) _ _
 rw [r1]
 refine offI (ldI (v := mv) d1 rfl kk.2.2 ?_)
 obtain ⟨o,O⟩ := t3
 refine sl2E O (by decide) hk (by omega) (by omega) fun w hw => ?_
 rw [flat_pre (enc := Mrk.cells) (s := 3) (fun _ => rfl) _ _ hk] at hw
 have hw : SliE H3 w 3 Mrk.cells (ms.take k) := by
  unfold SliE
  rw [List.length_take,Nat.min_eq_left hk]
  exact hw
 rw [sliE_len hw,List.length_take,Nat.min_eq_left hk]
 refine l18_3 hJ (fun j : Nat => k - j) (fun j F' H'' => j ≤ k ∧ SameX [] H3 H'' ∧ F'.ds = [] ∧ F'.r 1 = ptr p1 0 ∧ F'.r 16 = mv ∧ F'.r 17 = vint (ms.length : Nat) ∧ F'.r 18 = vint (k : Nat) ∧ F'.r 4 = ptr p2 0 ∧ F'.r 42 = w ∧ F'.r 43 = vint (k : Nat) ∧ F'.r 44 = vint (j : Nat)) ?_ (s := 0)
  (.inl ⟨by omega,SameX.refl,ds,r1,r16,r17,r18,rfl,rfl,rfl,rfl⟩)
 clear ds r1 r16 r17 r18
 rintro j F' H'' ⟨hj,S',ds,r1,r16,r17,r18,r4,r42,r43,r44⟩ okc' hnc'
 rw [s18_3,r4,r42,r43,r44,r18]
 refine lssI (cndI (fun hlt2 => ?_) fun hge => addI (by omega) ⟨k + 1,by dsimp only; omega,.inl ⟨by omega,T3.trans S',ds,r1,r16,r17,by show vint _ = vint _; congr 1⟩⟩)
 have hjk : j < (ms.take k).length := by rw [List.length_take]; omega
 refine elemE (enc := Mrk.cells) (fun _ => rfl) (by decide) (S'.sli hw (by simp)) hjk fun q2 => ?_
 have hgj : ms[j]? = some (ms.take k)[j] := by
  rw [List.getElem_take]
  exact List.getElem?_eq_getElem (by omega)
 have hap := ok.twice k j _ _ (by omega) hget hgj
 generalize (ms.take k)[j] = y at *
 refine qAl fun H4 p4 e4 S4 c4 l4 => qStA (c := y.cells) c4 rfl rfl rfl fun H5 S5 c5 l5 => ?_
 have T5 : SameX [] H3 H5 := (S'.trans S4).thru S5 (by have := S'.1; simp; omega)
 have c3' := T5.get c3 (by simp)
 refine load_part (c := y.cells) c5 (by simp [Mrk.cells]) rfl rfl (load_part (c := x.cells) c3' (by simp [Mrk.cells]) rfl rfl (eqlM ?_))
 rw [decide_eq_false fun e => hap e.symm]
 exact cnd_false.2 (addI (by omega) ⟨j + 1,by dsimp only; omega,.inl ⟨by omega,T5,ds,r1,r16,r17,r18,r4,r42,r43,by show vint _ = vint _; congr 1⟩⟩)
end
section
variable {main : Bool} {J : JT} {n0 : Nat} {h H : List AObj} {K : Value → List AObj → Prop} {KV : Value → Prop} {HL : List AObj → Prop}
theorem seeR (hJ : Closed prog main J) {s : Sgt} (ok : SgtOk s) {f : RG} {p : Nat} (c : H[p]? = some (.cells s.cells true 0)) (ds : f.ds = []) (r2 : f.r 2 = vint 6) (r3 : f.r 3 = ptr p 0) (r21 : f.r 21 = .bool false) (hK : K (vint 0) H) :
  W prog J 42 n0 36 (subC [1,0,1,0,1,1,1,1,0,1] (codeOf f36)) f H (contX pl36 prog J 42 n0 36 ct36 [1,0,1,0,1,1,1,1,0,1] (codeOf f36) [] (RetQ prog [.tmp 6] n0 K)) := by
 rw [s36_1,r21,r3,r2]
 refine cnd_false.2 (offI (ldI (v := vint s.p) c rfl rfl (neqI (cndI (fun h => ?_) fun h => hold.2 ?_))))
 ·refine offI (ldI (v := vint s.p) c rfl rfl (btwT hJ (by have := ok.p; omega) (notI (hold.2 ?_))))
  rw [s36_2]
  refine cnd_false.2 ?_
  show retL n0 K f.ds _ _
  rw [ds]
  exact retL_same (by simp [unk]) hK
 ·rw [s36_2]
  refine cnd_false.2 ?_
  show retL n0 K f.ds _ _
  rw [ds]
  exact retL_same (by simp [unk]) hK
theorem good36 (hJ : Closed prog main J) {s : Sgt} (ok : SgtOk s) (hK : ∀ H',SameX [] H H' → K (vint 0) H') : Good prog J 36 [.agg ⟨s.cells⟩,vint 9,vint 6] H K := by
 refine g36 hJ fun okh => ?_
 rw [e36]
 refine qBox (l := s.cells) rfl fun H1 p1 e1 S1 c1 l1 => offI (ldI (v := vint s.n) c1 rfl rfl (offI (ldI (v := vint s.n) c1 rfl rfl (btwT hJ ok.n (notI (cnd_false.2 ?_))))))
 refine load_part (c := s.cells) c1 (by simp [Sgt.cells]) rfl rfl (good49 hJ fun H2 S2 => neqF rfl (cnd_false.2 ?_))
 have c2 := S2.get c1 (by simp)
 refine offI (ldI (v := vint s.b) c2 rfl rfl (neqI (cndI (fun h => ?_) fun h => hold.2 ?_)))
 ·refine offI (ldI (v := vint s.b) c2 rfl rfl (btwT hJ (by have := ok.b; omega) (notI (hold.2 ?_))))
  exact seeR hJ ok c2 rfl rfl rfl rfl (hK H2 (S1.trans S2))
 ·exact seeR hJ ok c2 rfl rfl rfl rfl (hK H2 (S1.trans S2))
theorem good19 (hJ : Closed prog main J) {s : Sgt} (ok : SgtOk s) (hK : ∀ H',SameX [] H H' → K (vint 0) H') : Good prog J 19 [.agg ⟨s.cells⟩] H K := by
 refine g19 hJ fun okh => ?_
 rw [e19]
 refine qBox (l := s.cells) rfl fun H1 p1 e1 S1 c1 l1 => load_part (c := s.cells) c1 (by simp [Sgt.cells]) rfl rfl ?_
 exact good36 hJ ok fun H2 S2 => retL_same (by simp [unk]) (hK H2 (S1.trans S2))
def badS (s : Sgt) (m : Mrk) : Prop := (s.b ≠ -1 ∧ s.b ≠ m.b) ∨ (s.p ≠ -1 ∧ s.p ≠ m.p)
instance (s : Sgt) (m : Mrk) : Decidable (badS s m) := by unfold badS; infer_instance
theorem fitJ (hJ : Closed prog main J) {t : Int} {mv : Value} {s : Sgt} {m : Mrk} (km : kn1 mv = true) {f : RG} {p3 p4 p5 : Nat} (c3 : H[p3]? = some (.cells [vint t,mv] true 0)) (c4 : H[p4]? = some (.cells s.cells true 0)) (c5 : H[p5]? = some (.cells m.cells true 0))
  (ds : f.ds = []) (r3 : f.r 3 = ptr p3 0) (r4 : f.r 4 = ptr p4 0) (r5 : f.r 5 = ptr p5 0) (r30 : f.r 30 = .bool (decide (badS s m))) (hK : ∀ H',SameX [] H H' → K (.bool (fitsB t s m)) H') :
  W prog J 51 n0 37 (subC [1,0,1] (codeOf f37)) f H (contX pl37 prog J 51 n0 37 ct37 [1,0,1] (codeOf f37) [] (RetQ prog [.tmp 6] n0 K)) := by
 rw [s37_1,r30,r3,r4,r5,ds]
 have e : fitsB t s m = if badS s m then false else if andN m.n s.n = 0 then decide (cntR (andN s.n m.n) ≤ t) else false := rfl
 rw [e] at hK
 have l3 := lt_of_get c3
 have l4 := lt_of_get c4
 have l5 := lt_of_get c5
 refine cndI (fun hb => ?_) fun hb => ?_
 ·rw [if_pos hb] at hK
  exact retL_same (by simp [unk]) (hK H SameX.refl)
 rw [if_neg hb] at hK
 refine ⟨[p5,p4,p3],offI (ldI (v := vint m.n) c5 rfl rfl ⟨by simp [RdOk,ptrBlk],load_part (c := s.cells) c4 (by simp [Sgt.cells]) rfl rfl ⟨by simp [RdOk,ptrBlk],offI (ldI (v := vint s.n) c4 rfl rfl ⟨by simp [RdOk,ptrBlk],good49 hJ fun H2 S2 => ⟨?_,?_⟩⟩)⟩⟩)⟩
 ·exact sbX S2 (by simp; omega)
 have d3 := S2.get c3 (by simp)
 have k3 := lt_of_get d3
 refine ⟨[p3],good38 hJ ⟨fun _ _ => rfl,eqlI (cndI (fun h0 => ?_) fun h0 => ?_)⟩⟩
 ·rw [if_pos h0] at hK
  refine offI (offI (ldI (v := vint t) d3 rfl rfl ⟨by simp [RdOk,ptrBlk],good38 hJ ⟨fun _ _ => rfl,good39 hJ ⟨fun _ _ => rfl,leqI (retL_same (by simp [unk]) (hK H2 S2))⟩⟩⟩))
 ·rw [if_neg h0] at hK
  exact retL_same (by simp [unk]) (hK H2 S2)
theorem good37 (hJ : Closed prog main J) {t : Int} {mv : Value} {s : Sgt} {m : Mrk} (km : one mv = true ∧ kn1 mv = true) (hK : ∀ H',SameX [] H H' → K (.bool (fitsB t s m)) H') : Good prog J 37 [.agg ⟨[vint t,mv]⟩,.agg ⟨s.cells⟩,.agg ⟨m.cells⟩] H K := by
 refine g37 hJ fun okh => ?_
 rw [e37]
 refine qBox (l := [vint t,mv]) (by simp [km.1]; exact rfl) fun H1 p1 e1 S1 c1 l1 => qBox (l := s.cells) rfl fun H2 p2 e2 S2 c2 l2 => qBox (l := m.cells) rfl fun H3 p3 e3 S3 c3 l3 => ?_
 have d1 := S3.get (S2.get c1 (by simp)) (by simp)
 have d2 := S3.get c2 (by simp)
 have T := (S1.trans S2).trans S3
 have go : ∀ {f : RG},f.ds = [] → f.r 3 = ptr p1 0 → f.r 4 = ptr p2 0 → f.r 5 = ptr p3 0 → f.r 30 = .bool (decide (badS s m)) → W prog J 51 H.length 37 (subC [1,0,1] (codeOf f37)) f H3 (contX pl37 prog J 51 H.length 37 ct37 [1,0,1] (codeOf f37) [] (RetQ prog [.tmp 6] H.length K)) :=
  fun ds r3 r4 r5 r30 => fitJ hJ km.2 d1 d2 c3 ds r3 r4 r5 r30 fun H' S' => hK H' (T.trans S')
 have tail : ∀ (hb : ¬ (s.b ≠ -1 ∧ s.b ≠ m.b)),badS s m ↔ (s.p ≠ -1 ∧ s.p ≠ m.p) := fun hb => ⟨fun h => h.elim (fun h => absurd h hb) id,.inr⟩
 refine offI (ldI (v := vint s.b) d2 rfl rfl (neqI (cndI (fun hb => ?_) fun hb => ?_)))
 ·refine offI (ldI (v := vint s.b) d2 rfl rfl (offI (ldI (v := vint m.b) c3 rfl rfl (neqI (cndI (fun hb2 => hold.2 ?_) fun hb2 => ?_)))))
  ·exact go rfl rfl rfl rfl (by rw [decide_eq_true (show badS s m from .inl ⟨hb,hb2⟩)]; rfl)
  ·have tl := tail fun h => hb2 h.2
   refine offI (ldI (v := vint s.p) d2 rfl rfl (neqI (cndI (fun hp => ?_) fun hp => hold.2 ?_)))
   ·refine offI (ldI (v := vint s.p) d2 rfl rfl (offI (ldI (v := vint m.p) c3 rfl rfl (neqI (hold.2 ?_)))))
    exact go rfl rfl rfl rfl (by rw [decide_eq_decide.2 (tl.trans ⟨fun h => h.2,fun h => ⟨hp,h⟩⟩)]; rfl)
   ·exact go rfl rfl rfl rfl (by rw [decide_eq_false fun h => hp (tl.1 h).1]; rfl)
 ·have tl := tail fun h => hb h.1
  refine offI (ldI (v := vint s.p) d2 rfl rfl (neqI (cndI (fun hp => ?_) fun hp => hold.2 ?_)))
  ·refine offI (ldI (v := vint s.p) d2 rfl rfl (offI (ldI (v := vint m.p) c3 rfl rfl (neqI (hold.2 ?_)))))
   exact go rfl rfl rfl rfl (by rw [decide_eq_decide.2 (tl.trans ⟨fun h => h.2,fun h => ⟨hp,h⟩⟩)]; rfl)
  ·exact go rfl rfl rfl rfl (by rw [decide_eq_false fun h => hp (tl.1 h).1]; rfl)
theorem good20 (hJ : Closed prog main J) {t : Int} {ms : List Mrk} {mv : Value} {s : Sgt} (hm : MksAt H mv ms) (hl : ms.length ≤ 5) (hK : ∀ v o H',SameX [] H H' → OwnX H' 1 (natsV (mayL t s ms)) (mayL t s ms).length v o → K v H') : Good prog J 20 [.agg ⟨[vint t,mv]⟩,.agg ⟨s.cells⟩] H K := by
 refine g20 hJ fun okh => ?_
 rw [e20]
 have kk := sli1 hm.sli
 refine qBox (l := [vint t,mv]) (by simp [kk.2.1]; exact rfl) fun H1 p1 e1 S1 c1 l1 => qBox (l := s.cells) rfl fun H2 p2 e2 S2 c2 l2 => ?_
 have T2 := S1.trans S2
 have d1 := S2.get c1 (by simp)
 have m2 := hm.same T2
 refine offI (offI (ldI (v := mv) d1 rfl kk.2.2 (lenI m2.sli ?_)))
 refine l20_1 hJ (fun k : Nat => ms.length - k) (fun k F H' => ∃ v o,k ≤ ms.length ∧ SameX [] H2 H' ∧ OwnX H' 1 (natsV (mayT t s ms k)) (mayT t s ms k).length v o ∧ (∀ i,o = some i → H2.length ≤ i) ∧ F.ds = [] ∧ F.r 2 = ptr p1 0 ∧ F.r 3 = ptr p2 0 ∧ F.r 5 = v ∧ F.r 10 = mv ∧ F.r 11 = vint (ms.length : Nat) ∧ F.r 12 = vint (k : Nat)) ?_ (s := 0)
  (.inl ⟨.slice none 0 0,none,by omega,SameX.refl,⟨rfl,rfl,.inl ⟨rfl,rfl,rfl⟩⟩,by simp,rfl,rfl,rfl,rfl,rfl,rfl,rfl⟩)
 rintro k F H' ⟨v,o,hk,S,O,ho,ds,r2,r3,r5,r10,r11,r12⟩ okc hnc
 rw [s20_1,r2,r3,r5,r10,r11,r12,ds]
 refine lssI (cndI (fun hlt => ?_) fun hge => ?_)
 rotate_left
 ·have : k = ms.length := by omega
  subst this
  exact retL_same (vs := [v]) (by simpa using ownU O) (hK v o H' (T2.trans S) O)
 have hkl : k < ms.length := by omega
 refine elemE (enc := Mrk.cells) (fun _ => rfl) (by decide) (m2.same S).sli hkl fun q => ?_
 have hget : ms[k]? = some ms[k] := List.getElem?_eq_getElem hkl
 have hsc := mayT_succ (t := t) (s := s) hget
 generalize ms[k] = x at *
 refine qAl fun H3 p3 e3 S3 c3 l3 => qStA (c := x.cells) c3 rfl rfl rfl fun H4 S4 c4 l4 => ?_
 have T4 : SameX [] H2 H4 := (S.trans S3).thru S4 (by have := S.1; simp; omega)
 have O4 : OwnX H4 1 (natsV (mayT t s ms k)) (mayT t s ms k).length v o := ownX_keep (ownX_keep O S3 (by simp)) S4 fun i hi => by
  have := ownX_lt O i hi
  simp
  omega
 refine load_part (c := [vint t,mv]) (T4.get d1 (by simp)) (by simp) rfl (by simp [kn,kk.2.2]; exact rfl) (load_part (c := s.cells) (T4.get c2 (by simp)) (by simp [Sgt.cells]) rfl rfl (load_part (c := x.cells) c4 (by simp [Mrk.cells]) rfl rfl ?_))
 refine good37 hJ kk.2 fun H5 S5 => ?_
 have T5 := T4.trans S5
 have O5 := ownX_keep O4 S5 (by simp)
 refine cndB (fun hy => ?_) fun hn => ?_
 ·rw [hy,if_pos rfl] at hsc
  refine ⟨⟨by decide,by decide,rfl⟩,fillV rfl rfl (by decide) (fillI (qNew fun H6 q e6 S6 c6 l6 => ?_))⟩
  have c6 : H6[q]? = some (.cells [vint (k : Nat)] true 0) := c6
  have hlk := mayT_len t s ms k
  refine ⟨⟨rfl,by decide,by decide,by decide⟩,ownX_more (ownX_keep O5 S6 (by simp)) (by decide) (by omega) (ownX_sli (ownX_new (s := 1) (n := 1) (l := [vint (k : Nat)]) c6 rfl rfl)) fun v' H7 p7 e7 O7 S7 => ?_⟩
  refine addI (by omega) ⟨k + 1,by dsimp only; omega,.inl ⟨v',some p7,by omega,?_,?_,?_,ds,r2,r3,rfl,r10,r11,by show vint _ = vint _; congr 1⟩⟩
  ·exact (T5.trans S6).thru S7 fun i hi => .inr (ho i (Option.mem_toList.1 hi))
  ·rw [hsc]
   simpa [natsV] using O7
  ·intro i hi
   cases hi
   have := (T5.trans S6).1
   omega
 ·rw [hn,if_neg (by simp),List.append_nil] at hsc
  refine addI (by omega) ⟨k + 1,by dsimp only; omega,.inl ⟨v,o,by omega,T5,by rw [hsc]; exact O5,ho,ds,r2,r3,r5,r10,r11,by show vint _ = vint _; congr 1⟩⟩
theorem good6 (hJ : Closed prog main J) {t : Int} {ms : List Mrk} {mv : Value} {s : Sgt} (hm : MksAt H mv ms) (ok : RegOk t ms) (so : SgtOk s) (hK : ∀ v o H',SameX [] H H' → OwnX H' 1 (natsV (mayL t s ms)) (mayL t s ms).length v o → K (.tuple ⟨[v,vint 0]⟩) H') : Good prog J 6 [.agg ⟨[vint t,mv]⟩,.agg ⟨s.cells⟩] H K := by
 refine g6 hJ fun okh => ?_
 rw [e6]
 have kk := sli1 hm.sli
 refine qBox (l := [vint t,mv]) (by simp [kk.2.1]; exact rfl) fun H1 p1 e1 S1 c1 l1 => qBox (l := s.cells) rfl fun H2 p2 e2 S2 c2 l2 => ?_
 have T2 := S1.trans S2
 have d1 := S2.get c1 (by simp)
 have kt : kn [vint t,mv] = true := by simp [kn,kk.2.2]; exact rfl
 refine load_part (c := [vint t,mv]) d1 (by simp) rfl kt (good18 hJ (hm.same T2) ok fun H3 S3 => neqF rfl (cnd_false.2 ?_))
 refine load_part (c := s.cells) (S3.get c2 (by simp)) (by simp [Sgt.cells]) rfl rfl (good19 hJ so fun H4 S4 => neqF rfl (cnd_false.2 ?_))
 have T4 := (T2.trans S3).trans S4
 refine load_part (c := [vint t,mv]) (S4.get (S3.get d1 (by simp)) (by simp)) (by simp) rfl kt (fillA (l := [vint t,mv]) rfl (by simp [kk.2.1]; exact rfl) (by decide) (fillI ?_))
 refine load_part (c := s.cells) (S4.get (S3.get c2 (by simp)) (by simp)) (by simp [Sgt.cells]) rfl rfl ?_
 exact good20 hJ (hm.same T4) ok.len fun v o H5 S5 O5 => retL_same (nu2 (ownU O5) (by simp [unk])) (hK v o H5 (T4.trans S5) O5)
theorem frgR (hJ : Closed prog main J) {x y : Mrk} {f : RG} {p2 p3 : Nat} (c2 : H[p2]? = some (.cells x.cells true 0)) (c3 : H[p3]? = some (.cells y.cells true 0)) (ds : f.ds = []) (r2 : f.r 2 = ptr p2 0) (r3 : f.r 3 = ptr p3 0) (r5 : f.r 5 = vint (andN y.n x.n)) (r32 : f.r 32 = .bool (decide (andN x.n y.n ≠ 0 ∨ (x.b ≠ 0 ∧ x.b ≠ y.b)))) (hxy : x ≠ y) (hK : K (vint (forgeN x y)) H) :
  W prog J 50 n0 22 (subC [1,1,1,0,1] (codeOf f22)) f H (contX pl22 prog J 50 n0 22 ct22 [1,1,1,0,1] (codeOf f22) [] (RetQ prog [.tmp 4] n0 K)) := by
 rw [s22_1,r2,r3,r5,r32,ds]
 unfold forgeN at hK
 rw [if_neg hxy] at hK
 refine cndI (fun hb => ?_) fun hb => ?_
 ·rw [if_pos hb] at hK
  exact retL_same (by simp [unk]) hK
 rw [if_neg hb] at hK
 have cb := cntR_bd (andN y.n x.n)
 have last : ∀ {f : RG} {m : Int},f.ds = [] → f.r 2 = ptr p2 0 → f.r 3 = ptr p3 0 → f.r 6 = vint m → 0 ≤ m ∧ m ≤ 128 → K (vint (m + if x.p ≠ y.p then 1 else 0)) H →
   W prog J 50 n0 22 (subC [1,1,1,1,1,1] (codeOf f22)) f H (contX pl22 prog J 50 n0 22 ct22 [1,1,1,1,1,1] (codeOf f22) [] (RetQ prog [.tmp 4] n0 K)) := by
  intro f m ds r2 r3 r6 hm hk
  rw [s22_2,r2,r3,r6,ds]
  refine offI (ldI (v := vint x.p) c2 rfl rfl (offI (ldI (v := vint y.p) c3 rfl rfl (neqI (cndI (fun h => ?_) fun h => ?_)))))
  ·rw [if_pos h] at hk
   exact addI (by omega) (retL_same (by simp [unk]) hk)
  ·rw [if_neg h,Int.add_zero] at hk
   exact retL_same (by simp [unk]) hk
 refine good39 hJ (offI (ldI (v := vint x.b) c2 rfl rfl (offI (ldI (v := vint y.b) c3 rfl rfl (neqI (cndI (fun h => ?_) fun h => ?_))))))
 ·rw [if_pos h] at hK
  exact addI (by omega) (hold.2 (last ds r2 r3 rfl (by omega) hK))
 ·rw [if_neg h,Int.add_zero] at hK
  exact hold.2 (last ds r2 r3 rfl (by omega) hK)
theorem good22 (hJ : Closed prog main J) {x y : Mrk} (hK : ∀ H',SameX [] H H' → K (vint (forgeN x y)) H') : Good prog J 22 [.agg ⟨x.cells⟩,.agg ⟨y.cells⟩] H K := by
 refine g22 hJ fun okh => ?_
 rw [e22]
 refine qBox (l := x.cells) rfl fun H1 p1 e1 S1 c1 l1 => qBox (l := y.cells) rfl fun H2 p2 e2 S2 c2 l2 => ?_
 have d1 := S2.get c1 (by simp)
 have T := S1.trans S2
 refine load_part (c := x.cells) d1 (by simp [Mrk.cells]) rfl rfl (load_part (c := y.cells) c2 (by simp [Mrk.cells]) rfl rfl (eqlM (cndI (fun h => ?_) fun h => ?_)))
 ·have := hK H2 T
  unfold forgeN at this
  rw [if_pos h] at this
  exact retL_same (by simp [unk]) this
 refine offI (ldI (v := vint y.n) c2 rfl rfl (offI (ldI (v := vint x.n) d1 rfl rfl (good38 hJ (offI (ldI (v := vint x.n) d1 rfl rfl (offI (ldI (v := vint y.n) c2 rfl rfl (good38 hJ ?_)))))))))
 have go : ∀ {f : RG},f.ds = [] → f.r 2 = ptr p1 0 → f.r 3 = ptr p2 0 → f.r 5 = vint (andN y.n x.n) → f.r 32 = .bool (decide (andN x.n y.n ≠ 0 ∨ (x.b ≠ 0 ∧ x.b ≠ y.b))) →
   W prog J 50 H.length 22 (subC [1,1,1,0,1] (codeOf f22)) f H2 (contX pl22 prog J 50 H.length 22 ct22 [1,1,1,0,1] (codeOf f22) [] (RetQ prog [.tmp 4] H.length K)) := fun ds r2 r3 r5 r32 => frgR hJ d1 c2 ds r2 r3 r5 r32 h (hK H2 T)
 refine neqI (cndI (fun h1 => hold.2 ?_) fun h1 => ?_)
 ·exact go rfl rfl rfl rfl (by rw [decide_eq_true (show andN x.n y.n ≠ 0 ∨ (x.b ≠ 0 ∧ x.b ≠ y.b) from .inl h1)]; rfl)
 refine offI (ldI (v := vint x.b) d1 rfl rfl (neqI (cndI (fun h2 => ?_) fun h2 => hold.2 ?_)))
 ·refine offI (ldI (v := vint x.b) d1 rfl rfl (offI (ldI (v := vint y.b) c2 rfl rfl (neqI (hold.2 ?_)))))
  exact go rfl rfl rfl rfl (by rw [decide_eq_decide.2 (show (andN x.n y.n ≠ 0 ∨ (x.b ≠ 0 ∧ x.b ≠ y.b)) ↔ x.b ≠ y.b from ⟨fun h => h.elim (fun h => absurd h h1) fun h => h.2,fun h => .inr ⟨h2,h⟩⟩)]; rfl)
 ·exact go rfl rfl rfl rfl (by rw [decide_eq_false (show ¬ (andN x.n y.n ≠ 0 ∨ (x.b ≠ 0 ∧ x.b ≠ y.b)) from fun h => h.elim h1 fun h => h2 h.1)]; rfl)
theorem good21 (hJ : Closed prog main J) {t : Int} {ms : List Mrk} {mv lv : Value} {l : List Int} (hm : MksAt H mv ms) (hl : Sli H lv 1 l.length (l.map vint)) (hll : l.length < 1000) (hml : ms.length ≤ 5) (hok : ∀ i ∈ l,0 ≤ i ∧ i ≤ (ms.length : Int) - 1) (hK : ∀ H',SameX [] H H' → K (vint 0) H') : Good prog J 21 [.agg ⟨[vint t,mv]⟩,lv] H K := by
 refine g21 hJ fun okh => ?_
 rw [e21]
 have kk := sli1 hm.sli
 refine qBox (l := [vint t,mv]) (by simp [kk.2.1]; exact rfl) fun H1 p1 e1 S1 c1 l1 => ?_
 have m1 := hm.same S1
 have hl1 := S1.sli hl (by simp)
 refine lenI hl1 ?_
 refine l21_1 hJ (fun k : Nat => l.length - k) (fun k F H' => k ≤ l.length ∧ H' = H1 ∧ F.ds = [] ∧ F.r 2 = ptr p1 0 ∧ F.r 7 = lv ∧ F.r 8 = vint (l.length : Nat) ∧ F.r 9 = vint (k : Nat)) ?_ (s := 0)
  (.inl ⟨by omega,rfl,rfl,rfl,rfl,rfl,rfl⟩)
 rintro k F H' ⟨hk,rfl,ds,r2,r7,r8,r9⟩ okc hnc
 rw [s21_1,r2,r7,r8,r9,ds]
 refine lssI (cndI (fun hlt => ?_) fun hge => retL_same (by simp [unk]) (hK _ S1))
 have hkl : k < l.length := by omega
 have hget : l[k]? = some l[k] := List.getElem?_eq_getElem hkl
 have hb := hok _ (List.getElem_mem hkl)
 refine sliN hl1 hget fun q => offI (offI (ldI (v := mv) c1 rfl kk.2.2 (lenI m1.sli (subI (by omega) (btwT hJ hb (notI (cnd_false.2 ?_)))))))
 exact addI (by omega) ⟨k + 1,by dsimp only; omega,.inl ⟨by omega,rfl,ds,r2,r7,r8,by show vint _ = vint _; congr 1⟩⟩
theorem good8 (hJ : Closed prog main J) {t : Int} {ms : List Mrk} {mv : Value} {i j : Nat} {x y : Mrk} (hm : MksAt H mv ms) (ok : RegOk t ms) (hi : ms[i]? = some x) (hj : ms[j]? = some y) (hK : ∀ H',SameX [] H H' → K (.tuple ⟨[vint (if forgeN x y < 0 then 0 else forgeN x y),vint (if forgeN x y < 0 then 11 else 0)]⟩) H') : Good prog J 8 [.agg ⟨[vint t,mv]⟩,vint (i : Nat),vint (j : Nat)] H K := by
 refine g8 hJ fun okh => ?_
 rw [e8]
 have kk := sli1 hm.sli
 have kt : kn [vint t,mv] = true := by simp [kn,kk.2.2]; exact rfl
 have hil := (List.getElem?_eq_some_iff.1 hi).1
 have hjl := (List.getElem?_eq_some_iff.1 hj).1
 have hml := ok.len
 refine qBox (l := [vint t,mv]) (by simp [kk.2.1]; exact rfl) fun H1 p1 e1 S1 c1 l1 => ?_
 refine load_part (c := [vint t,mv]) c1 (by simp) rfl kt (good18 hJ (hm.same S1) ok fun H2 S2 => neqF rfl (cnd_false.2 ?_))
 have d2 := S2.get c1 (by simp)
 have T2 := S1.trans S2
 refine load_part (c := [vint t,mv]) d2 (by simp) rfl kt (fillA (l := [vint t,mv]) rfl (by simp [kk.2.1]; exact rfl) (by decide) (fillI ⟨⟨by decide,by decide,rfl⟩,fillV rfl rfl (by decide) (fillV rfl rfl (by rw [wrAt_length]; decide) (fillI (qNew fun H3 q e3 S3 c3 l3 => ?_)))⟩))
 have c3 : H3[q]? = some (.cells (([(i : Int),(j : Int)]).map vint) true 0) := c3
 have T3 := T2.trans S3
 refine good21 hJ (l := [(i : Int),(j : Int)]) (hm.same T3) (ownX_sli (ownX_new (s := 1) (n := 2) c3 rfl rfl)) (by simp) hml (by simp; omega) fun H4 S4 => neqF rfl (cnd_false.2 ?_)
 have T4 := T3.trans S4
 have d4 := S4.get (S3.get d2 (by simp)) (by simp)
 have m4 := (hm.same T4).sli
 obtain ⟨b,o,cs,wr,sz,hidx,hb,hos,htk,hkn⟩ := sliE_elem (s := 3) (enc := Mrk.cells) (fun _ => rfl) (by decide) m4 hil
 obtain ⟨b',o',cs',wr',sz',hidx',hb',hos',htk',hkn'⟩ := sliE_elem (s := 3) (enc := Mrk.cells) (fun _ => rfl) (by decide) m4 hjl
 have ex : ms[i] = x := by rw [List.getElem?_eq_getElem hil] at hi; exact Option.some.inj hi
 have ey : ms[j] = y := by rw [List.getElem?_eq_getElem hjl] at hj; exact Option.some.inj hj
 rw [ex] at htk hkn
 rw [ey] at htk' hkn'
 have hp1 := lt_of_get d4
 have lb := lt_of_get hb
 have lb' := lt_of_get hb'
 refine ⟨[p1,b,b'],offI (ldI (v := mv) d4 rfl kk.2.2 ⟨by simp [RdOk,ptrBlk],hidx _ (load_part hb hos htk hkn ⟨by simp [RdOk,ptrBlk],offI (ldI (v := mv) d4 rfl kk.2.2 ⟨by simp [RdOk,ptrBlk],hidx' _ (load_part hb' hos' htk' hkn' ⟨by simp [RdOk,ptrBlk],?_⟩)⟩)⟩)⟩)⟩
 refine good22 hJ fun H5 S5 => ⟨sbX S5 (by simp; omega),?_⟩
 have := hK H5 (T4.trans S5)
 refine lssI (cndI (fun h => ?_) fun h => ?_)
 ·rw [if_pos h,if_pos h] at this
  exact retL_same (by simp [unk]) this
 ·rw [if_neg h,if_neg h] at this
  exact retL_same (by simp [unk]) this
end
def bitX (i : Nat) : Int := ([1,2,16,4,32,8,64,128] : List Int).getD i 0
def preX (i : Nat) : Int := ([0,1,3,19,23,55,63,127,255] : List Int).getD i 0
theorem bit_ok : ∀ i,i < 8 → 0 ≤ bitX i ∧ preX (i + 1) = preX i + bitX i ∧ preX (i + 1) ≤ 255 ∧ 0 ≤ preX i := by decide
theorem bit_get : ∀ i,i < 8 → ([1,2,16,4,32,8,64,128] : List Int)[i]? = some (bitX i) := by decide
structure Rge where
 lo : Int
 hi : Int
 deriving DecidableEq
def Rge.cells (r : Rge) : List Value := [vint r.lo,vint r.hi]
theorem teqRge (x y : Rge) : teq prog 10000 53 (.agg ⟨x.cells⟩) (.agg ⟨y.cells⟩) = mB (some (x.lo == y.lo)) (mB (some (x.hi == y.hi)) (some true)) := by kernel_rfl
section
variable {main : Bool} {J : JT} {n0 : Nat} {h H : List AObj} {K : Value → List AObj → Prop} {KV : Value → Prop} {HL : List AObj → Prop} {ns : List Int} {k : Nat}
theorem neqRge {x y : Rge} (hk : KV (.bool (decide (x ≠ y)))) : aBin prog .neq 53 (.agg ⟨x.cells⟩) (.agg ⟨y.cells⟩) KV := by
 show aEq prog true 53 (.agg ⟨x.cells⟩) (.agg ⟨y.cells⟩) KV
 unfold aEq
 rw [teqRge,mB_some,mB_some]
 refine ⟨by kernel_rfl,?_⟩
 have : (!(x.lo == y.lo && (x.hi == y.hi && true))) = decide (x ≠ y) := by
  rw [Bool.eq_iff_iff]
  obtain ⟨a,b⟩ := x
  obtain ⟨c,d⟩ := y
  simp
 simp only [cond_true]
 rw [this]
 exact hk
theorem HX.ltz (a : HX h H ns k) : h.length < H.length := by
 obtain ⟨nv,k1,s,rest,rfl,_⟩ := a
 simp [HF]
theorem ofT (hJ : Closed prog main J) (a : HX h H ns k) (hk : k < 1000000) {x : Int} {others : List Int} {p n c : Nat} (hp : H[p]? = some (.cells (others.map vint) true 0)) (hne : p ≠ h.length) (hn : others.length = n) (hl : n < 1000)
  (hK : ∀ y H',(y = x ∨ y ∈ others) → SameX [h.length] H H' → H'.length = H.length → HX h H' ns (k + 1) → K (vint y) H') : Good prog J 14 [ptr h.length 0,vint x,.slice (some ⟨p,0,none⟩) n c] H K := by
 subst hn
 obtain ⟨nv,k1,s,rest,rfl,b1,b2,b3⟩ := a
 have e0 : HF h nv k1 s rest = HF h nv k1 s rest ++ [] := by simp
 rw [e0] at hp ⊢
 refine good14 hJ (hfa b2 (by omega) b3.list b3.sane) (others := others) (fun h' hd => ?_) (by omega) fun y h1 hy hd => ?_
 ·obtain ⟨k',s',c1,c2,rfl⟩ := hfd hd
  have S := hf_same (h := h) (nv := nv) (k1 := k1) (k2 := k') (s1 := s) (s2 := s') (rest := rest) (g := [])
  rw [List.append_nil] at hp
  exact sli_new (wr := true) (sz := 0) (S.get hp (by simpa using hne)) (by simp) (kn_ints _)
 ·obtain ⟨k',s',c1,c2,rfl⟩ := hfd hd
  have S := hf_same (h := h) (nv := nv) (k1 := k1) (k2 := k') (s1 := s) (s2 := s') (rest := rest) (g := [])
  exact hK y _ hy (by simpa using S) (by simp [hf_len]) ⟨nv,k',s',rest,by simp,by omega,c2,b3⟩
theorem oddX (hJ : Closed prog main J) (a : HX h H ns k) (hk : k < 1000000) {x y : Int} (hy : 0 < y ∧ y < 1000)
  (hK : ∀ b H',SameX [h.length] H H' → H'.length = H.length → HX h H' ns (k + 1) → K (.bool b) H') : Good prog J 34 [ptr h.length 0,vint x,vint y] H K := by
 refine g34 hJ fun ok => ?_
 rw [e34]
 exact subI (by omega) (upX hJ a hk (by omega) fun z H' h1 h2 S l a' => lssI (retL_same (by simp [unk]) (hK _ H' S l a')))
set_option maxHeartbeats 800000 in
theorem good16 (hJ : Closed prog main J) (a : HX h H ns k) (hk : k < 400000) (hK : ∀ m H',MrkOk m → SameX [h.length] H H' → HX h H' ns (k + 13) → K (.agg ⟨m.cells⟩) H') : Good prog J 16 [ptr h.length 0] H K := by
 refine g16 hJ fun ok => ?_
 rw [e16]
 have hlt := a.ltz
 refine qAl fun H1 p1 e1 S1 c1 l1 => upX hJ (a.same S1 (by simp)) (by omega) (by omega) fun y H2 y1 y2 S2 l2 a2 => ?_
 refine ⟨⟨by decide,by decide,rfl⟩,fillV rfl rfl (by decide) (fillV rfl rfl (by rw [wrAt_length]; decide) (fillV rfl rfl (by rw [wrAt_length,wrAt_length]; decide) (fillI (qNew fun H3 p3 e3 S3 c3 l3 => ?_))))⟩
 have c3 : H3[p3]? = some (.cells (([0,1,y] : List Int).map vint) true 0) := c3
 refine ofT hJ (a2.same S3 (by simp)) (by omega) c3 (by omega) rfl (by decide) fun b H4 hb S4 l4 a4 => ?_
 have b1 : 0 ≤ b ∧ b ≤ 9 := by
  simp at hb
  omega
 refine upX hJ a4 (by omega) (by omega) fun y5 H5 y51 y52 S5 l5 a5 => ?_
 refine ⟨⟨by decide,by decide,rfl⟩,fillV rfl rfl (by decide) (fillV rfl rfl (by rw [wrAt_length]; decide) (fillV rfl rfl (by rw [wrAt_length,wrAt_length]; decide) (fillV rfl rfl (by rw [wrAt_length,wrAt_length,wrAt_length]; decide) (fillI (qNew fun H6 p6 e6 S6 c6 l6 => ?_)))))⟩
 have c6 : H6[p6]? = some (.cells (([0,1,2,y5] : List Int).map vint) true 0) := c6
 refine ofT hJ (a5.same S6 (by simp)) (by omega) c6 (by omega) rfl (by decide) fun q H7 hq S7 l7 a7 => ?_
 have q1 : 0 ≤ q ∧ q ≤ 6 := by
  simp at hq
  omega
 refine fillV rfl rfl (by decide) (fillV rfl rfl (by rw [wrAt_length]; decide) (fillI (qAl fun H8 p8 e8 S8 c8 l8 => ?_)))
 refine qStA (c := (⟨0,b,q⟩ : Mrk).cells) c8 rfl rfl rfl fun H9 S9 c9 l9 => ?_
 have a9 : HX h H9 ns (k + 4) := (a7.same S8 (by simp)).same S9 (by simp; omega)
 have T2 : SameX [h.length] H H2 := S1.weak0.trans S2
 have T7 : SameX [h.length] H H7 := ((((T2.trans S3.weak0).trans S4).trans S5).trans S6.weak0).trans S7
 have T9 : SameX [h.length] H H9 := (T7.trans S8.weak0).thru S9 (by have := T7.1; simp; omega)
 have z : ∀ {X : List Nat} {A B : List AObj},SameX X A B → A.length ≤ B.length := fun S => S.1
 have c1' : H9[p1]? = some (.cells [vint 0,vint 0,vint 0] true 0) :=
  S9.get (S8.get (S7.get (S6.get (S5.get (S4.get (S3.get (S2.get c1 (by simp; omega)) (by simp)) (by simp; omega)) (by simp; omega)) (by simp)) (by simp; omega)) (by simp)) (by simp; omega)
 have fin : ∀ {F : RG} {n : Int} {H' H'' : List AObj},F.ds = [] → F.r 2 = ptr p1 0 → 0 ≤ n ∧ n ≤ 255 → SameX [h.length] H H' → HX h H' ns (k + 13) → SameX [p1] H' H'' → H''[p1]? = some (.cells (⟨n,b,q⟩ : Mrk).cells true 0) → RetQ prog [.cell 2 30] H.length K .ret F H'' := by
  intro F n H' H'' ds r2 hn T a' S c
  refine retQs ds (resW_cell (gg := true) (s := 3) (by kernel_rfl) ?_)
  rw [r2]
  exact load_part (c := (⟨n,b,q⟩ : Mrk).cells) c (by simp [Mrk.cells]) rfl rfl (resW_nil (hK ⟨n,b,q⟩ H'' ⟨hn,b1,q1⟩ (T.thru S (by simp; omega)) (a'.same S (by simp; omega))))
 refine oddX hJ a9 (by omega) (by omega) fun bo H10 S10 l10 a10 => cndB (fun _ => ?_) fun _ => ?_
 ·refine upX hJ a10 (by omega) (by omega) fun n H11 n1 n2 S11 l11 a11 => offI ?_
  have c11 : H11[p8]? = some (.cells (⟨0,b,q⟩ : Mrk).cells true 0) := S11.get (S10.get c9 (by simp; omega)) (by simp; omega)
  refine qSt c11 (by simp [Mrk.cells]) rfl rfl fun H12 S12 c12 l12 => load_part (c := (⟨n,b,q⟩ : Mrk).cells) c12 (by simp [Mrk.cells]) rfl rfl ?_
  have d1 : H12[p1]? = some (.cells [vint 0,vint 0,vint 0] true 0) := S12.get (S11.get (S10.get c1' (by simp; omega)) (by simp; omega)) (by simp; omega)
  have T12 : SameX [h.length] H H12 := ((T9.trans S10).trans S11).thru S12 (by have := T7.1; simp; omega)
  refine qStA (c := (⟨n,b,q⟩ : Mrk).cells) d1 rfl rfl rfl fun H13 S13 c13 l13 => ?_
  exact fin rfl rfl (by omega) T12 ((a11.same S12 (by simp; omega)).mono (by omega)) S13 c13
 ·refine ⟨⟨by decide,by decide,rfl⟩,?_⟩
  refine fillV rfl rfl (by decide) (fillV rfl rfl (by simp only [wrAt_length]; decide) (fillV rfl rfl (by simp only [wrAt_length]; decide) (fillV rfl rfl (by simp only [wrAt_length]; decide) (fillV rfl rfl (by simp only [wrAt_length]; decide) (fillV rfl rfl (by simp only [wrAt_length]; decide) (fillV rfl rfl (by simp only [wrAt_length]; decide) (fillV rfl rfl (by simp only [wrAt_length]; decide) (fillI (qNew fun H11 p11 e11 S11 c11 l11 => ?_)))))))))
  have c11 : H11[p11]? = some (.cells (([1,2,16,4,32,8,64,128] : List Int).map vint) true 0) := c11
  have c8' : H11[p8]? = some (.cells (⟨0,b,q⟩ : Mrk).cells true 0) := S11.get (S10.get c9 (by simp; omega)) (by simp)
  have d1 : H11[p1]? = some (.cells [vint 0,vint 0,vint 0] true 0) := S11.get (S10.get c1' (by simp; omega)) (by simp)
  have T11 : SameX [h.length] H H11 := (T9.trans S10).trans S11.weak0
  have hH11 := T11.1
  refine l16_1 hJ (fun i : Nat => 8 - i) (fun i F H' => ∃ n : Int,i ≤ 8 ∧ (0 ≤ n ∧ n ≤ preX i) ∧ SameX [h.length] H H' ∧ HX h H' ns (k + 5 + i) ∧ H'[p1]? = some (.cells [vint 0,vint 0,vint 0] true 0) ∧ H'[p8]? = some (.cells (⟨n,b,q⟩ : Mrk).cells true 0) ∧ H'[p11]? = some (.cells (([1,2,16,4,32,8,64,128] : List Int).map vint) true 0) ∧ F.ds = [] ∧ F.r 0 = ptr h.length 0 ∧ F.r 2 = ptr p1 0 ∧ F.r 3 = ptr p8 0 ∧ F.r 4 = .slice (some ⟨p11,0,none⟩) 8 8 ∧ F.r 5 = vint (i : Nat)) ?_ (s := 0)
   (.inl ⟨0,by omega,by decide,T11,a10.same S11 (by simp),d1,c8',c11,rfl,rfl,rfl,rfl,rfl,rfl⟩)
  rintro i F H' ⟨n,hi,hn,T,a',d1,d8,d11,ds,r0,r2,r3,r4,r5⟩ okc hnc
  rw [s16_1,r0,r2,r3,r4,r5]
  have sl : Sli H' (.slice (some ⟨p11,0,none⟩) 8 8) 1 8 (([1,2,16,4,32,8,64,128] : List Int).map vint) := ownX_sli (ownX_new d11 rfl rfl)
  refine lenI sl (lssI (cndI (fun hlt => ?_) fun hge => ?_))
  rotate_left
  ·have hi8 : i = 8 := by omega
   subst hi8
   have : preX 8 = 255 := rfl
   refine load_part (c := (⟨n,b,q⟩ : Mrk).cells) d8 (by simp [Mrk.cells]) rfl rfl (qStA (c := (⟨n,b,q⟩ : Mrk).cells) d1 rfl rfl rfl fun H13 S13 c13 l13 => ?_)
   exact fin ds r2 (by omega) T (a'.mono (by omega)) S13 c13
  have hi8 : i < 8 := by omega
  obtain ⟨b0,b2,b3,b4⟩ := bit_ok i hi8
  refine addI (by omega) (oddX hJ a' (by omega) (by omega) fun bo H13 S13 l13 a13 => ?_)
  have f1 := S13.get d1 (by simp; omega)
  have f8 := S13.get d8 (by simp; omega)
  have f11 := S13.get d11 (by simp; omega)
  have sl13 : Sli H13 (.slice (some ⟨p11,0,none⟩) 8 8) 1 8 (([1,2,16,4,32,8,64,128] : List Int).map vint) := ownX_sli (ownX_new f11 rfl rfl)
  refine cndB (fun _ => ?_) fun _ => ?_
  ·refine offI (ldI (v := vint n) f8 rfl rfl ?_)
   refine sliN (xs := [1,2,16,4,32,8,64,128]) sl13 (bit_get i hi8) fun _ => addI (by omega) (offI ?_)
   refine qSt f8 (by simp [Mrk.cells]) rfl rfl fun H14 S14 c14 l14 => addI (by omega) ⟨i + 1,by dsimp only; omega,.inl ⟨n + bitX i,by omega,by omega,?_,?_,?_,c14,?_,ds,r0,r2,r3,r4,by show vint _ = vint _; congr 1⟩⟩
   ·exact (T.trans S13).thru S14 (by simp; omega)
   ·exact (a13.same S14 (by simp; omega)).mono (by omega)
   ·exact S14.get f1 (by simp; omega)
   ·exact S14.get f11 (by simp; omega)
  ·exact addI (by omega) ⟨i + 1,by dsimp only; omega,.inl ⟨n,by omega,by omega,T.trans S13,a13.mono (by omega),f1,f8,f11,ds,r0,r2,r3,r4,by show vint _ = vint _; congr 1⟩⟩
theorem good17 (hJ : Closed prog main J) {t : Int} {ms : List Mrk} {mv : Value} {m : Mrk} (hm : SliE H mv 3 Mrk.cells ms) (hl : ms.length ≤ 5) (hK : ∀ r H',SameX [] H H' → (r < 0 → ∀ x ∈ ms,x ≠ m) → K (vint r) H') : Good prog J 17 [.agg ⟨[vint t,mv]⟩,.agg ⟨m.cells⟩] H K := by
 refine g17 hJ fun ok => ?_
 rw [e17]
 have kk := sli1 hm
 refine qBox (l := [vint t,mv]) (by simp [kk.2.1]; exact rfl) fun H1 p1 e1 S1 c1 l1 => qBox (l := m.cells) rfl fun H2 p2 e2 S2 c2 l2 => ?_
 have T := S1.trans S2
 have d1 := S2.get c1 (by simp)
 have m2 := T.sli hm (by simp)
 refine l17_1 hJ (fun i : Nat => ms.length - i) (fun i F H' => i ≤ ms.length ∧ H' = H2 ∧ (∀ x ∈ ms.take i,x ≠ m) ∧ F.ds = [] ∧ F.r 2 = ptr p1 0 ∧ F.r 3 = ptr p2 0 ∧ F.r 5 = vint (i : Nat)) ?_ (s := 0)
  (.inl ⟨by omega,rfl,by simp,rfl,rfl,rfl,rfl⟩)
 rintro i F H' ⟨hi,rfl,hno,ds,r2,r3,r5⟩ okc hnc
 rw [s17_1,r2,r3,r5,ds]
 refine offI (ldI (v := mv) d1 rfl kk.2.2 (lenI m2 (lssI (cndI (fun hlt => ?_) fun hge => ?_))))
 ·have hil : i < ms.length := by omega
  refine offI (ldI (v := mv) d1 rfl kk.2.2 (elemE (enc := Mrk.cells) (fun _ => rfl) (by decide) m2 hil fun q => load_part (c := m.cells) c2 (by simp [Mrk.cells]) rfl rfl (eqlM (cndI (fun he => ?_) fun hne => ?_))))
  ·exact retL_same (by simp [unk]) (hK _ _ T fun h => by omega)
  ·refine addI (by omega) ⟨i + 1,by dsimp only; omega,.inl ⟨by omega,rfl,fun x hx => ?_,ds,r2,r3,by show vint _ = vint _; congr 1⟩⟩
   rw [List.take_succ_eq_append_getElem hil] at hx
   rcases List.mem_append.1 hx with hx | hx
   ·exact hno x hx
   ·rw [List.mem_singleton.1 hx]
    exact hne
 ·have : i = ms.length := by omega
  subst this
  rw [List.take_length] at hno
  exact retL_same (by simp [unk]) (hK _ _ T fun _ => hno)
theorem good7 (hJ : Closed prog main J) {L : List Nat} {v : Value} {n : Nat} (hv : Sli H v 1 L.length (natsV L)) (hl : L.length ≤ 5) (hK : ∀ r,(0 ≤ r ↔ n ∈ L) → K (vint r) H) : Good prog J 7 [v,vint (n : Nat)] H K := by
 refine g7 hJ fun ok => ?_
 rw [e7]
 have hv' : Sli H v 1 (L.map fun i : Nat => (i : Int)).length ((L.map fun i : Nat => (i : Int)).map vint) := by
  rw [List.length_map,← natsV_ints]
  exact hv
 refine l7_1 hJ (fun i : Nat => L.length - i) (fun i F H' => i ≤ L.length ∧ H' = H ∧ (n ∉ L.take i) ∧ F.ds = [] ∧ F.r 0 = v ∧ F.r 1 = vint (n : Nat) ∧ F.r 5 = vint (i : Nat)) ?_ (s := 0)
  (.inl ⟨by omega,rfl,by simp,rfl,rfl,rfl,rfl⟩)
 rintro i F H' ⟨hi,rfl,hno,ds,r0,r1,r5⟩ okc hnc
 rw [s7_1,r0,r1,r5,ds]
 refine lenI hv (lssI (cndI (fun hlt => ?_) fun hge => ?_))
 ·have hil : i < L.length := by omega
  refine sliN hv' (x := (L[i] : Int)) (by rw [List.getElem?_map,List.getElem?_eq_getElem hil]; rfl) fun q => eqlI (cndI (fun he => ?_) fun hne => ?_)
  ·have : L[i] = n := by omega
   exact retL_same (by simp [unk]) (hK _ ⟨fun _ => this ▸ List.getElem_mem hil,fun _ => by omega⟩)
  ·refine addI (by omega) ⟨i + 1,by dsimp only; omega,.inl ⟨by omega,rfl,fun hx => ?_,ds,r0,r1,by show vint _ = vint _; congr 1⟩⟩
   rw [List.take_succ_eq_append_getElem hil] at hx
   rcases List.mem_append.1 hx with hx | hx
   ·exact hno hx
   ·exact hne (by rw [List.mem_singleton.1 hx])
 ·have : i = L.length := by omega
  subst this
  rw [List.take_length] at hno
  exact retL_same (by simp [unk]) (hK _ ⟨fun h => by omega,fun h => absurd h hno⟩)
theorem good32 (hJ : Closed prog main J) {L : List Rge} {v w : Value} (hv : SliE H v 2 Rge.cells L) (hw : SliE H w 2 Rge.cells L) (hl : L.length ≤ 1000) (hK : K (.bool true) H) : Good prog J 32 [v,w] H K := by
 refine g32 hJ fun ok => ?_
 rw [e32]
 refine lenI hv (lenI hw (neqF rfl (cnd_false.2 ?_)))
 refine l32_1 hJ (fun i : Nat => L.length - i) (fun i F H' => i ≤ L.length ∧ H' = H ∧ F.ds = [] ∧ F.r 0 = v ∧ F.r 1 = w ∧ F.r 5 = vint (i : Nat)) ?_ (s := 0)
  (.inl ⟨by omega,rfl,rfl,rfl,rfl,rfl⟩)
 rintro i F H' ⟨hi,rfl,ds,r0,r1,r5⟩ okc hnc
 rw [s32_1,r0,r1,r5,ds]
 refine lenI hv (lssI (cndI (fun hlt => ?_) fun hge => retL_same (by simp [unk]) hK))
 have hil : i < L.length := by omega
 refine elemE (enc := Rge.cells) (fun _ => rfl) (by decide) hv hil fun q => elemE (enc := Rge.cells) (fun _ => rfl) (by decide) hw hil fun q' => neqRge ?_
 rw [decide_eq_false (not_not_intro rfl)]
 exact cnd_false.2 (addI (by omega) ⟨i + 1,by dsimp only; omega,.inl ⟨by omega,rfl,ds,r0,r1,by show vint _ = vint _; congr 1⟩⟩)
set_option maxHeartbeats 800000 in
theorem good5 (hJ : Closed prog main J) (a : HX h H ns k) (hk : k < 100000) (hK : ∀ t ms mv H',RegOk t ms → ms.length ≤ 4 → MksAt H' mv ms → SameX [h.length] H H' → K (.agg ⟨[vint t,mv]⟩) H') : Good prog J 5 [ptr h.length 0,vint 4] H K := by
 refine g5 hJ fun ok => ?_
 rw [e5]
 have hlt := a.ltz
 refine qAl fun H1 p1 e1 S1 c1 l1 => ?_
 refine ⟨⟨by decide,by decide,rfl⟩,fillV rfl rfl (by decide) (fillV rfl rfl (by rw [wrAt_length]; decide) (fillV rfl rfl (by rw [wrAt_length,wrAt_length]; decide) (fillI (qNew fun H3 p3 e3 S3 c3 l3 => ?_))))⟩
 have c3 : H3[p3]? = some (.cells (([1,1,2] : List Int).map vint) true 0) := c3
 refine ofT hJ ((a.same S1 (by simp)).same S3 (by simp)) (by omega) c3 (by omega) rfl (by decide) fun t H4 ht S4 l4 a4 => ?_
 have t1 : 0 ≤ t ∧ t ≤ 2 := by
  simp at ht
  omega
 refine fillV rfl rfl (by decide) (fillI (qAl fun H8 p8 e8 S8 c8 l8 => ?_))
 refine qStA (c := [vint t,.slice none 0 0]) c8 rfl rfl rfl fun H9 S9 c9 l9 => minI ?_
 have a9 := (a4.same S8 (by simp)).same S9 (by simp; omega)
 have T4 : SameX [h.length] H H4 := (S1.weak0.trans S3.weak0).trans S4
 have T9 : SameX [h.length] H H9 := (T4.trans S8.weak0).thru S9 (by have := T4.1; simp; omega)
 have c1' : H9[p1]? = some (.cells [vint 0,.slice none 0 0] true 0) := S9.get (S8.get (S4.get (S3.get c1 (by simp)) (by simp; omega)) (by simp)) (by simp; omega)
 refine upX hJ a9 (by omega) (by decide) fun n H10 n1 n2 S10 l10 a10 => ?_
 have n3 : n ≤ 4 := by
  rcases n2 with h | h
  ·have : min (4 : Int) 5 = 4 := rfl
   omega
  ·omega
 obtain ⟨i0,rfl⟩ : ∃ i0 : Nat,n = i0 := ⟨n.toNat,by omega⟩
 have T10 := T9.trans S10
 have hT10 := T10.1
 refine l5_1 hJ (fun i : Nat => i) (fun i F H' => ∃ ms mv o,i ≤ 4 ∧ ms.length + i ≤ 4 ∧ (∀ m ∈ ms,MrkOk m) ∧ (∀ (i j : Nat) x y,j < i → ms[i]? = some x → ms[j]? = some y → x ≠ y) ∧ OwnX H' 3 (ms.flatMap Mrk.cells) ms.length mv o ∧ (∀ j,o = some j → H.length ≤ j ∧ j ≠ p1 ∧ j ≠ p8) ∧ SameX [h.length] H H' ∧ HX h H' ns (k + 2 + 13 * (4 - i)) ∧ H'[p1]? = some (.cells [vint 0,.slice none 0 0] true 0) ∧ H'[p8]? = some (.cells [vint t,mv] true 0) ∧ F.ds = [] ∧ F.r 0 = ptr h.length 0 ∧ F.r 4 = ptr p1 0 ∧ F.r 5 = ptr p8 0 ∧ F.r 6 = vint (i : Nat)) ?_ (s := i0)
  (.inl ⟨[],.slice none 0 0,none,by omega,by simp; omega,by simp,by simp,⟨rfl,rfl,.inl ⟨rfl,rfl,rfl⟩⟩,by simp,T10,a10.mono (by omega),S10.get c1' (by simp; omega),S10.get c9 (by simp; omega),rfl,rfl,rfl,rfl,rfl⟩)
 rintro i F H' ⟨ms,mv,o,hi,hmi,hms,htw,O,ho,T,a',d1,d8,ds,r0,r4,r5,r6⟩ okc hnc
 rw [s5_1,r0,r4,r5,r6]
 have km := ownX_val O
 have hTl := T.1
 refine gtrI (cndI (fun hgt => ?_) fun hle => ?_)
 rotate_left
 ·refine load_part (c := [vint t,mv]) d8 (by simp) rfl (by simp [kn,km.2.2]; exact rfl) (qStA (c := [vint t,mv]) d1 rfl rfl (by simp [km.2.1]; exact rfl) fun H13 S13 c13 l13 => ?_)
  refine retQs ds (resW_cell (gg := true) (s := 2) (by kernel_rfl) ?_)
  show aLoad true 2 (F.r 4) _ _
  rw [r4]
  refine load_part (c := [vint t,mv]) c13 (by simp) rfl (by simp [kn,km.2.2]; exact rfl) (resW_nil (hK t ms mv H13 ⟨t1,by omega,hms,htw⟩ (by omega) ⟨o,ownX_keep O S13 fun j hj => by simpa using (ho j hj).2.1⟩ (T.thru S13 (by simp; omega))))
 refine good16 hJ a' (by omega) fun m H11 hm S11 a11 => ?_
 have f1 := S11.get d1 (by simp; omega)
 have f8 := S11.get d8 (by simp; omega)
 have O11 := ownX_keep O S11 fun j hj => by have := ho j hj; simp; omega
 have T11 := T.trans S11
 refine qAl fun H12 p12 e12 S12 c12 l12 => qStA (c := m.cells) c12 rfl rfl rfl fun H13 S13 c13 l13 => ?_
 have T13 : SameX [h.length] H H13 := (T11.trans S12.weak0).thru S13 (by have := T11.1; simp; omega)
 have a13 := (a11.same S12 (by simp)).same S13 (by have := T11.1; simp; omega)
 have lp1 := lt_of_get f1
 have lp8 := lt_of_get f8
 have g1 := S13.get (S12.get f1 (by simp)) (by simp; omega)
 have g8 := S13.get (S12.get f8 (by simp)) (by simp; omega)
 have O13 := ownX_keep (ownX_keep O11 S12 (by simp)) S13 fun j hj => by have := ownX_lt O11 j hj; simp; omega
 have knm : kn [vint t,mv] = true := by simp [kn,km.2.2]; exact rfl
 refine load_part (c := [vint t,mv]) g8 (by simp) rfl knm (load_part (c := m.cells) c13 (by simp [Mrk.cells]) rfl rfl (good17 hJ (ownX_sli O13) (by omega) fun r H14 S14 hr => ?_))
 have h1 := S14.get g1 (by simp)
 have h8 := S14.get g8 (by simp)
 have O14 := ownX_keep O13 S14 (by simp)
 have a14 := a13.same S14 (by simp)
 have T14 := T13.trans S14.weak0
 refine lssI (cndI (fun hlt0 => ?_) fun hge0 => ?_)
 ·refine offI (ldI (v := mv) h8 rfl km.2.2 (load_part (c := m.cells) (S14.get c13 (by simp)) (by simp [Mrk.cells]) rfl rfl ⟨⟨by decide,by decide,rfl⟩,fillA (l := m.cells) rfl rfl (by decide) (fillI (qNew fun H15 p15 e15 S15 c15 l15 => ?_))⟩))
  have c15 : H15[p15]? = some (.cells m.cells true 0) := c15
  refine ⟨⟨rfl,by decide,by decide,by decide⟩,ownX_more (ownX_keep O14 S15 (by simp)) (by decide) (by omega) (ownX_sli (ownX_new (s := 3) (n := 1) (l := m.cells) c15 rfl rfl)) fun mv' H16 p16 e16 O16 S16 => offI ?_⟩
  have km' := ownX_val O16
  have nm : ∀ p,(p = p1 ∨ p = p8) → p ∉ o.toList := fun p hp hm => by
   have := ho p (Option.mem_toList.1 hm)
   omega
  have k1 := S16.get (S15.get h1 (by simp)) (nm p1 (.inl rfl))
  have k8 := S16.get (S15.get h8 (by simp)) (nm p8 (.inr rfl))
  have hTl14 := T14.1
  have hS15 := S15.1
  refine qSt k8 (by simp) km'.1 km'.2.1 fun H17 S17 c17 l17 => subI (by omega) ⟨i - 1,by dsimp only; omega,.inl ⟨ms ++ [m],mv',some p16,by omega,by rw [List.length_append,List.length_singleton]; omega,?_,?_,?_,?_,?_,?_,?_,c17,ds,r0,r4,r5,by show vint _ = vint _; congr 1; omega⟩⟩
  ·intro x hx
   rcases List.mem_append.1 hx with hx | hx
   ·exact hms x hx
   ·rw [List.mem_singleton.1 hx]
    exact hm
  ·intro i' j' x y hji hx hy
   have hil := (List.getElem?_eq_some_iff.1 hx).1
   rw [List.length_append,List.length_singleton] at hil
   by_cases e : i' = ms.length
   ·subst e
    rw [List.getElem?_append_left hji] at hy
    have hxm : x = m := by simpa using hx.symm
    rw [hxm]
    exact fun e => hr hlt0 y (List.mem_of_getElem? hy) e.symm
   ·rw [List.getElem?_append_left (by omega)] at hx hy
    exact htw i' j' x y hji hx hy
  ·rw [List.flatMap_append,List.length_append,List.length_singleton]
   have := ownX_keep O16 S17 fun j hj => by cases hj; have := lt_of_get h8; simp; omega
   simpa using this
  ·intro j hj
   cases hj
   have := lt_of_get h8
   have := lt_of_get h1
   omega
  ·refine ((T14.trans S15.weak0).thru S16 fun j hj => .inr (ho j (Option.mem_toList.1 hj)).1).thru S17 ?_
   simp
   omega
  ·refine (((a14.same S15 (by simp)).same S16 fun j hj => ?_).same S17 (by simp; omega)).mono (by omega)
   have := (ho j (Option.mem_toList.1 hj)).1
   omega
  ·exact S17.get k1 (by simp; omega)
 ·refine subI (by omega) ⟨i - 1,by dsimp only; omega,.inl ⟨ms,mv,o,by omega,by omega,hms,htw,O14,ho,T14,a14.mono (by omega),h1,h8,ds,r0,r4,r5,by show vint _ = vint _; congr 1; omega⟩⟩
end
structure Bok where
 t : Int
 ms : List Mrk
 k0 : Nat
 k1 : Nat
 r0 : List Int
 r1 : List Int
 ds : List Sgt
def strayC (s : Sgt) : List Value := [vint 5,vint 0,vint 0,vint 0,vint 1,vint 0,vint 0,vint s.n,.bool false,.bool false,vint s.b,vint s.p]
def herdC (b : Bok) (mv kv hv dv : Value) : List Value := [vint b.t,mv,kv,hv,dv]
def bookC (b : Bok) (mv kv hv dv : Value) (deed owner : Int) : List Value := [vint b.t,mv,kv,hv,dv,vint deed,vint owner,vint 0]
def Bok.rows (b : Bok) : List (List Int) := [b.r0,b.r1]
structure BokOk (b : Bok) : Prop where
 reg : RegOk b.t b.ms
 k0 : b.k0 < b.ms.length
 k1 : b.k1 < b.ms.length
 l0 : b.r0.length = b.ms.length
 l1 : b.r1.length = b.ms.length
 c0 : ∀ x ∈ b.r0,0 ≤ x ∧ x ≤ 20
 c1 : ∀ x ∈ b.r1,0 ≤ x ∧ x ≤ 20
 nd : b.ds.length ≤ 1
 ds : ∀ s ∈ b.ds,SgtOk s
theorem BokOk.row {b : Bok} (ok : BokOk b) {i : Nat} {r : List Int} (hr : b.rows[i]? = some r) : r.length = b.ms.length ∧ ∀ x ∈ r,0 ≤ x ∧ x ≤ 20 := by
 have := List.mem_of_getElem? hr
 simp only [Bok.rows,List.mem_cons,List.not_mem_nil,or_false] at this
 rcases this with rfl | rfl
 ·exact ⟨ok.l0,ok.c0⟩
 ·exact ⟨ok.l1,ok.c1⟩
theorem row_of {b : Bok} {i : Nat} (hi : i < 2) : ∃ r,b.rows[i]? = some r := by
 rcases (by omega : i = 0 ∨ i = 1) with rfl | rfl
 ·exact ⟨_,rfl⟩
 ·exact ⟨_,rfl⟩
def RowsAt (H : List AObj) (hv : Value) (rows : List (List Int)) : Prop := ∃ vs : List Value,vs.length = 2 ∧ Sli H hv 1 2 vs ∧ ∀ (i : Nat) (r : List Int),rows[i]? = some r → ∃ v,vs[i]? = some v ∧ Sli H v 1 r.length (r.map vint)
structure HerdAt (H : List AObj) (b : Bok) (mv kv hv dv : Value) : Prop where
 m : MksAt H mv b.ms
 k : Sli H kv 1 2 [vint b.k0,vint b.k1]
 h : RowsAt H hv b.rows
 d : SliE H dv 12 strayC b.ds
theorem RowsAt.same {H H' : List AObj} {hv : Value} {rows : List (List Int)} (a : RowsAt H hv rows) (S : SameX [] H H') : RowsAt H' hv rows := by
 obtain ⟨vs,h1,h2,h3⟩ := a
 refine ⟨vs,h1,S.sli h2 (by simp),fun i r hr => ?_⟩
 obtain ⟨v,e1,e2⟩ := h3 i r hr
 exact ⟨v,e1,S.sli e2 (by simp)⟩
theorem HerdAt.same {H H' : List AObj} {b : Bok} {mv kv hv dv : Value} (a : HerdAt H b mv kv hv dv) (S : SameX [] H H') : HerdAt H' b mv kv hv dv :=
 ⟨a.m.same S,S.sli a.k (by simp),a.h.same S,S.sli a.d (by simp)⟩
theorem RowsAt.val {H : List AObj} {hv : Value} {rows : List (List Int)} (a : RowsAt H hv rows) : hv.cells = #[hv] ∧ one hv = true ∧ kn1 hv = true := by
 obtain ⟨vs,h1,h2,h3⟩ := a
 exact sli1 h2
theorem HerdAt.one {H : List AObj} {b : Bok} {mv kv hv dv : Value} (a : HerdAt H b mv kv hv dv) : (herdC b mv kv hv dv).all one = true := by
 simp [herdC,(sli1 a.m.sli).2.1,(sli1 a.k).2.1,a.h.val.2.1,(sli1 a.d).2.1]
 exact rfl
theorem HerdAt.kn {H : List AObj} {b : Bok} {mv kv hv dv : Value} (a : HerdAt H b mv kv hv dv) : kn (herdC b mv kv hv dv) = true := by
 simp [Go.Proofs.Ytkbfhelfnagccaa.kn,herdC,(sli1 a.m.sli).2.2,(sli1 a.k).2.2,a.h.val.2.2,(sli1 a.d).2.2]
 exact rfl
theorem HerdAt.kn2 {H : List AObj} {b : Bok} {mv kv hv dv : Value} (a : HerdAt H b mv kv hv dv) : Go.Proofs.Ytkbfhelfnagccaa.kn [vint b.t,mv] = true := by
 simp [Go.Proofs.Ytkbfhelfnagccaa.kn,(sli1 a.m.sli).2.2]
 exact rfl
theorem teqDee (s u : Sgt) : teq prog 10000 46 (.agg ⟨strayC s⟩) (.agg ⟨strayC u⟩) = mB (mB (some (s.n == u.n)) (mB (some (s.b == u.b)) (mB (some (s.p == u.p)) (some true)))) (some true) := by kernel_rfl
section
variable {main : Bool} {J : JT} {n0 : Nat} {h H : List AObj} {K : Value → List AObj → Prop} {KV : Value → Prop} {HL : List AObj → Prop}
theorem qStP {b o s : Nat} {cs c : List Value} {sz : Nat} (hb : H[b]? = some (.cells cs true sz)) (hl : c.length = s) (ho : o + s ≤ cs.length) (h1 : c.all one = true) (hk : ∀ H',SameX [b] H H' → H'[b]? = some (.cells (wrAt cs o c) true sz) → H'.length = H.length → HL H') : aStore s (ptr b o) (.agg ⟨c⟩) H HL := by
 unfold aStore ptr
 simp only
 rw [hb]
 exact ⟨hl,h1,ho,hk _ (SameX.refl.set (.inl (by simp))) (List.getElem?_set_self (lt_of_get hb)) (by simp)⟩
theorem neqDee {s : Sgt} (hk : KV (.bool false)) : aBin prog .neq 46 (.agg ⟨strayC s⟩) (.agg ⟨strayC s⟩) KV := by
 show aEq prog true 46 (.agg ⟨strayC s⟩) (.agg ⟨strayC s⟩) KV
 unfold aEq
 rw [teqDee,mB_some,mB_some,mB_some,mB_some]
 refine ⟨by kernel_rfl,?_⟩
 simpa using hk
theorem rowI {hv : Value} {rows : List (List Int)} (a : RowsAt H hv rows) {i : Nat} {r : List Int} (hr : rows[i]? = some r) (hi : i < 2) {K2 : Value → Value → Prop} (hK : ∀ p v,Sli H v 1 r.length (r.map vint) → K2 p v) : aIdx 1 hv (vint (i : Nat)) fun p => aLoad false 1 p H (K2 p) := by
 obtain ⟨vs,h1,h2,h3⟩ := a
 obtain ⟨v,e1,e2⟩ := h3 i r hr
 exact idx_load h2 ⟨by omega,by omega⟩ (by rw [Int.toNat_natCast]; exact e1) fun p => hK p v e2
theorem good28 (hJ : Closed prog main J) {n lo hi : Int} (hK : K (.bool (decide (lo ≤ n ∧ n ≤ hi))) H) : Good prog J 28 [vint n,vint lo,vint hi] H K := by
 refine g28 hJ fun ok => ?_
 rw [e28]
 refine leqI (cndI (fun h1 => leqI (retL_same (by simp [unk]) ?_)) fun h1 => retL_same (by simp [unk]) ?_)
 ·rw [decide_eq_decide.2 (show lo ≤ n ∧ n ≤ hi ↔ n ≤ hi from ⟨fun h => h.2,fun h => ⟨h1,h⟩⟩)] at hK
  exact hK
 ·rw [decide_eq_false fun h => h1 h.1] at hK
  exact hK
theorem hbtT (hJ : Closed prog main J) {n lo hi : Int} (h : lo ≤ n ∧ n ≤ hi) (hK : K (.bool true) H) : Good prog J 28 [vint n,vint lo,vint hi] H K := good28 hJ (by rw [decide_eq_true h]; exact hK)
variable {b : Bok} {mv kv hv dv : Value} {deed owner : Int} {bp : Nat}
theorem good27 (hJ : Closed prog main J) (A : HerdAt H b mv kv hv dv) (hK : ∀ H' p,p = H.length + 1 → SameX [] H H' → H'[p]? = some (.cells (bookC b mv kv hv dv (-1) 0) true 0) → K (ptr p 0) H') : Good prog J 27 [.agg ⟨herdC b mv kv hv dv⟩] H K := by
 refine g27 hJ fun ok => ?_
 rw [e27]
 refine qBox (l := herdC b mv kv hv dv) A.one fun H1 p1 e1 S1 c1 l1 => load_part (c := herdC b mv kv hv dv) c1 (by simp [herdC]) rfl A.kn ?_
 refine fillA (l := herdC b mv kv hv dv) rfl A.one (by simp) (fillV rfl rfl (by rw [wrAt_length]; simp) (fillI ?_))
 refine qBox (l := bookC b mv kv hv dv (-1) 0) ?_ fun H2 p2 e2 S2 c2 l2 => retL_same (by simp [unk,ptr]) (hK H2 p2 (by omega) (S1.trans S2) c2)
 have := A.one
 simp only [herdC,bookC,List.all_cons,List.all_nil,Bool.and_true,Bool.and_eq_true] at this ⊢
 exact ⟨this.1,this.2.1,this.2.2.1,this.2.2.2.1,this.2.2.2.2,rfl,rfl,rfl⟩
theorem good52 (hJ : Closed prog main J) (A : HerdAt H b mv kv hv dv) (hb : H[bp]? = some (.cells (bookC b mv kv hv dv deed owner) true 0)) {lv : Value} {l : List Int} (hl : Sli H lv 1 l.length (l.map vint)) (hll : l.length < 1000) (hml : b.ms.length ≤ 5) (hok : ∀ i ∈ l,0 ≤ i ∧ i ≤ (b.ms.length : Int) - 1) (hK : K (.bool true) H) : Good prog J 52 [ptr bp 0,lv] H K := by
 refine g52 hJ fun okh => ?_
 rw [e52]
 have kk := sli1 A.m.sli
 refine lenI hl ?_
 refine l52_1 hJ (fun k : Nat => l.length - k) (fun k F H' => k ≤ l.length ∧ H' = H ∧ F.ds = [] ∧ F.r 0 = ptr bp 0 ∧ F.r 7 = lv ∧ F.r 8 = vint (l.length : Nat) ∧ F.r 9 = vint (k : Nat)) ?_ (s := 0)
  (.inl ⟨by omega,rfl,rfl,rfl,rfl,rfl,rfl⟩)
 rintro k F H' ⟨hk,rfl,ds,r0,r7,r8,r9⟩ okc hnc
 rw [s52_1,r0,r7,r8,r9,ds]
 refine lssI (cndI (fun hlt => ?_) fun hge => retL_same (by simp [unk]) hK)
 have hkl : k < l.length := by omega
 have hget : l[k]? = some l[k] := List.getElem?_eq_getElem hkl
 have hb' := hok _ (List.getElem_mem hkl)
 refine sliN hl hget fun q => nilI (offI (offI (offI (ldI (v := mv) hb rfl kk.2.2 (lenI A.m.sli (subI (by omega) (hbtT hJ hb' (notI (cnd_false.2 ?_)))))))))
 exact addI (by omega) ⟨k + 1,by dsimp only; omega,.inl ⟨by omega,rfl,ds,r0,r7,r8,by show vint _ = vint _; congr 1⟩⟩
theorem good41 (hJ : Closed prog main J) (A : HerdAt H b mv kv hv dv) (hb : H[bp]? = some (.cells (bookC b mv kv hv dv deed owner) true 0)) {n : Int} (hn : 0 ≤ n ∧ n ≤ 1) (hK : K (.bool true) H) : Good prog J 41 [ptr bp 0,vint n] H K := by
 refine g41 hJ fun okh => ?_
 rw [e41]
 exact nilI (offI (offI (ldI (v := kv) hb rfl (sli1 A.k).2.2 (lenI A.k (subI (by decide) (hbtT hJ (by omega) (retL_same (by simp [unk]) hK)))))))
theorem ckdJ (hJ : Closed prog main J) (ok : BokOk b) (A : HerdAt H b mv kv hv dv) (hb : H[bp]? = some (.cells (bookC b mv kv hv dv deed owner) true 0)) {s : Sgt} (so : SgtOk s) {f : RG} {p1 p2 p3 : Nat}
  (c1 : H[p1]? = some (.cells (strayC s) true 0)) (c2 : ∃ l,l.length = 12 ∧ H[p2]? = some (.cells l true 0)) (c3 : H[p3]? = some (.cells [vint 5,vint 0,vint 0,vint 0,vint 0,vint 0,vint 0,vint 0,.bool false,.bool false,vint 0,vint 0] true 0)) (n1 : n0 ≤ p2) (n2 : n0 ≤ p3) (n3 : p3 ≠ p1) (n4 : p3 ≠ p2) (n5 : n0 ≤ p1) (n6 : bp < n0) {Hs : List AObj} (S0 : SameX [] Hs H) (hn0 : Hs.length = n0) (A0 : HerdAt Hs b mv kv hv dv)
  (ds : f.ds = []) (q0 : f.r 0 = ptr bp 0) (q3 : f.r 3 = ptr p1 0) (q5 : f.r 5 = ptr p2 0) (q6 : f.r 6 = ptr p3 0) (q16 : f.r 16 = vint 5) (q19 : f.r 19 = .bool false) (hK : ∀ H',SameX [] Hs H' → K (.tuple ⟨[vint 0,.agg ⟨strayC s⟩]⟩) H') :
  W prog J 104 n0 42 (subC [1,1,1,0,1,0,0,0,0,0,0,0,0,0,0,0,0,1,0,1] (codeOf f42)) f H (contX pl42 prog J 104 n0 42 ct42 [1,1,1,0,1,0,0,0,0,0,0,0,0,0,0,0,0,1,0,1] (codeOf f42) [] (RetQ prog [.tmp 4,.cell 5 46] n0 K)) := by
 rw [s42_2,q0,q3,q5,q6,q16,q19]
 obtain ⟨l2,hl2,c2⟩ := c2
 have m1 := lt_of_get c1
 have m2 := lt_of_get c2
 have m3 := lt_of_get c3
 refine cnd_false.2 (eqlF (by decide) (cnd_false.2 (eqlT rfl (cnd_true.2 ⟨[p1],?_⟩))))
 refine offI (ldI (v := vint 1) c1 rfl rfl ⟨by simp [RdOk,ptrBlk],offI (load_part (c := s.cells) c1 (by simp [strayC]) rfl rfl ⟨by simp [RdOk,ptrBlk],offI ?_⟩)⟩)
 refine qSt c3 (by simp) rfl rfl fun H4 S4 c4 l4 => ⟨sbX S4 (by simp; omega),offI ?_⟩
 have d1 := S4.get c1 (by simp; omega)
 refine qStP (c := s.cells) c4 rfl (by simp) rfl fun H5 S5 c5 l5 => offI (qSt c5 (by simp [wrAt_length]) rfl rfl fun H6 S6 c6 l6 => ?_)
 have c6 : H6[p3]? = some (.cells (strayC s) true 0) := c6
 have T6 : SameX [] Hs H6 := ((S0.thru S4 (by simp; omega)).thru S5 (by simp; omega)).thru S6 (by simp; omega)
 have g1 := S6.get (S5.get d1 (by simp; omega)) (by simp; omega)
 have g2 := S6.get (S5.get (S4.get c2 (by simp; omega)) (by simp; omega)) (by simp; omega)
 have gb := S6.get (S5.get (S4.get hb (by simp; omega)) (by simp; omega)) (by simp; omega)
 have A6 := A0.same T6
 refine offI (ldI (v := vint 1) g1 rfl rfl (good41 hJ A6 gb (by decide) (notI (cnd_false.2 ?_))))
 refine offI (ldI (v := vint 1) g1 rfl rfl (offI (ldI (v := vint 0) g1 rfl rfl (eqlF (by decide) (cnd_false.2 ?_)))))
 refine nilI (offI (offI (load_part (c := [vint b.t,mv]) gb (by simp [bookC]) rfl A.kn2 (offI (load_part (c := s.cells) g1 (by simp [strayC]) rfl rfl ?_)))))
 refine good6 hJ A6.m ok.reg so fun v o H7 S7 O7 => ext0 (ext1 ?_)
 refine load_part (c := strayC s) (S7.get c6 (by simp)) (by simp [strayC]) rfl rfl (qStA (c := strayC s) (S7.get g2 (by simp)) rfl hl2 rfl fun H8 S8 c8 l8 => ?_)
 refine retQs ds (resW_tmp (by show vint 0 ≠ unk; simp [unk]) (resW_cell (gg := true) (s := 12) (by kernel_rfl) ?_))
 show aLoad true 12 (f.r 5) _ _
 rw [q5]
 exact load_part (c := strayC s) c8 (by simp [strayC]) rfl rfl (resW_nil (hK H8 ((T6.trans S7).thru S8 (by simp; omega))))
theorem good42 (hJ : Closed prog main J) (ok : BokOk b) (A : HerdAt H b mv kv hv dv) (hb : H[bp]? = some (.cells (bookC b mv kv hv dv deed owner) true 0)) {s : Sgt} (so : SgtOk s) (hK : ∀ H',SameX [] H H' → K (.tuple ⟨[vint 0,.agg ⟨strayC s⟩]⟩) H') : Good prog J 42 [ptr bp 0,.agg ⟨strayC s⟩] H K := by
 refine g42 hJ fun okh => ?_
 rw [e42]
 have lb := lt_of_get hb
 refine qBox (l := strayC s) rfl fun H1 p1 e1 S1 c1 l1 => qAl fun H2 p2 e2 S2 c2 l2 => ?_
 have d1 := S2.get c1 (by simp)
 refine offI (ldI (v := vint 5) d1 rfl rfl (offI (ldI (v := vint 0) d1 rfl rfl (fillV rfl rfl (by decide) (fillV rfl rfl (by rw [wrAt_length]; decide) (fillI (qAl fun H3 p3 e3 S3 c3 l3 => ?_)))))))
 refine qStA (c := [vint 5,vint 0,vint 0,vint 0,vint 0,vint 0,vint 0,vint 0,.bool false,.bool false,vint 0,vint 0]) c3 rfl rfl rfl fun H4 S4 c4 l4 => ?_
 have T4 : SameX [] H H4 := ((S1.trans S2).trans S3).thru S4 (by simp; omega)
 have g1 := S4.get (S3.get d1 (by simp)) (by simp; omega)
 have g2 := S4.get (S3.get c2 (by simp)) (by simp; omega)
 refine offI (ldI (v := vint 5) g1 rfl rfl (eqlF (by decide) (cnd_false.2 (eqlF (by decide) (cnd_false.2 (eqlF (by decide) (hold.2 ?_)))))))
 exact ckdJ hJ ok (A.same T4) (T4.get hb (by simp)) so g1 ⟨_,rfl,g2⟩ c4 (by omega) (by omega) (by omega) (by omega) (by omega) (by omega) T4 rfl A rfl rfl rfl rfl rfl rfl rfl hK
theorem good24 (hJ : Closed prog main J) (ok : BokOk b) (A : HerdAt H b mv kv hv dv) (hb : H[bp]? = some (.cells (bookC b mv kv hv dv deed owner) true 0)) {s : Sgt} (so : SgtOk s) (hK : ∀ H',SameX [] H H' → K (vint 0) H') : Good prog J 24 [ptr bp 0,.agg ⟨strayC s⟩] H K := by
 refine g24 hJ fun okh => ?_
 rw [e24]
 refine qBox (l := strayC s) rfl fun H1 p1 e1 S1 c1 l1 => ?_
 have b1 := S1.get hb (by simp)
 have A1 := A.same S1
 refine offI (ldI (v := vint 5) c1 rfl rfl (hbtT hJ (by decide) (notI (cnd_false.2 (offI (ldI (v := vint 0) c1 rfl rfl (good41 hJ A1 b1 (by decide) (notI (cnd_false.2 ?_)))))))))
 refine load_part (c := strayC s) c1 (by simp [strayC]) rfl rfl (good42 hJ ok A1 b1 so fun H2 S2 => ext0 (ext1 (qAl fun H3 p3 e3 S3 c3 l3 => ?_)))
 refine qStA (c := strayC s) c3 rfl rfl rfl fun H4 S4 c4 l4 => eqlT rfl (cnd_true.2 ?_)
 have T := (S2.trans S3).thru S4 (by have := S2.1; simp; omega)
 refine load_part (c := strayC s) (T.get c1 (by simp)) (by simp [strayC]) rfl rfl (load_part (c := strayC s) c4 (by simp [strayC]) rfl rfl (neqDee (hold.2 ?_)))
 rw [s24_1]
 refine cnd_false.2 ?_
 exact retL_same (vs := [vint 0]) (by simp [unk]) (hK H4 (S1.trans T))
end
section
variable {main : Bool} {J : JT} {n0 : Nat} {h H : List AObj} {K : Value → List AObj → Prop} {KV : Value → Prop} {HL : List AObj → Prop}
variable {b : Bok} {mv kv hv dv : Value} {deed owner : Int} {bp : Nat}
theorem RowsAt.lenI {hv : Value} {rows : List (List Int)} (a : RowsAt H hv rows) (hk : KV (vint (2 : Nat))) : aLenS hv KV := by
 obtain ⟨vs,h1,h2,h3⟩ := a
 exact Go.Proofs.Ytkbfhelfnagccaa.lenI h2 hk
theorem good51 (hJ : Closed prog main J) (ok : BokOk b) (A : HerdAt H b mv kv hv dv) (hb : H[bp]? = some (.cells (bookC b mv kv hv dv deed owner) true 0)) (hK : K (vint 0) H) : Good prog J 51 [ptr bp 0] H K := by
 refine g51 hJ fun okh => ?_
 rw [e51]
 have hkv := (sli1 A.k).2.2
 have hhv := A.h.val.2.2
 have hmv := (sli1 A.m.sli).2.2
 have hml := ok.reg.len
 have a0 := ok.k0
 have a1 := ok.k1
 refine nilI (offI (offI (ldI (v := kv) hb rfl hkv (lenI A.k (eqlF (by decide) (cnd_false.2 (gtrF (by decide) (cnd_false.2 ?_))))))))
 refine nilI (offI (offI (ldI (v := kv) hb rfl hkv (good52 hJ (l := [(b.k0 : Int),(b.k1 : Int)]) A hb A.k (by simp) hml (by simp; omega) (notI (cnd_false.2 ?_))))))
 refine nilI (offI (offI (ldI (v := hv) hb rfl hhv (A.h.lenI (neqF rfl (cnd_false.2 ?_))))))
 refine nilI (offI (offI (ldI (v := hv) hb rfl hhv (A.h.lenI ?_))))
 refine l51_1 hJ (fun k : Nat => 2 - k) (fun k F H' => k ≤ 2 ∧ H' = H ∧ F.ds = [] ∧ F.r 0 = ptr bp 0 ∧ F.r 44 = hv ∧ F.r 45 = vint (2 : Nat) ∧ F.r 46 = vint (k : Nat)) ?_ (s := 0)
  (.inl ⟨by omega,rfl,rfl,rfl,rfl,rfl,rfl⟩)
 rintro k F H' ⟨hk,rfl,ds,r0,r44,r45,r46⟩ okc hnc
 rw [s51_1,r0,r44,r45,r46,ds]
 refine lssI (cndI (fun hlt => ?_) fun hge => ?_)
 ·have hk2 : k < 2 := by omega
  obtain ⟨r,hr⟩ := row_of (b := b) hk2
  have hrl := (ok.row hr).1
  refine rowI A.h hr hk2 fun q v hv' => lenI hv' (nilI (offI (offI (offI (ldI (v := mv) hb rfl hmv (lenI A.m.sli (neqF (by rw [hrl]) (cnd_false.2 ?_))))))))
  exact addI (by omega) ⟨k + 1,by dsimp only; omega,.inl ⟨by omega,rfl,ds,r0,r44,r45,by show vint _ = vint _; congr 1⟩⟩
 refine nilI (offI (offI (ldI (v := hv) hb rfl hhv (A.h.lenI ?_))))
 refine l51_2 hJ (fun k : Nat => 2 - k) (fun k F H'' => k ≤ 2 ∧ H'' = H' ∧ F.ds = [] ∧ F.r 65 = hv ∧ F.r 66 = vint (2 : Nat) ∧ F.r 67 = vint (k : Nat)) ?_ (s := 0)
  (.inl ⟨by omega,rfl,ds,rfl,rfl,rfl⟩)
 clear ds r0 r44 r45 r46
 rintro k F H'' ⟨hk,rfl,ds,r65,r66,r67⟩ okc hnc
 rw [s51_2,r65,r66,r67,ds]
 refine lssI (cndI (fun hlt => ?_) fun hge => retL_same (by simp [unk]) hK)
 have hk2 : k < 2 := by omega
 obtain ⟨r,hr⟩ := row_of (b := b) hk2
 obtain ⟨hrl,hrb⟩ := ok.row hr
 refine rowI A.h hr hk2 fun q v hv' => lenI hv' ?_
 refine l51_3 hJ (fun j : Nat => r.length - j) (fun j F' H3 => j ≤ r.length ∧ H3 = H'' ∧ F'.ds = [] ∧ F'.r 65 = hv ∧ F'.r 66 = vint (2 : Nat) ∧ F'.r 67 = vint (k : Nat) ∧ F'.r 71 = v ∧ F'.r 72 = vint (r.length : Nat) ∧ F'.r 73 = vint (j : Nat)) ?_ (s := 0)
  (.inl ⟨by omega,rfl,ds,r65,r66,r67,rfl,rfl,rfl⟩)
 clear ds r65 r66 r67
 rintro j F' H3 ⟨hj,rfl,ds,r65,r66,r67,r71,r72,r73⟩ okc' hnc'
 rw [s51_3,r67,r71,r72,r73]
 refine lssI (cndI (fun hlt2 => ?_) fun hge2 => addI (by omega) ⟨k + 1,by dsimp only; omega,.inl ⟨by omega,rfl,ds,r65,r66,by show vint _ = vint _; congr 1⟩⟩)
 have hjl : j < r.length := by omega
 refine sliN hv' (List.getElem?_eq_getElem hjl) fun q' => hbtT hJ (hrb _ (List.getElem_mem hjl)) (notI (cnd_false.2 ?_))
 exact addI (by omega) ⟨j + 1,by dsimp only; omega,.inl ⟨by omega,rfl,ds,r65,r66,r67,r71,r72,by show vint _ = vint _; congr 1⟩⟩
theorem good40 (hJ : Closed prog main J) (ok : BokOk b) (A : HerdAt H b mv kv hv dv) (hK : ∀ H',SameX [] H H' → K (vint 0) H') : Good prog J 40 [.agg ⟨herdC b mv kv hv dv⟩] H K := by
 refine g40 hJ fun okh => ?_
 rw [e40]
 have hdv := (sli1 A.d).2.2
 have hnd := ok.nd
 refine qBox (l := herdC b mv kv hv dv) A.one fun H1 p1 e1 S1 c1 l1 => offI (load_part (c := [vint b.t,mv]) c1 (by simp [herdC]) rfl A.kn2 ?_)
 refine good18 hJ (A.same S1).m ok.reg fun H2 S2 => neqF rfl (cnd_false.2 (load_part (c := herdC b mv kv hv dv) (S2.get c1 (by simp)) (by simp [herdC]) rfl A.kn ?_))
 have T2 := S1.trans S2
 refine good27 hJ (A.same T2) fun H3 bp e3 S3 cb => ?_
 have T3 := T2.trans S3
 have A3 := A.same T3
 have d1 := S3.get (S2.get c1 (by simp)) (by simp)
 refine good51 hJ ok A3 cb (neqF rfl (cnd_false.2 (offI (ldI (v := dv) d1 rfl hdv (lenI A3.d (gtrF (by omega) (cnd_false.2 (offI (ldI (v := dv) d1 rfl hdv (lenI A3.d ?_))))))))))
 refine l40_1 hJ (fun k : Nat => b.ds.length - k) (fun k F H' => k ≤ b.ds.length ∧ SameX [] H3 H' ∧ F.ds = [] ∧ F.r 4 = ptr bp 0 ∧ F.r 27 = dv ∧ F.r 28 = vint (b.ds.length : Nat) ∧ F.r 29 = vint (k : Nat)) ?_ (s := 0)
  (.inl ⟨by omega,SameX.refl,rfl,rfl,rfl,rfl,rfl⟩)
 rintro k F H' ⟨hk,S,ds,r4,r27,r28,r29⟩ okc hnc
 rw [s40_1,r4,r27,r28,r29,ds]
 refine lssI (cndI (fun hlt => ?_) fun hge => retL_same (by simp [unk]) (hK H' (T3.trans S)))
 have hkl : k < b.ds.length := by omega
 have so := ok.ds _ (List.getElem_mem hkl)
 refine elemE (enc := strayC) (fun _ => rfl) (by decide) (A3.same S).d hkl fun q => ?_
 generalize b.ds[k] = s at *
 refine qAl fun H4 p4 e4 S4 c4 l4 => qStA (c := strayC s) c4 rfl rfl rfl fun H5 S5 c5 l5 => load_part (c := strayC s) c5 (by simp [strayC]) rfl rfl ?_
 have T5 : SameX [] H3 H5 := (S.trans S4).thru S5 (by have := S.1; simp; omega)
 refine good24 hJ ok (A3.same T5) (T5.get cb (by simp)) so fun H6 S6 => neqF rfl (cnd_false.2 ?_)
 exact addI (by omega) ⟨k + 1,by dsimp only; omega,.inl ⟨by omega,T5.trans S6,ds,r4,r27,r28,by show vint _ = vint _; congr 1⟩⟩
theorem good23 (hJ : Closed prog main J) (ok : BokOk b) (A : HerdAt H b mv kv hv dv) (hK : ∀ H' p,H.length ≤ p → SameX [] H H' → H'[p]? = some (.cells (bookC b mv kv hv dv (-1) 0) true 0) → K (.tuple ⟨[ptr p 0,vint 0]⟩) H') : Good prog J 23 [.agg ⟨herdC b mv kv hv dv⟩] H K := by
 refine g23 hJ fun okh => ?_
 rw [e23]
 refine qBox (l := herdC b mv kv hv dv) A.one fun H1 p1 e1 S1 c1 l1 => load_part (c := herdC b mv kv hv dv) c1 (by simp [herdC]) rfl A.kn ?_
 refine good40 hJ ok (A.same S1) fun H2 S2 => neqF rfl (cnd_false.2 (load_part (c := herdC b mv kv hv dv) (S2.get c1 (by simp)) (by simp [herdC]) rfl A.kn ?_))
 have T2 := S1.trans S2
 have hT2 := T2.1
 exact good27 hJ (A.same T2) fun H3 bp e3 S3 cb => retL_same (nu2 (by simp [unk,ptr]) (by simp [unk])) (hK H3 bp (by omega) (T2.trans S3) cb)
theorem eqlNil {t e : TypeId} {base : Option Addr} {n c : Nat} (ht : prog.underlying t = some (.slice e)) (hg : prog.eqGuardType prog.depth t = false) (hk : KV (.bool base.isNone)) : aBin prog .eql t (.slice base n c) (.slice none 0 0) KV := by
 show aEq prog false t (.slice base n c) (.slice none 0 0) KV
 have : teq prog 10000 t (.slice base n c) (.slice none 0 0) = some base.isNone := by
  unfold teq
  rw [ht]
  cases base <;> rfl
 unfold aEq
 rw [this]
 exact ⟨hg,by simpa using hk⟩
theorem sli_some {v : Value} {s n : Nat} {cs : List Value} (hs : Sli H v s n cs) (h0 : 0 < n) : ∃ a c,v = .slice (some a) n c := by
 obtain ⟨base,c,rfl,⟨hl,hkn⟩,⟨_,hz⟩ | ⟨b,o,rfl,hz | ⟨cs,wr,sz,hb,hc⟩⟩⟩ := hs
 ·omega
 ·omega
 ·exact ⟨_,_,rfl⟩
def Kept (X : List Nat) (H : List AObj) (P : List AObj → Prop) : Prop := ∀ H',SameX X H H' → P H'
theorem Kept.now {X : List Nat} {H : List AObj} {P : List AObj → Prop} (a : Kept X H P) : P H := a H SameX.refl
theorem Kept.to {X : List Nat} {H H' : List AObj} {P : List AObj → Prop} (a : Kept X H P) (S : SameX X H H') : Kept X H' P := fun _ S' => a _ (S.trans S')
theorem good43 (hJ : Closed prog main J) {ms : List Mrk} (hm : MksAt H mv ms) (h0 : 0 < ms.length) (hl : ms.length ≤ 5) (hK : ∀ v' H',SameX [] H H' → (∀ X,(∀ x ∈ X,x < H.length) → Kept X H' fun h => MksAt h v' ms) → K v' H') : Good prog J 43 [mv] H K := by
 refine g43 hJ fun ok => ?_
 rw [e43]
 obtain ⟨a,c,e⟩ := sli_some hm.sli h0
 subst e
 refine eqlNil (e := 30) (by kernel_rfl) (by kernel_rfl) (cnd_false.2 ⟨⟨by decide,by decide,rfl⟩,fillI (qNew fun H1 p1 e1 S1 c1 l1 => ⟨⟨rfl,by decide,by decide,by decide⟩,?_⟩)⟩)
 refine appX (s := 3) c1 (by decide) (by omega) (hm.same S1).sli fun v' H' p' O S hp => retL_same (vs := [v']) (by simpa using ownU O) (hK v' H' (S1.trans S) fun X hX H'' S'' => ⟨_,ownX_keep O S'' fun i hi hm => ?_⟩)
 cases hi
 have := hX _ hm
 omega
theorem good44 (hJ : Closed prog main J) {v : Value} {n : Nat} {cs : List Value} (hv : Sli H v 1 n cs) (h0 : 0 < n) (hl : n ≤ 1000) (hK : ∀ v' H',SameX [] H H' → (∀ X,(∀ x ∈ X,x < H.length) → Kept X H' fun h => Sli h v' 1 n cs) → K v' H') : Good prog J 44 [v] H K := by
 refine g44 hJ fun ok => ?_
 rw [e44]
 obtain ⟨a,c,e⟩ := sli_some hv h0
 subst e
 refine eqlNil (e := 3) (by kernel_rfl) (by kernel_rfl) (cnd_false.2 ⟨⟨by decide,by decide,rfl⟩,fillI (qNew fun H1 p1 e1 S1 c1 l1 => ⟨⟨rfl,by decide,by decide,by decide⟩,?_⟩)⟩)
 refine appX (s := 1) c1 (by decide) (by omega) (S1.sli hv (by simp)) fun v' H' p' O S hp => retL_same (vs := [v']) (by simpa using ownU O) (hK v' H' (S1.trans S) fun X hX H'' S'' => ownX_sli (ownX_keep O S'' fun i hi hm => ?_))
 cases hi
 have := hX _ hm
 omega
theorem good45 (hJ : Closed prog main J) (hK : K (.slice none 0 0) H) : Good prog J 45 [.slice none 0 0] H K := by
 refine g45 hJ fun ok => ?_
 rw [e45]
 exact eqlNil (e := 46) (by kernel_rfl) (by kernel_rfl) (cnd_true.2 (retL_same (by simp [unk]) hK))
theorem qMk {z : List Value} {n : Nat} (hn : n ≤ 100000) (hk : ∀ H' p,p = H.length → SameX [] H H' → H'[p]? = some (.cells (zrep z n) true 0) → H'.length = p + 1 → K (.slice (some ⟨p,0,none⟩) n n) H') : aMkS z (vint n) (vint n) H K := by
 have hr : room = 1073741824 := rfl
 simp only [aMkS,Int.toNat_natCast]
 exact ⟨by omega,by omega,by omega,hk _ _ rfl SameX.refl.app (by simp) (by simp)⟩
theorem good25 (hJ : Closed prog main J) (ok : BokOk b) (hds : b.ds = []) (A : HerdAt H b mv kv hv (.slice none 0 0)) (X : List Nat) (hX : ∀ x ∈ X,x < H.length) (hK : ∀ mv' kv' hv' H',SameX [] H H' → (Kept X H' fun h => HerdAt h b mv' kv' hv' (.slice none 0 0)) → K (.agg ⟨herdC b mv' kv' hv' (.slice none 0 0)⟩) H') : Good prog J 25 [.agg ⟨herdC b mv kv hv (.slice none 0 0)⟩] H K := by
 refine g25 hJ fun okh => ?_
 rw [e25]
 have hkv := (sli1 A.k).2.2
 have hhv := A.h.val.2.2
 have hmv := (sli1 A.m.sli).2.2
 have hml := ok.reg.len
 have h0 : 0 < b.ms.length := by have := ok.k0; omega
 refine qBox (l := herdC b mv kv hv (.slice none 0 0)) A.one fun H1 p1 e1 S1 c1 l1 => qAl fun H2 p2 e2 S2 c2 l2 => ?_
 have T2 := S1.trans S2
 have d1 := S2.get c1 (by simp)
 refine offI (offI (ldI (v := mv) d1 rfl hmv (good43 hJ (A.same T2).m h0 hml fun mv' H3 S3 M3 => offI (offI ?_))))
 have l2' : H2.length = p1 + 2 := by omega
 have hX2 : ∀ {n : Nat},p1 + 2 ≤ n → ∀ x ∈ p1 :: p2 :: X,x < n := fun {n} hn x hx => by
  simp only [List.mem_cons] at hx
  rcases hx with h | h | h
  ·omega
  ·omega
  ·have := hX x h; omega
 have Km : Kept (p1 :: p2 :: X) H3 fun h => MksAt h mv' b.ms := M3 _ (hX2 (by omega))
 have km := sli1 Km.now.sli
 refine qSt (S3.get d1 (by simp)) (by simp [herdC]) km.1 km.2.1 fun H4 S4 c4 l4 => ?_
 have z3 := S3.1
 have T4 : SameX [] H H4 := (T2.trans S3).thru S4 (by simp; omega)
 have A4 := A.same T4
 have m1 := lt_of_get c4
 refine ⟨[p1],offI (ldI (v := kv) c4 rfl hkv ⟨by simp [RdOk,ptrBlk],offI (ldI (v := .slice none 0 0) c4 rfl rfl ⟨by simp [RdOk,ptrBlk],good44 hJ A4.k (by decide) (by decide) fun kv' H5 S5 M5 => ⟨sbX S5 (by simp; omega),offI (good45 hJ ⟨sbX S5 (by simp; omega),?_⟩)⟩⟩)⟩)⟩
 have Kk : Kept (p1 :: p2 :: X) H5 fun h => Sli h kv' 1 2 [vint b.k0,vint b.k1] := M5 _ (hX2 (by have := S4.1; omega))
 have kk := sli1 Kk.now
 have z5 := S5.1
 refine qSt (S5.get c4 (by simp)) (by simp [herdC]) kk.1 kk.2.1 fun H6 S6 c6 l6 => offI (qSt c6 (by simp [herdC]) rfl rfl fun H7 S7 c7 l7 => ?_)
 have c7 : H7[p1]? = some (.cells [vint b.t,mv',kv',hv,.slice none 0 0] true 0) := c7
 have T7 : SameX [] H H7 := ((T4.trans S5).thru S6 (by simp; omega)).thru S7 (by simp; omega)
 have U6 : SameX [p1,p2] H5 H7 := (S6.weak (by simp)).trans (S7.weak (by simp))
 have U4 : SameX [p1,p2] H3 H7 := ((S4.weak (by simp)).trans S5.weak0).trans U6
 have A7 := A.same T7
 have c2' : H7[p2]? = some (.cells [vint 0,.slice none 0 0,.slice none 0 0,.slice none 0 0,.slice none 0 0] true 0) := S7.get (S6.get (S5.get (S4.get (S3.get c2 (by simp)) (by simp; omega)) (by simp)) (by simp; omega)) (by simp; omega)
 refine offI (ldI (v := hv) c7 rfl hhv (A7.h.lenI ⟨⟨rfl,by decide⟩,qMk (n := 2) (by decide) fun H8 q e8 S8 c8 l8 => offI (ldI (v := hv) (S8.get c7 (by simp)) rfl hhv ((A7.same S8).h.lenI ?_))⟩))
 have c8 : H8[q]? = some (.cells [.slice none 0 0,.slice none 0 0] true 0) := c8
 have m7 := lt_of_get c7
 have m2 := lt_of_get c2'
 refine l25_1 hJ (fun k : Nat => 2 - k) (fun k F H' => ∃ vs : List Value,k ≤ 2 ∧ vs.length = 2 ∧ Go.Proofs.Ytkbfhelfnagccaa.kn vs = true ∧ H'[q]? = some (.cells vs true 0) ∧ (∀ i r,i < k → b.rows[i]? = some r → ∃ v,vs[i]? = some v ∧ Kept (q :: p1 :: p2 :: X) H' fun h => Sli h v 1 r.length (r.map vint)) ∧ SameX [p1,p2] H7 H' ∧ SameX [] H H' ∧ H'[p1]? = some (.cells [vint b.t,mv',kv',hv,.slice none 0 0] true 0) ∧ H'[p2]? = some (.cells [vint 0,.slice none 0 0,.slice none 0 0,.slice none 0 0,.slice none 0 0] true 0) ∧ F.ds = [] ∧ F.r 1 = ptr p1 0 ∧ F.r 2 = ptr p2 0 ∧ F.r 3 = .slice (some ⟨q,0,none⟩) 2 2 ∧ F.r 25 = hv ∧ F.r 26 = vint (2 : Nat) ∧ F.r 27 = vint (k : Nat)) ?_ (s := 0)
  (.inl ⟨[.slice none 0 0,.slice none 0 0],by omega,rfl,rfl,c8,fun i r hi => absurd hi (Nat.not_lt_zero _),S8.weak0,T7.trans S8,S8.get c7 (by simp),S8.get c2' (by simp),rfl,rfl,rfl,rfl,rfl,rfl,rfl⟩)
 rintro k F H' ⟨vs,hk,hvl,hvk,cq,hrow,U,T,f1,f2,ds,r1,r2,r3,r25,r26,r27⟩ okc hnc
 rw [s25_1,r1,r2,r3,r25,r26,r27]
 refine lssI (cndI (fun hlt => ?_) fun hge => ?_)
 ·have hk2 : k < 2 := by omega
  obtain ⟨r,hr⟩ := row_of (b := b) hk2
  obtain ⟨hrl,hrb⟩ := ok.row hr
  refine rowI (A.same T).h hr hk2 fun q' v hv' => good44 hJ hv' (by omega) (by omega) fun v' H9 S9 M9 => idxI (by omega) ?_
  have g1 := lt_of_get f1
  have g2 := lt_of_get f2
  have g3 := lt_of_get cq
  have K9 : Kept (q :: p1 :: p2 :: X) H9 fun h => Sli h v' 1 r.length (r.map vint) := M9 _ fun x hx => by
   rcases List.mem_cons.1 hx with h | h
   ·omega
   ·exact hX2 (by omega) x h
  have kv9 := sli1 K9.now
  rw [Int.toNat_natCast,Nat.zero_add,Nat.mul_one]
  refine qSt (S9.get cq (by simp)) (by omega) kv9.1 kv9.2.1 fun H10 S10 c10 l10 => addI (by omega) ⟨k + 1,by dsimp only; omega,.inl ⟨vs.set k v',by omega,by simpa using hvl,?_,c10,?_,?_,?_,S10.get (S9.get f1 (by simp)) (by simp; omega),S10.get (S9.get f2 (by simp)) (by simp; omega),ds,r1,r2,r3,r25,r26,by show vint _ = vint _; congr 1⟩⟩
  ·unfold Go.Proofs.Ytkbfhelfnagccaa.kn at hvk ⊢
   rw [List.all_eq_true] at hvk ⊢
   intro x hx
   rcases List.mem_or_eq_of_mem_set hx with hx | rfl
   ·exact hvk x hx
   ·exact kv9.2.2
  ·intro i r' hi hr'
   by_cases e : i = k
   ·subst e
    rw [hr] at hr'
    cases hr'
    exact ⟨v',by rw [List.getElem?_set_self (by omega)],K9.to (S10.weak (by simp))⟩
   ·obtain ⟨w,h1,h2⟩ := hrow i r' (by omega) hr'
    exact ⟨w,by rw [List.getElem?_set_ne (Ne.symm e)]; exact h1,h2.to (S9.weak0.trans (S10.weak (by simp)))⟩
  ·exact (U.trans S9.weak0).thru S10 (by simp; omega)
  ·exact (T.trans S9).thru S10 (by simp; omega)
 ·have : k = 2 := by omega
  subst this
  refine offI (qSt f1 (by simp) rfl rfl fun H9 S9 c9 l9 => ?_)
  have c9 : H9[p1]? = some (.cells (herdC b mv' kv' (.slice (some ⟨q,0,none⟩) 2 2) (.slice none 0 0)) true 0) := c9
  have kn9 : Go.Proofs.Ytkbfhelfnagccaa.kn (herdC b mv' kv' (.slice (some ⟨q,0,none⟩) 2 2) (.slice none 0 0)) = true := by
   simp [Go.Proofs.Ytkbfhelfnagccaa.kn,herdC,km.2.2,kk.2.2]
   exact ⟨rfl,rfl,rfl⟩
  have on9 : (herdC b mv' kv' (.slice (some ⟨q,0,none⟩) 2 2) (.slice none 0 0)).all Go.Proofs.Ytkbfhelfnagccaa.one = true := by
   simp [herdC,km.2.1,kk.2.1]
   exact ⟨rfl,rfl,rfl⟩
  refine load_part c9 (by simp [herdC]) rfl kn9 (qStA (S9.get f2 (by simp; omega)) rfl rfl on9 fun H10 S10 c10 l10 => retQs ds (resW_cell (gg := true) (s := 5) (by kernel_rfl) ?_))
  show aLoad true 5 (F.r 2) _ _
  rw [r2]
  have g1 := lt_of_get f1
  have g2 := lt_of_get f2
  have g3 := lt_of_get cq
  have V : SameX [p1,p2] H' H10 := (S9.weak (by simp)).trans (S10.weak (by simp))
  have w2 : ∀ {A B : List AObj},SameX [p1,p2] A B → SameX (p1 :: p2 :: X) A B := fun S => S.weak (by simp)
  have qX : q ∉ X := fun hm => by have := hX q hm; omega
  refine load_part c10 (by simp [herdC]) rfl kn9 (resW_nil (hK mv' kv' _ H10 ((T.thru S9 (by simp; omega)).thru S10 (by simp; omega)) fun H11 S11 => ⟨?_,?_,?_,?_⟩))
  ·exact Km H11 ((w2 ((U4.trans U).trans V)).trans (S11.weak fun x hx => by simp [hx]))
  ·exact Kk H11 ((w2 ((U6.trans U).trans V)).trans (S11.weak fun x hx => by simp [hx]))
  ·refine ⟨vs,hvl,ownX_sli (ownX_new (s := 1) (n := 2) (S11.get (V.get cq (by simp; omega)) qX) (by omega) hvk),fun i r hr => ?_⟩
   have hi : i < 2 := (List.getElem?_eq_some_iff.1 hr).1
   obtain ⟨w,h1,h2⟩ := hrow i r hi hr
   exact ⟨w,h1,h2 H11 (((w2 V).trans (S11.weak fun x hx => by simp [hx])).weak fun x hx => List.mem_cons_of_mem _ hx)⟩
  ·rw [hds]
   exact sli_nil
end
def hdL (x : Nat → Int) : List Value := (List.range 15).map fun i => vint (x i)
def hdV (x : Nat → Int) : Value := .agg ⟨hdL x⟩
theorem hdL_len (x : Nat → Int) : (hdL x).length = 15 := by simp [hdL]
theorem hdL_get (x : Nat → Int) {i : Nat} (h : i < 15) : (hdL x)[i]? = some (vint (x i)) := by
 unfold hdL
 rw [List.getElem?_map,List.getElem?_range h]
 rfl
theorem hdL_eq {x : Nat → Int} {l : List Value} (hl : l.length = 15) (h : ∀ i,i < 15 → l[i]? = some (vint (x i))) : l = hdL x := by
 apply List.ext_getElem?
 intro i
 by_cases hi : i < 15
 ·rw [h i hi,hdL_get x hi]
 ·rw [List.getElem?_eq_none (by omega),List.getElem?_eq_none (by rw [hdL_len]; omega)]
theorem hdL_kn (x : Nat → Int) : kn (hdL x) = true := by
 simp [hdL,kn,kn1]
theorem hdL_one (x : Nat → Int) : (hdL x).all one = true := by
 simp [hdL,one]
def movF (x : Nat → Int) (j : Nat) (m : Int) : Nat → Int := fun i => if i = j then x i + m else x i
theorem hdL_mov (x : Nat → Int) {j : Nat} {m : Int} (hj : j < 15) : (hdL x).set j (vint (x j + m)) = hdL (movF x j m) := by
 refine hdL_eq (by simp [hdL_len]) fun i hi => ?_
 rw [List.getElem?_set]
 by_cases e : j = i
 ·subst e
  rw [if_pos rfl,if_pos (by rw [hdL_len]; exact hj),movF,if_pos rfl]
 ·rw [if_neg e,hdL_get x hi,movF,if_neg (Ne.symm e)]
def fstK (b : Bok) (k : Nat) : Nat → Int := fun i => if i < 5 * k then (if i < 5 then b.r0.getD i 0 else if i < 10 then b.r1.getD (i - 5) 0 else 0) else 0
def firstF (b : Bok) : Nat → Int := fstK b 2
def ownF (x : Nat → Int) (o : Nat) : Int := x o + x (5 + o) + x (10 + o)
def strayF (x : Nat → Int) (o : Nat) : Nat → Int := movF (movF x o (-1)) (5 + o) 1
theorem own_stray {x : Nat → Int} {o i : Nat} (ho : o < 5) (hi : i < 5) : ownF (strayF x o) i = ownF x i := by
 unfold ownF strayF movF
 by_cases e : i = o
 ·subst e
  rw [if_neg (by omega),if_pos rfl,if_pos rfl,if_neg (by omega),if_neg (by omega),if_neg (by omega)]
  omega
 ·rw [if_neg (by omega),if_neg (by omega),if_neg (by omega),if_neg (by omega),if_neg (by omega),if_neg (by omega)]
theorem stray_ne {x : Nat → Int} {o o' : Nat} (ho : o < 5) (ho' : o' < 5) (h : o ≠ o') : ∃ i,i < 15 ∧ strayF x o i ≠ strayF x o' i := by
 refine ⟨o,by omega,?_⟩
 unfold strayF movF
 rw [if_neg (by omega),if_pos rfl,if_neg (by omega),if_neg h]
 omega
theorem wrAt_get : ∀ (xs c : List Value) (o i : Nat),o + xs.length ≤ c.length → (wrAt c o xs)[i]? = if o ≤ i ∧ i < o + xs.length then xs[i - o]? else c[i]?
 | [],c,o,i,_ => by
  rw [if_neg (by simp only [List.length_nil]; omega)]
  rfl
 | x :: xs,c,o,i,h => by
  simp only [List.length_cons] at h
  unfold wrAt
  rw [wrAt_get xs _ _ _ (by simp; omega)]
  by_cases e : o = i
  ·subst e
   rw [if_neg (by omega),if_pos (by simp),List.getElem?_set_self (by omega),Nat.sub_self]
   rfl
  ·rw [List.getElem?_set_ne e]
   by_cases h2 : o + 1 ≤ i ∧ i < o + 1 + xs.length
   ·rw [if_pos h2,if_pos (by simp; omega)]
    obtain ⟨j,hj⟩ : ∃ j,i - o = j + 1 := ⟨i - o - 1,by omega⟩
    rw [hj,show i - (o + 1) = j from by omega]
    rfl
   ·rw [if_neg h2,if_neg (by simp; omega)]
def rowB (x0 x1 x2 x3 x4 y0 y1 y2 y3 y4 : Int) : Option Bool := mB (some (x0 == y0)) (mB (some (x1 == y1)) (mB (some (x2 == y2)) (mB (some (x3 == y3)) (mB (some (x4 == y4)) (some true)))))
theorem teqH0 (x y : Nat → Int) : teq prog 10000 83 (hdV x) (hdV y) = mB (rowB (x 0) (x 1) (x 2) (x 3) (x 4) (y 0) (y 1) (y 2) (y 3) (y 4)) (mB (rowB (x 5) (x 6) (x 7) (x 8) (x 9) (y 5) (y 6) (y 7) (y 8) (y 9)) (mB (rowB (x 10) (x 11) (x 12) (x 13) (x 14) (y 10) (y 11) (y 12) (y 13) (y 14)) (some true))) := by kernel_rfl
theorem teqH_ne {x y : Nat → Int} (h : ∃ i,i < 15 ∧ x i ≠ y i) : teq prog 10000 83 (hdV x) (hdV y) = some false := by
 rw [teqH0]
 simp only [rowB,mB_some,Option.some.injEq]
 obtain ⟨i,hi,hne⟩ := h
 rw [Bool.eq_false_iff]
 intro hall
 simp only [Bool.and_eq_true,beq_iff_eq,and_true] at hall
 obtain ⟨⟨h0,h1,h2,h3,h4⟩,⟨h5,h6,h7,h8,h9⟩,h10,h11,h12,h13,h14⟩ := hall
 rcases (by omega : i = 0 ∨ i = 1 ∨ i = 2 ∨ i = 3 ∨ i = 4 ∨ i = 5 ∨ i = 6 ∨ i = 7 ∨ i = 8 ∨ i = 9 ∨ i = 10 ∨ i = 11 ∨ i = 12 ∨ i = 13 ∨ i = 14) with rfl | rfl | rfl | rfl | rfl | rfl | rfl | rfl | rfl | rfl | rfl | rfl | rfl | rfl | rfl <;> exact hne (by assumption)
theorem hdV_key (x : Nat → Int) : kOk prog 10000 83 (hdV x) = true := by kernel_rfl
theorem hdV_same (x : Nat → Int) : Instr.sameBits 10000 (hdV x) (hdV x) = true := by
 simp [Instr.sameBits,hdV,hdL,vint,List.range,List.range.loop]
theorem hdV_ok (x : Nat → Int) : VOk 0 (hdV x) := by
 simp [VOk,AOk,LOk,hdV,hdL,vint,List.range,List.range.loop]
def entH (x : Nat → Int) : Value × Value := (hdV x,.bool true)
def doF (bp : Nat) (g : Nat) : Value := .func (.func g) ⟨[ptr bp 0]⟩ ⟨[]⟩
def doesL (bp : Nat) : List (Value × Value) := [(vint 1,doF bp 60),(vint 2,doF bp 61),(vint 3,doF bp 62),(vint 4,doF bp 63),(vint 5,doF bp 64),(vint 6,doF bp 65)]
section
variable {main : Bool} {J : JT} {n0 : Nat} {h H : List AObj} {K : Value → List AObj → Prop} {KV : Value → Prop} {HL : List AObj → Prop}
variable {b : Bok} {mv kv hv dv : Value} {deed owner : Int} {bp : Nat}
theorem sameSt {q : Nat} {o : AObj} {H H' : List AObj} (S : SameX [q] H H') (h1 : H[q]? = some o) (h2 : H'[q]? = some o) : SameX [] H H' := ⟨S.1,fun i hi _ => by
 by_cases e : i = q
 ·subst e
  rw [h1,h2]
 ·exact S.2 i hi (by simpa using e)⟩
theorem idxO {s len q o : Nat} {j : Nat} (h1 : j < len) (hk : KV (ptr q (o + j * s))) : aIdxA len s (ptr q o) (vint (j : Nat)) KV :=
 ⟨⟨by omega,by omega⟩,by rw [Int.toNat_natCast]; exact hk⟩
theorem fst_step {k : Nat} {r : List Int} (hr : b.rows[k]? = some r) (hl : r.length ≤ 5) : wrAt (hdL (fstK b k)) (5 * k) (r.map vint) = hdL (fstK b (k + 1)) := by
 have hk : k < 2 := (List.getElem?_eq_some_iff.1 hr).1
 have hle : 5 * k + (r.map vint).length ≤ (hdL (fstK b k)).length := by rw [hdL_len,List.length_map]; omega
 refine hdL_eq (by rw [wrAt_length,hdL_len]) fun i hi => ?_
 rw [wrAt_get _ _ _ _ hle,List.length_map]
 have hrow : ∀ j,j < 5 → r.getD j 0 = if k = 0 then b.r0.getD j 0 else b.r1.getD j 0 := by
  intro j _
  rcases (by omega : k = 0 ∨ k = 1) with rfl | rfl
  ·cases hr
   rw [if_pos rfl]
  ·cases hr
   rw [if_neg (by omega)]
 by_cases h1 : 5 * k ≤ i ∧ i < 5 * k + r.length
 ·rw [if_pos h1,List.getElem?_map,List.getElem?_eq_getElem (by omega)]
  have e : r[i - 5 * k]'(by omega) = r.getD (i - 5 * k) 0 := by rw [List.getD_eq_getElem?_getD,List.getElem?_eq_getElem (by omega)]; rfl
  rw [e,hrow _ (by omega)]
  simp only [Option.map_some,fstK]
  rw [if_pos (show i < 5 * (k + 1) by omega)]
  congr 2
  rcases (by omega : k = 0 ∨ k = 1) with rfl | rfl
  ·rw [if_pos rfl,if_pos (show i < 5 by omega),Nat.mul_zero,Nat.sub_zero]
  ·rw [if_neg (by omega),if_neg (show ¬ i < 5 by omega),if_pos (show i < 10 by omega),Nat.mul_one]
 ·rw [if_neg h1,hdL_get _ hi]
  congr 2
  unfold fstK
  by_cases h2 : i < 5 * k
  ·rw [if_pos h2,if_pos (show i < 5 * (k + 1) by omega)]
  ·rw [if_neg h2]
   by_cases h3 : i < 5 * (k + 1)
   ·rw [if_pos h3]
    have hz : r.getD (i - 5 * k) 0 = 0 := by rw [List.getD_eq_getElem?_getD,List.getElem?_eq_none (by omega)]; rfl
    rw [hrow _ (by omega)] at hz
    rcases (by omega : k = 0 ∨ k = 1) with rfl | rfl
    ·rw [if_pos rfl,Nat.mul_zero,Nat.sub_zero] at hz
     rw [if_pos (show i < 5 by omega),hz]
    ·rw [if_neg (by omega),Nat.mul_one] at hz
     rw [if_neg (show ¬ i < 5 by omega),if_pos (show i < 10 by omega),hz]
   ·rw [if_neg h3]
theorem slO {q o : Nat} (hk : KV (.slice (some ⟨q,o,none⟩) 5 5)) : aSlA 5 1 (ptr q o) none none KV := ⟨⟨Nat.zero_le _,Nat.le_refl _,by decide⟩,by
 have e : (bif Nat.beq 5 0 then o else o + 0 * 1) = o := by simp
 show KV (.slice (some ⟨q,(bif Nat.beq 5 0 then o else o + 0 * 1),none⟩) 5 5)
 rw [e]
 exact hk⟩
theorem copyO {p o : Nat} {c : List Value} {rv : Value} {xs : List Int} (hp : H[p]? = some (.cells c true 0)) (hc : o + 5 ≤ c.length) (hs : Sli H rv 1 xs.length (xs.map vint)) (hl : xs.length ≤ 5)
  (hk : ∀ v H',SameX [p] H H' → H'[p]? = some (.cells (wrAt c o (xs.map vint)) true 0) → H'.length = H.length → K v H') : aCopy 1 (.slice (some ⟨p,o,none⟩) 5 5) rv H K := by
 obtain ⟨base,cc,rfl,⟨hcl,hkn⟩,hh⟩ := id hs
 have em : min xs.length 5 = xs.length := by omega
 unfold aCopy
 simp only [em]
 refine src_sli hs (by omega) ?_
 simp only [hp]
 refine ⟨by omega,hk _ _ (SameX.refl.set (.inl (by simp))) (List.getElem?_set_self (lt_of_get hp)) (by simp)⟩
theorem good54 (hJ : Closed prog main J) (ok : BokOk b) (A : HerdAt H b mv kv hv dv) (hb : H[bp]? = some (.cells (bookC b mv kv hv dv deed owner) true 0)) (hK : ∀ H',SameX [] H H' → K (hdV (firstF b)) H') : Good prog J 54 [ptr bp 0] H K := by
 refine g54 hJ fun okh => ?_
 rw [e54]
 have hhv := A.h.val.2.2
 have hml := ok.reg.len
 refine qAl fun H1 p1 e1 S1 c1 l1 => qAl fun H2 p2 e2 S2 c2 l2 => ?_
 have T2 := S1.trans S2
 have d1 := S2.get c1 (by simp)
 refine nilI (offI (offI (ldI (v := hv) (T2.get hb (by simp)) rfl hhv ((A.same T2).h.lenI ?_))))
 refine l54_1 hJ (fun k : Nat => 2 - k) (fun k F H' => k ≤ 2 ∧ SameX [] H H' ∧ (∃ l,l.length = 15 ∧ H'[p1]? = some (.cells l true 0)) ∧ H'[p2]? = some (.cells (hdL (fstK b k)) true 0) ∧ F.ds = [] ∧ F.r 2 = ptr p1 0 ∧ F.r 3 = ptr p2 0 ∧ F.r 10 = hv ∧ F.r 11 = vint (2 : Nat) ∧ F.r 12 = vint (k : Nat)) ?_ (s := 0)
  (.inl ⟨by omega,T2,⟨_,rfl,d1⟩,c2,rfl,rfl,rfl,rfl,rfl,rfl⟩)
 rintro k F H' ⟨hk,S,⟨l,hl,f1⟩,f2,ds,r2,r3,r10,r11,r12⟩ okc hnc
 rw [s54_1,r2,r3,r10,r11,r12]
 refine lssI (cndI (fun hlt => ?_) fun hge => ?_)
 ·have hk2 : k < 2 := by omega
  obtain ⟨r,hr⟩ := row_of (b := b) hk2
  obtain ⟨hrl,hrb⟩ := ok.row hr
  refine rowI (A.same S).h hr hk2 fun q v hv' => idxO (by omega) (slO ⟨by decide,?_⟩)
  rw [Nat.zero_add,Nat.mul_comm]
  refine copyO f2 (by rw [hdL_len]; omega) hv' (by omega) fun v6 H3 S3 c3 l3 => ?_
  rw [fst_step hr (by omega)] at c3
  have m1 := lt_of_get f1
  have m2 := lt_of_get f2
  exact addI (by omega) ⟨k + 1,by dsimp only; omega,.inl ⟨by omega,S.thru S3 (by simp; omega),⟨l,hl,S3.get f1 (by simp; omega)⟩,c3,ds,r2,r3,r10,r11,by show vint _ = vint _; congr 1⟩⟩
 ·have : k = 2 := by omega
  subst this
  refine load_part (c := hdL (firstF b)) f2 (by rw [hdL_len]; omega) (by rw [List.drop_zero,List.take_of_length_le (by rw [hdL_len]; omega)]; rfl) (hdL_kn _) (qStA (c := hdL (firstF b)) f1 (hdL_len _) hl (hdL_one _) fun H3 S3 c3 l3 => retQs ds (resW_cell (gg := true) (s := 15) (by kernel_rfl) ?_))
  show aLoad true 15 (F.r 2) _ _
  rw [r2]
  exact load_part (c := hdL (firstF b)) c3 (by rw [hdL_len]; omega) (by rw [List.drop_zero,List.take_of_length_le (by rw [hdL_len]; omega)]) (hdL_kn _) (resW_nil (hK H3 (S.thru S3 (by simp; omega))))
theorem ldH {q : Nat} {x : Nat → Int} {wr : Bool} {sz : Nat} (hq : H[q]? = some (.cells (hdL x) wr sz)) (hk : KV (hdV x)) : aLoad true 15 (ptr q 0) H KV :=
 load_part (c := hdL x) hq (by rw [hdL_len]; omega) (by rw [List.drop_zero,List.take_of_length_le (by rw [hdL_len]; omega)]) (hdL_kn _) hk
theorem qBoxH {x : Nat → Int} (hk : ∀ H' p,p = H.length → SameX [] H H' → H'[p]? = some (.cells (hdL x) true 0) → H'.length = p + 1 → K (ptr p 0) H') : aBox (hdV x) H K := qBox (hdL_one x) hk
theorem qStH {q : Nat} {x : Nat → Int} {cs : List Value} {sz : Nat} (hq : H[q]? = some (.cells cs true sz)) (hs : cs.length = 15) (hk : ∀ H',SameX [q] H H' → H'[q]? = some (.cells (hdL x) true sz) → H'.length = H.length → HL H') : aStore 15 (ptr q 0) (hdV x) H HL :=
 qStA hq (hdL_len _) hs (hdL_one _) hk
def ownK (x : Nat → Int) (o k : Nat) : Int := match k with
 | 0 => 0
 | k + 1 => ownK x o k + x (5 * k + o)
theorem good30 (hJ : Closed prog main J) {x : Nat → Int} {o : Nat} (ho : o < 5) (hx : ∀ i,i < 15 → -1000 ≤ x i ∧ x i ≤ 1000) (hK : ∀ H',SameX [] H H' → K (vint (ownF x o)) H') : Good prog J 30 [hdV x,vint (o : Nat)] H K := by
 refine g30 hJ fun okh => ?_
 rw [e30]
 refine qBoxH fun H1 p1 e1 S1 c1 l1 => ldH c1 ?_
 have hbd : ∀ k : Nat,k ≤ 3 → -1000 * (k : Int) ≤ ownK x o k ∧ ownK x o k ≤ 1000 * k := by
  intro k
  induction k with
  | zero => intro _; exact ⟨by simp [ownK],by simp [ownK]⟩
  | succ k ih =>
   intro hk
   have := ih (by omega)
   have := hx (5 * k + o) (by omega)
   simp only [ownK]
   omega
 refine l30_1 hJ (fun k : Nat => 3 - k) (fun k F H' => k ≤ 3 ∧ SameX [] H H' ∧ F.ds = [] ∧ F.r 1 = vint (o : Nat) ∧ F.r 5 = vint (ownK x o k) ∧ F.r 8 = hdV x ∧ F.r 9 = vint (k : Nat)) ?_ (s := 0)
  (.inl ⟨by omega,S1,rfl,rfl,rfl,rfl,rfl⟩)
 rintro k F H' ⟨hk,S,ds,r1,r5,r8,r9⟩ okc hnc
 rw [s30_1,r1,r5,r8,r9,ds]
 refine lssI (cndI (fun hlt => ?_) fun hge => ?_)
 ·have hk3 : k < 3 := by omega
  have b1 := hbd k (by omega)
  have b2 := hx (5 * k + o) (by omega)
  refine ⟨⟨by omega,by omega⟩,⟨by rw [hdL_len,Int.toNat_natCast]; omega,?_⟩⟩
  rw [Int.toNat_natCast]
  refine qAl fun H3 p3 e3 S3 c3 l3 => qStA (c := ((hdL x).drop (k * 5)).take 5) c3 (by rw [List.length_take,List.length_drop,hdL_len]; omega) rfl ?_ fun H4 S4 c4 l4 => idxAz ho (ldI (v := vint (x (5 * k + o))) c4 ?_ rfl (addI (by omega) ?_))
  ·rw [List.all_eq_true]
   exact fun y hy => List.all_eq_true.1 (hdL_one x) y (List.mem_of_mem_drop (List.mem_of_mem_take hy))
  ·rw [List.getElem?_take_of_lt (by omega),List.getElem?_drop,Nat.mul_one,Nat.mul_comm k 5,hdL_get x (by omega)]
  ·have := S.1
   exact addI (by omega) ⟨k + 1,by dsimp only; omega,.inl ⟨by omega,(S.trans S3).thru S4 (by simp; omega),ds,r1,rfl,r8,by show vint _ = vint _; congr 1⟩⟩
 ·have : k = 3 := by omega
  subst this
  have e : ownK x o 3 = ownF x o := by
   simp only [ownK,ownF]
   rw [Nat.mul_zero,Nat.zero_add]
   show 0 + x o + x (5 * 1 + o) + x (10 + o) = _
   rw [Nat.mul_one]
   omega
  rw [e]
  exact retL_same (by simp [unk]) (hK H' S)
theorem good66 (hJ : Closed prog main J) {x : Nat → Int} {f o : Nat} {m : Int} (hf : f < 3) (ho : o < 5) (hx : -1000 ≤ x (5 * f + o) ∧ x (5 * f + o) ≤ 1000) (hm : -1 ≤ m ∧ m ≤ 1) (hK : ∀ H',SameX [] H H' → K (.tuple ⟨[hdV (movF x (5 * f + o) m),.bool (decide (0 ≤ x (5 * f + o) + m))]⟩) H') : Good prog J 66 [hdV x,vint (f : Nat),vint (o : Nat),vint m] H K := by
 refine g66 hJ fun okh => ?_
 rw [e66]
 have hj : 5 * f + o < 15 := by omega
 have ej : 0 + f * 5 + o * 1 = 5 * f + o := by omega
 refine qBoxH fun H1 p1 e1 S1 c1 l1 => qAl fun H2 p2 e2 S2 c2 l2 => ?_
 have d1 := S2.get c1 (by simp)
 refine idxO hf (idxO ho ?_)
 rw [ej]
 refine ldI (v := vint (x (5 * f + o))) d1 (hdL_get x hj) rfl (addI (by omega) (idxO hf (idxO ho ?_)))
 rw [ej]
 refine qSt d1 (by rw [hdL_len]; exact hj) rfl rfl fun H3 S3 c3 l3 => ?_
 rw [hdL_mov x hj] at c3
 have m1 := lt_of_get c3
 refine ⟨[p1],ldH c3 ⟨by simp [RdOk,ptrBlk],idxO hf (idxO ho ?_)⟩⟩
 rw [ej]
 refine ldI (v := vint (x (5 * f + o) + m)) c3 (by rw [hdL_get _ hj,movF,if_pos rfl]) rfl ⟨by simp [RdOk,ptrBlk],geqI ?_⟩
 have c2' := S3.get c2 (by simp; omega)
 refine qStH (x := movF x (5 * f + o) m) c2' rfl fun H4 S4 c4 l4 => ⟨sbX S4 (by simp; omega),retQs rfl (resW_cell (gg := true) (s := 15) (by kernel_rfl) (ldH c4 (resW_tmp (by show Value.bool _ ≠ unk; simp [unk]) (resW_nil ?_))))⟩
 have := hK H4 (((S1.trans S2).thru S3 (by simp; omega)).thru S4 (by simp; omega))
 exact this
theorem good57 (hJ : Closed prog main J) {a a' n : Int} {s : Bool} (hs : s = true → a = n ∧ a' = n) (hK : ∀ H',SameX [] H H' → K (.agg ⟨[vint n,vint n,.bool true]⟩) H') : Good prog J 57 [.agg ⟨[vint a,vint a',.bool s]⟩,vint n] H K := by
 refine g57 hJ fun okh => ?_
 rw [e57]
 refine qBox (l := [vint a,vint a',.bool s]) rfl fun H1 p1 e1 S1 c1 l1 => qAl fun H2 p2 e2 S2 c2 l2 => ?_
 have d1 := S2.get c1 (by simp)
 have T := S1.trans S2
 refine offI (ldI (v := .bool s) d1 rfl rfl (notI ?_))
 have fin : ∀ {F : RG},F.ds = [] → F.r 4 = ptr p2 0 → ∀ {H' : List AObj},SameX [p2] H2 H' → H'[p2]? = some (.cells [vint n,vint n,.bool true] true 0) → RetQ prog [.cell 4 119] H.length K .ret F H' := by
  intro F ds r4 H' S c
  refine retQs ds (resW_cell (gg := true) (s := 3) (by kernel_rfl) ?_)
  rw [r4]
  exact load_part (c := [vint n,vint n,.bool true]) c (by simp) rfl rfl (resW_nil (hK H' (T.thru S (by simp; omega))))
 cases s with
 | false =>
  refine cnd_true.2 (fillV rfl rfl (by decide) (fillV rfl rfl (by simp only [wrAt_length]; decide) (fillV rfl rfl (by simp only [wrAt_length]; decide) (fillI ?_))))
  exact qStA (c := [vint n,vint n,.bool true]) c2 rfl rfl rfl fun H3 S3 c3 l3 => fin rfl rfl S3 c3
 | true =>
  obtain ⟨e1,e2⟩ := hs rfl
  rw [e1,e2] at d1
  refine cnd_false.2 (offI (ldI (v := vint n) d1 rfl rfl (minI (offI (ldI (v := vint n) d1 rfl rfl (maxI ?_))))))
  rw [show min n n = n from by omega,show max n n = n from by omega]
  refine fillV rfl rfl (by decide) (fillV rfl rfl (by simp only [wrAt_length]; decide) (fillV rfl rfl (by simp only [wrAt_length]; decide) (fillI ?_)))
  exact qStA (c := [vint n,vint n,.bool true]) c2 rfl rfl rfl fun H3 S3 c3 l3 => fin rfl rfl S3 c3
end
def thenF (pn : Nat) : Value := .func (.func 56) ⟨[]⟩ ⟨[ptr pn 0]⟩
def selB (deed owner : Int) (x : Nat → Int) (o : Nat) : Bool := if deed = 0 ∧ (o : Int) ≠ owner then false else decide (1 ≤ x o)
def outL (deed owner : Int) (x : Nat → Int) (L : List Nat) : List (Nat → Int) := (L.filter (selB deed owner x)).map (strayF x)
theorem outL_snoc {deed owner : Int} {x : Nat → Int} {L : List Nat} {o : Nat} : outL deed owner x (L ++ [o]) = outL deed owner x L ++ if selB deed owner x o = true then [strayF x o] else [] := by
 unfold outL
 rw [List.filter_append,List.map_append]
 congr 1
 simp only [List.filter_cons,List.filter_nil]
 split <;> rfl
theorem mem_outL {deed owner : Int} {x y : Nat → Int} {L : List Nat} : y ∈ outL deed owner x L ↔ ∃ o ∈ L,selB deed owner x o = true ∧ strayF x o = y := by
 unfold outL
 rw [List.mem_map]
 constructor
 ·rintro ⟨o,h1,h2⟩
  rw [List.mem_filter] at h1
  exact ⟨o,h1.1,h1.2,h2⟩
 ·rintro ⟨o,h1,h2,h3⟩
  exact ⟨o,List.mem_filter.2 ⟨h1,h2⟩,h3⟩
theorem mft_u : prog.underlying 114 = some (.map 3 116) := by kernel_rfl
theorem mht_u : prog.underlying 113 = some (.map 83 4) := by kernel_rfl
theorem teqI (a c : Int) : teq prog 10000 3 (vint a) (vint c) = some (a == c) := by kernel_rfl
theorem keyI (a : Int) : kOk prog 10000 3 (vint a) = true := by kernel_rfl
theorem updL_new {k v : Value} : ∀ es : List (Value × Value),(∀ e ∈ es,k ≠ e.1) → updL k v es = es ++ [(k,v)]
 | [],_ => rfl
 | (a,u) :: es,h => by
  have h1 : k ≠ a := h (a,u) List.mem_cons_self
  unfold updL
  rw [if_neg h1,updL_new es fun e he => h e (List.mem_cons_of_mem _ he)]
  rfl
theorem mfind_none {y : Nat → Int} : ∀ L : List (Nat → Int),(∀ z ∈ L,∃ i,i < 15 ∧ y i ≠ z i) → mfind prog 83 (hdV y) (L.map entH) = some none
 | [],_ => rfl
 | z :: L,h => by
  rw [List.map_cons]
  show (match teq prog 10000 83 (hdV y) (hdV z) with
   | some true => some (some (Value.bool true))
   | some false => mfind prog 83 (hdV y) (L.map entH)
   | none => none) = _
  rw [teqH_ne (h z List.mem_cons_self)]
  exact mfind_none L fun w hw => h w (List.mem_cons_of_mem _ hw)
section
variable {main : Bool} {J : JT} {n0 : Nat} {h H : List AObj} {K : Value → List AObj → Prop} {KV : Value → Prop} {HL : List AObj → Prop}
variable {b : Bok} {mv kv hv dv : Value} {deed owner : Int} {bp : Nat}
theorem updNew {q : Nat} {es : List (Value × Value)} {n : Int} {v : Value} (hb : H[q]? = some (.map es true)) (hne : ∀ e ∈ es,∃ j : Int,e.1 = vint j ∧ j ≠ n) (hk : ∀ H',SameX [q] H H' → H'[q]? = some (.map (es ++ [(vint n,v)]) true) → H'.length = H.length → HL H') : aUpdX prog 114 (.map (some q)) (vint n) v H HL := by
 have hlt := lt_of_get hb
 have ne : ∀ e ∈ es,vint n ≠ e.1 := fun e he => by
  obtain ⟨j,h1,h2⟩ := hne e he
  rw [h1]
  intro h3
  simp only [vint,Value.int.injEq,true_and] at h3
  exact h2 h3.symm
 unfold aUpdX
 rw [mft_u]
 simp only [hb]
 refine ⟨keyI n,by simp [VOk,vint],by simp [Instr.sameBits,vint],fun e he => ?_,?_⟩
 ·have hd : ∀ i : Decidable (vint n = e.1),@decide _ i = false := fun i => decide_eq_false (ne e he)
  rw [hd]
  obtain ⟨j,h1,h2⟩ := hne e he
  rw [h1,teqI,beq_eq_false_iff_ne.2 (Ne.symm h2)]
 ·rw [updL_new es ne]
  exact hk _ (SameX.refl.set (.inl (by simp))) (List.getElem?_set_self hlt) (by simp)
theorem doOk {g : Nat} (h : bp < H.length) : VOk H.length (doF bp g) ∧ one (doF bp g) = true := ⟨by simp [doF,VOk,AOk,LOk,ptr,AddrOk,FnOk,h],rfl⟩
theorem good55 (hJ : Closed prog main J) (hp : bp < H.length) (hK : ∀ H' q,q = H.length → SameX [] H H' → H'[q]? = some (.map (doesL bp) true) → K (.map (some q)) H') : Good prog J 55 [ptr bp 0] H K := by
 refine g55 hJ fun okh => ?_
 rw [e55]
 refine qNewM fun H1 q e1 S1 c1 l1 => ?_
 have z1 := S1.1
 refine ⟨rfl,doOk (g := 60) (by omega),updNew c1 (by simp) fun H2 S2 c2 l2 => ⟨rfl,doOk (g := 61) (by omega),updNew c2 (by simp) fun H3 S3 c3 l3 => ⟨rfl,doOk (g := 62) (by omega),updNew c3 (by simp) fun H4 S4 c4 l4 => ⟨rfl,doOk (g := 63) (by omega),updNew c4 (by simp) fun H5 S5 c5 l5 => ⟨rfl,doOk (g := 64) (by omega),updNew c5 (by simp) fun H6 S6 c6 l6 => ⟨rfl,doOk (g := 65) (by omega),updNew c6 (by simp) fun H7 S7 c7 l7 => ?_⟩⟩⟩⟩⟩⟩
 refine retL_same (vs := [.map (some q)]) (by simp [unk]) (hK H7 q e1 ?_ c7)
 exact (((((S1.thru S2 (by simp; omega)).thru S3 (by simp; omega)).thru S4 (by simp; omega)).thru S5 (by simp; omega)).thru S6 (by simp; omega)).thru S7 (by simp; omega)
theorem lookS {q : Nat} {wr : Bool} (hb : H[q]? = some (.map (doesL bp) wr)) (hk : KV (doF bp 64)) : aLook prog 114 false (.map (some q)) (vint 5) H KV := by
 unfold aLook
 rw [mft_u]
 simp only
 have hz : zv1 prog 116 = some .nilFunc := by kernel_rfl
 rw [hb,hz]
 have hm : mfind prog 3 (vint 5) (doesL bp) = some (some (doF bp 64)) := by kernel_rfl
 simp only [hm]
 exact ⟨keyI 5,hk⟩
theorem good46 (hJ : Closed prog main J) (hK : ∀ H' p,p = H.length → SameX [] H H' → H'[p]? = some (.cells [ptr bp 0] true 0) → H'.length = p + 1 → K (.func (.func 53) ⟨[]⟩ ⟨[ptr p 0]⟩) H') : Good prog J 46 [ptr bp 0] H K := by
 refine g46 hJ fun okh => ?_
 rw [e46]
 exact qBox1 rfl rfl fun H1 p e1 S1 c1 l1 => ⟨rfl,retL_same (by simp [unk]) (hK H1 p e1 S1 c1 l1)⟩
theorem good56 (hJ : Closed prog main J) {y : Nat → Int} {L : List (Nat → Int)} {pn mb : Nat} (hn : H[pn]? = some (.cells [.map (some mb)] true 0)) (hm : H[mb]? = some (.map (L.map entH) true)) (hne : ∀ z ∈ L,∃ i,i < 15 ∧ y i ≠ z i)
  (hK : ∀ H',SameX [mb] H H' → H'[mb]? = some (.map ((L ++ [y]).map entH) true) → K (.tuple ⟨[]⟩) H') : Good prog J 56 [hdV y,ptr pn 0] H K := by
 refine g56 hJ fun okh => ?_
 rw [e56]
 refine qBoxH fun H1 p e1 S1 c1 l1 => ldI (v := .map (some mb)) (S1.get hn (by simp)) rfl rfl (ldH c1 ⟨⟨by simp [VOk],rfl⟩,?_⟩)
 have m1 := S1.get hm (by simp)
 unfold aUpd
 rw [mht_u]
 simp only [m1]
 refine ⟨hdV_key y,hdV_ok y,mfind_none L hne,?_⟩
 refine retL_same (vs := []) (by simp) (hK _ (S1.weak0.set (.inl (by simp))) ?_)
 rw [List.getElem?_set_self (lt_of_get m1),List.map_append]
 rfl
theorem movA (hJ : Closed prog main J) {x : Nat → Int} {o : Nat} {m : Int} (ho : o < 5) (hx : -1000 ≤ x o ∧ x o ≤ 1000) (hm : -1 ≤ m ∧ m ≤ 1) (hK : ∀ H',SameX [] H H' → K (.tuple ⟨[hdV (movF x o m),.bool (decide (0 ≤ x o + m))]⟩) H') : Good prog J 66 [hdV x,vint 0,vint (o : Nat),vint m] H K := by
 refine good66 hJ (f := 0) (by decide) ho (by rw [Nat.mul_zero,Nat.zero_add]; exact hx) hm fun H' S => ?_
 rw [Nat.mul_zero,Nat.zero_add]
 exact hK H' S
theorem movZ (hJ : Closed prog main J) {x : Nat → Int} {o : Nat} {m : Int} (ho : o < 5) (hx : -1000 ≤ x (5 + o) ∧ x (5 + o) ≤ 1000) (hm : -1 ≤ m ∧ m ≤ 1) (hK : ∀ H' u,SameX [] H H' → K (.tuple ⟨[hdV (movF x (5 + o) m),.bool u]⟩) H') : Good prog J 66 [hdV x,vint 1,vint (o : Nat),vint m] H K := by
 refine good66 hJ (f := 1) (by decide) ho (by rw [Nat.mul_one]; exact hx) hm fun H' S => ?_
 rw [Nat.mul_one]
 exact hK H' _ S
structure StI (b : Bok) (deed owner : Int) (x : Nat → Int) (L : List Nat) (bp p1 p2 pn mb : Nat) (v : Value) (Ha : List AObj) (k : Nat) (F : RG) (H' : List AObj) : Prop where
 hk : k ≤ L.length
 S : SameX [mb] Ha H'
 m : H'[mb]? = some (.map ((outL deed owner x (L.take k)).map entH) true)
 ds : F.ds = []
 r0 : F.r 0 = ptr bp 0
 r3 : F.r 3 = thenF pn
 r5 : F.r 5 = ptr p1 0
 r6 : F.r 6 = ptr p2 0
 r25 : F.r 25 = v
 r26 : F.r 26 = vint (L.length : Nat)
 r27 : F.r 27 = vint (k : Nat)
theorem strJ (hJ : Closed prog main J) {x : Nat → Int} {s : Sgt} {L : List Nat} {p1 p2 pn mb k o : Nat} {v : Value} {Ha : List AObj} {F : RG} {w : Bool} {st : RG → List AObj → Prop} (hx : ∀ i,i < 15 → -900 ≤ x i ∧ x i ≤ 900) (hL : ∀ i ∈ L,i < 5) (nd : L.Nodup)
  (I : ∀ {F' : RG},StI b deed owner x L bp p1 p2 pn mb v Ha k F' H → F'.r 27 = vint (k : Nat) → True) (i0 : StI b deed owner x L bp p1 p2 pn mb v Ha k F H) (hko : L[k]? = some o) (c1 : Ha[p1]? = some (.cells (hdL x) true 0)) (c2 : Ha[p2]? = some (.cells (strayC s) true 0)) (cn : Ha[pn]? = some (.cells [.map (some mb)] true 0)) (n1 : p1 ≠ mb) (n2 : p2 ≠ mb) (n3 : pn ≠ mb) (n4 : mb < Ha.length)
  (hw : w = decide (deed = 0 ∧ (o : Int) ≠ owner)) (r11 : F.r 11 = vint (o : Nat)) (r47 : F.r 47 = .bool w) (hst : ∀ {F' : RG} {H' : List AObj},StI b deed owner x L bp p1 p2 pn mb v Ha (k + 1) F' H' → st F' H') (hk5 : k < 1000) :
  W prog J 69 n0 64 (subC [1,1,1,0,0,1,1,0,0,1,0,1] (codeOf f64)) F H (contX pl64 prog J 69 n0 64 ct64 [1,1,1,0,0,1,1,0,0,1,0,1] (codeOf f64) [st] (RetQ prog [] n0 K)) := by
 rw [s64_2,r47,r11,i0.r3,i0.r5,i0.r6,i0.r27]
 have hkl := (List.getElem?_eq_some_iff.1 hko).1
 have htk : L.take (k + 1) = L.take k ++ [o] := by
  rw [List.take_succ_eq_append_getElem hkl]
  rw [List.getElem?_eq_getElem hkl] at hko
  rw [Option.some.inj hko]
 have ho : o < 5 := hL o (List.mem_of_getElem? hko)
 have hon : o ∉ L.take k := fun hm => by
  have nd2 : (L.take k ++ [o]).Nodup := by rw [← htk]; exact nd.sublist (List.take_sublist _ _)
  exact (List.nodup_append.1 nd2).2.2 o hm o (by simp) rfl
 have hout := outL_snoc (deed := deed) (owner := owner) (x := x) (L := L.take k) (o := o)
 rw [← htk] at hout
 have hx0 := hx o (by omega)
 subst hw
 have skip : selB deed owner x o = false → ∀ {F' : RG} {H' : List AObj},SameX [] H H' → F'.ds = [] → F'.r 0 = ptr bp 0 → F'.r 3 = thenF pn → F'.r 5 = ptr p1 0 → F'.r 6 = ptr p2 0 → F'.r 25 = v → F'.r 26 = vint (L.length : Nat) → F'.r 27 = vint ((k : Nat) + 1 : Int) → st F' H' := fun hs F' H' S ds r0 r3 r5 r6 r25 r26 r27 => by
  rw [hs,if_neg (by simp),List.append_nil] at hout
  exact hst ⟨by omega,i0.S.trans S.weak0,by rw [hout]; exact S.get i0.m (by simp),ds,r0,r3,r5,r6,r25,r26,by rw [r27]; congr 1⟩
 refine cndI (fun hyes => ?_) fun hno => ?_
 ·exact addI (by omega) (skip (by unfold selB; rw [if_pos hyes]) SameX.refl i0.ds i0.r0 i0.r3 i0.r5 i0.r6 i0.r25 i0.r26 rfl)
 have hsel : selB deed owner x o = decide (1 ≤ x o) := by unfold selB; rw [if_neg hno]
 have d1 := i0.S.get c1 (by simpa using n1)
 have d2 := i0.S.get c2 (by simpa using n2)
 have dn := i0.S.get cn (by simpa using n3)
 have hS := i0.S.1
 refine ldH d1 (offI (ldI (v := vint 0) d2 rfl rfl (movA hJ ho (by omega) (by omega) fun H1 S1 => ext0 (ext1 (qAl fun H2 q e2 S2 f2 l2 => qStH f2 rfl fun H3 S3 f3 l3 => ?_)))))
 have z1 := S1.1
 have T3 : SameX [] H H3 := (S1.trans S2).thru S3 (by simp; omega)
 refine cndI (fun hp => ?_) fun hn => ?_
 ·have hs1 : selB deed owner x o = true := by rw [hsel,decide_eq_true (by omega)]
  rw [hs1,if_pos rfl] at hout
  refine ldH f3 (offI (ldI (v := vint 1) (T3.get d2 (by simp)) rfl rfl ?_))
  refine movZ hJ ho (by unfold movF; rw [if_neg (by omega)]; have := hx (5 + o) (by omega); omega) (by omega) fun H4 u S4 => ext0 (ext1 ?_)
  refine qStH (S4.get f3 (by simp)) (hdL_len _) fun H5 S5 f5 l5 => ldH f5 ?_
  have z4 := S4.1
  have T5 : SameX [] H H5 := (T3.trans S4).thru S5 (by simp; omega)
  refine callCz (args := [hdV (strayF x o)]) (cap := [ptr pn 0]) (by decide) ?_
  refine good56 hJ (T5.get dn (by simp)) (T5.get i0.m (by simp)) (fun z hz => ?_) fun H6 S6 f6 => addI (by omega) (hst ⟨by omega,(i0.S.trans T5.weak0).trans S6,?_,i0.ds,i0.r0,i0.r3,i0.r5,i0.r6,i0.r25,i0.r26,?_⟩)
  ·obtain ⟨o',h1,h2,h3⟩ := mem_outL.1 hz
   rw [← h3]
   exact stray_ne ho (hL o' (List.mem_of_mem_take h1)) fun e => hon (e ▸ h1)
  ·rw [hout]
   exact f6
  ·show vint _ = vint _
   congr 1
 ·have hs0 : selB deed owner x o = false := by rw [hsel,decide_eq_false (by omega)]
  exact addI (by omega) (skip hs0 T3 i0.ds i0.r0 i0.r3 i0.r5 i0.r6 i0.r25 i0.r26 rfl)
theorem good64 (hJ : Closed prog main J) (ok : BokOk b) (A : HerdAt H b mv kv hv dv) (hb : H[bp]? = some (.cells (bookC b mv kv hv dv deed owner) true 0)) {s : Sgt} (so : SgtOk s) {x : Nat → Int} (hx : ∀ i,i < 15 → -900 ≤ x i ∧ x i ≤ 900) {pn mb : Nat} (cn : H[pn]? = some (.cells [.map (some mb)] true 0)) (cm : H[mb]? = some (.map [] true))
  (hK : ∀ H',SameX [mb] H H' → H'[mb]? = some (.map ((outL deed owner x (mayL b.t s b.ms)).map entH) true) → K (.tuple ⟨[]⟩) H') : Good prog J 64 [ptr bp 0,hdV x,.agg ⟨strayC s⟩,thenF pn] H K := by
 refine g64 hJ fun okh => ?_
 rw [e64]
 have hml := ok.reg.len
 refine qBoxH fun H1 p1 e1 S1 c1 l1 => qBox (l := strayC s) rfl fun H2 p2 e2 S2 c2 l2 => ?_
 have T2 := S1.trans S2
 have b2 := T2.get hb (by simp)
 refine nilI (offI (offI (load_part (c := [vint b.t,mv]) b2 (by simp [bookC]) rfl A.kn2 (offI (load_part (c := s.cells) c2 (by simp [strayC]) rfl rfl ?_)))))
 refine good6 hJ (A.same T2).m ok.reg so fun v o H3 S3 O3 => ext0 (ext1 (lenI (ownX_sli O3) ?_))
 have T3 := T2.trans S3
 have b3 := T3.get hb (by simp)
 have n3 := T3.get cn (by simp)
 have m3 := T3.get cm (by simp)
 have g1 := S3.get (S2.get c1 (by simp)) (by simp)
 have g2 := S3.get c2 (by simp)
 have lm := lt_of_get cm
 have lb := lt_of_get hb
 have hpm : pn ≠ mb := fun e => by rw [e,cm] at cn; cases cn
 have hbm : bp ≠ mb := fun e => by rw [e,cm] at hb; cases hb
 have hL : ∀ i ∈ mayL b.t s b.ms,i < 5 := fun i hi => by
  obtain ⟨m,h1,_⟩ := mem_mayL.1 hi
  have := (List.getElem?_eq_some_iff.1 h1).1
  omega
 have nd : (mayL b.t s b.ms).Nodup := List.nodup_range.filter _
 have hll : (mayL b.t s b.ms).length ≤ 5 := Nat.le_trans (mayT_len _ _ _ _) hml
 have hT3 := T3.1
 have slv : Sli H3 v 1 ((mayL b.t s b.ms).map fun i : Nat => (i : Int)).length (((mayL b.t s b.ms).map fun i : Nat => (i : Int)).map vint) := by
  rw [List.length_map,← natsV_ints]
  exact ownX_sli O3
 have slK : ∀ {H'},SameX [mb] H3 H' → Sli H' v 1 ((mayL b.t s b.ms).map fun i : Nat => (i : Int)).length (((mayL b.t s b.ms).map fun i : Nat => (i : Int)).map vint) := fun {H'} S => by
  rw [List.length_map,← natsV_ints]
  refine ownX_sli (ownX_keep O3 S fun i hi hm => ?_)
  simp at hm
  subst hm
  obtain ⟨_,_,⟨_,_,e⟩ | ⟨i',c,sz,e,_,hg,_⟩⟩ := O3
  ·rw [e] at hi
   cases hi
  ·rw [hi] at e
   cases e
   rw [m3] at hg
   cases hg
 generalize hLe : mayL b.t s b.ms = L at *
 refine l64_1 hJ (fun k : Nat => L.length - k) (fun k F H' => StI b deed owner x L bp p1 p2 pn mb v H3 k F H') ?_ (s := 0) (.inl ⟨by omega,SameX.refl,m3,rfl,rfl,rfl,rfl,rfl,rfl,rfl,rfl⟩)
 rintro k F H' I okc hnc
 obtain ⟨hk,S,m,ds,r0,r3,r5,r6,r25,r26,r27⟩ := id I
 rw [s64_1,r0,r25,r26,r27]
 refine lssI (cndI (fun hlt => ?_) fun hge => ?_)
 rotate_left
 ·have : k = L.length := by omega
  subst this
  rw [ds]
  rw [List.take_length] at m
  exact retL_same (vs := []) (by simp) (hK H' (T3.weak0.trans S) m)
 have hkl : k < L.length := by omega
 obtain ⟨o,hko⟩ : ∃ o,L[k]? = some o := ⟨_,List.getElem?_eq_getElem hkl⟩
 have hbk := S.get b3 (by simpa using hbm)
 refine sliN (slK S) (x := (o : Int)) (by rw [List.getElem?_map,hko]; rfl) fun q => ?_
 refine nilI (offI (ldI (v := vint 0) hbk rfl rfl (nilI (offI (ldI (v := vint deed) hbk rfl rfl (eqlI (cndI (fun h0 => ?_) fun h0 => hold.2 ?_)))))))
 ·refine nilI (offI (ldI (v := vint owner) hbk rfl rfl (neqI (hold.2 ?_))))
  refine strJ hJ (s := s) hx hL nd (fun _ _ => trivial) ⟨hk,S,m,ds,r0,r3,r5,r6,r25,r26,r27⟩ hko g1 g2 n3 (by omega) (by omega) hpm (by omega) rfl rfl ?_ (fun I' => ⟨k + 1,by have := I'.hk; dsimp only; omega,.inl I'⟩) (by omega)
  rw [decide_eq_decide.2 (show (deed = 0 ∧ (o : Int) ≠ owner) ↔ (o : Int) ≠ owner from ⟨fun h => h.2,fun h => ⟨h0.symm,h⟩⟩)]
  rfl
 ·refine strJ hJ (s := s) hx hL nd (fun _ _ => trivial) ⟨hk,S,m,ds,r0,r3,r5,r6,r25,r26,r27⟩ hko g1 g2 n3 (by omega) (by omega) hpm (by omega) rfl rfl ?_ (fun I' => ⟨k + 1,by have := I'.hk; dsimp only; omega,.inl I'⟩) (by omega)
  rw [decide_eq_false (show ¬ (deed = 0 ∧ (o : Int) ≠ owner) from fun h => h0 h.1.symm)]
  rfl
end
theorem nodup_le : ∀ (n : Nat) (l : List Nat),l.Nodup → (∀ i ∈ l,i < n) → l.length ≤ n
 | 0,l,_,h => by
  cases l with
  | nil => simp
  | cons x l => exact absurd (h x (by simp)) (Nat.not_lt_zero _)
 | n + 1,l,nd,h => by
  by_cases hm : n ∈ l
  ·have h1 := List.length_erase_of_mem hm
   have h2 := nodup_le n (l.erase n) (nd.erase n) fun i hi => by
    obtain ⟨hne,hi⟩ := nd.mem_erase_iff.1 hi
    have := h i hi
    omega
   omega
  ·have := nodup_le n l nd fun i hi => by
    have := h i hi
    have : i ≠ n := fun e => hm (e ▸ hi)
    omega
   omega
theorem firstF_bd {b : Bok} (ok : BokOk b) (i : Nat) : 0 ≤ firstF b i ∧ firstF b i ≤ 20 := by
 have g : ∀ (l : List Int) (j : Nat),(∀ x ∈ l,0 ≤ x ∧ x ≤ 20) → 0 ≤ l.getD j 0 ∧ l.getD j 0 ≤ 20 := by
  intro l j h
  rw [List.getD_eq_getElem?_getD]
  cases e : l[j]? with
  | none => exact ⟨by simp,by simp⟩
  | some x => exact h x (List.mem_of_getElem? e)
 unfold firstF fstK
 by_cases h1 : i < 5 * 2
 ·rw [if_pos h1]
  by_cases h2 : i < 5
  ·rw [if_pos h2]
   exact g _ _ ok.c0
  ·rw [if_neg h2]
   by_cases h3 : i < 10
   ·rw [if_pos h3]
    exact g _ _ ok.c1
   ·rw [if_neg h3]
    omega
 ·rw [if_neg h1]
  omega
def endsL (b : Bok) (deed owner : Int) : List (Nat → Int) := match b.ds with
 | [] => [firstF b]
 | s :: _ => outL deed owner (firstF b) (mayL b.t s b.ms)
theorem endsL_of {b : Bok} {deed owner : Int} {s : Sgt} (h : b.ds[0]? = some s) : endsL b deed owner = outL deed owner (firstF b) (mayL b.t s b.ms) := by
 obtain ⟨t,ms,k0,k1,r0,r1,ds⟩ := b
 cases ds with
 | nil => cases h
 | cons u l => cases h; rfl
structure RndH (J : JT) (M : List (Nat → Int)) (y : Value) (X : List Nat) (Hs : List AObj) (I : List (Nat → Int) → List AObj → Prop) (St : List AObj → Prop) : Prop where
 hX : ∀ x ∈ X,x < Hs.length
 hI : ∀ {D H1 H2},SameX X Hs H1 → H1.length ≤ H2.length → (∀ i,i < Hs.length → H2[i]? = H1[i]?) → I D H1 → I D H2
 round : ∀ (D : List (Nat → Int)) (x : Nat → Int) (H1 : List AObj) (Q : Value → List AObj → Prop),x ∈ M → SameX X Hs H1 → I D H1 → (∀ H2,SameX X H1 H2 → I (D ++ [x]) H2 → Q (.bool true) H2) → (∀ H2,SameX X H1 H2 → St H2 → Q (.bool false) H2) → callV prog (Good prog J) y [hdV x] H1 Q
section
variable {main : Bool} {J : JT} {n0 : Nat} {h H : List AObj} {K : Value → List AObj → Prop} {KV : Value → Prop} {HL : List AObj → Prop}
variable {b : Bok} {mv kv hv dv : Value} {deed owner : Int} {bp : Nat}
theorem updFirst {q : Nat} {x : Nat → Int} (hb : H[q]? = some (.map [] true)) (hk : ∀ H',SameX [q] H H' → H'[q]? = some (.map [entH x] true) → H'.length = H.length → HL H') : aUpdX prog 113 (.map (some q)) (hdV x) (.bool true) H HL := by
 have hlt := lt_of_get hb
 unfold aUpdX
 rw [mht_u]
 simp only [hb]
 exact ⟨hdV_key x,hdV_ok x,hdV_same x,by simp,hk _ (SameX.refl.set (.inl (by simp))) (List.getElem?_set_self hlt) (by simp)⟩
theorem rangeH {m : Nat} {M : List (Nat → Int)} {wr : Bool} (hm : H[m]? = some (.map (M.map entH) wr)) (hk : ∀ H' p,p = H.length → SameX [] H H' → H'[p]? = some (.iter m M.length []) → H'.length = p + 1 → K (ptr p 0) H') : aRange prog 113 (.map (some m)) H K := by
 unfold aRange
 rw [mht_u]
 simp only [hm,List.length_map]
 exact hk _ H.length rfl SameX.refl.app (by simp) (by simp)
theorem nextH {q m : Nat} {M : List (Nat → Int)} {wr : Bool} {sn : List Nat} (hb : H[q]? = some (.iter m M.length sn)) (hm : H[m]? = some (.map (M.map entH) wr)) (hne : q ≠ m)
  (h1 : ∀ (i : Nat) (x : Nat → Int) (H' : List AObj),M[i]? = some x → i ∉ sn → SameX [q] H H' → H'[q]? = some (.iter m M.length (sn ++ [i])) → H'[m]? = some (.map (M.map entH) wr) → H'.length = H.length → K (.tuple ⟨[.bool true,hdV x,.bool true]⟩) H') (h2 : (∀ i,i < M.length → i ∈ sn) → K (.tuple ⟨[.bool false]⟩) H) : aNext (ptr q 0) H K := by
 have hlt := lt_of_get hb
 unfold aNext
 simp only [ptr,hb,hm]
 refine ⟨by simp,fun i a u hi hn => ?_,h2⟩
 rw [List.getElem?_map] at hi
 obtain ⟨x,hx,e⟩ := Option.map_eq_some_iff.1 hi
 cases e
 exact h1 i x _ hx hn ⟨by simp,fun j hj hx => by rw [List.getElem?_set_ne (fun e => hx (by simp [e]))]⟩ (by simp [hlt]) (by rw [List.getElem?_set_ne hne]; exact hm) (by simp)
theorem entryH {q m i : Nat} {M : List (Nat → Int)} {wr : Bool} {sn : List Nat} {x : Nat → Int} (hb : H[q]? = some (.iter m M.length (sn ++ [i]))) (hm : H[m]? = some (.map (M.map entH) wr)) (hx : M[i]? = some x) (hk : KV (.tuple ⟨[hdV x,.bool true]⟩)) : aEntry (ptr q 0) H KV := by
 unfold aEntry
 have e : (M.map entH)[i]? = some (hdV x,.bool true) := by
  rw [List.getElem?_map,hx]
  rfl
 simp only [ptr,hb,hm,List.getLast?_append,List.getLast?_singleton,Option.some_or,e]
 exact ⟨by simp,hk⟩
theorem callDo {g : FuncId} {args : List Value} (hg : Nat.blt g prog.funcs.size = true) (hk : Good prog J g (ptr bp 0 :: args) H K) : callV prog (Good prog J) (doF bp g) args H K := by
 show (bif Nat.blt g prog.funcs.size then Good prog J g ([ptr bp 0] ++ args ++ []) H K else False)
 rw [hg,cond_true,List.append_nil]
 exact hk
variable {M : List (Nat → Int)} {y : Value} {X : List Nat} {Hs : List AObj} {I : List (Nat → Int) → List AObj → Prop} {St : List AObj → Prop}
theorem enYield (hJ : Closed prog main J) (R : RndH J M y X Hs I St) {f : RG} {m it : Nat} {wr : Bool} (S : SameX X Hs H) (i0 : I [] H) (cm : H[m]? = some (.map (M.map entH) wr)) (ci : H[it]? = some (.iter m M.length [])) (hm : Hs.length ≤ m) (hi : Hs.length ≤ it) (hne : it ≠ m)
  (ds : f.ds = []) (r0 : f.r 0 = y) (r49 : f.r 49 = ptr it 0) (hK1 : ∀ H' D,SameX X Hs H' → (∀ x ∈ M,x ∈ D) → I D H' → K (.tuple ⟨[]⟩) H') (hK2 : ∀ H',SameX X Hs H' → St H' → K (.tuple ⟨[]⟩) H') :
  Sem J 58 Hs.length 53 (subC [1,1,1,0] (codeOf f53)) f H (contX pl53 prog J 58 Hs.length 53 ct53 [1,1,1,0] (codeOf f53) [] (RetQ prog [] Hs.length K)) := by
 refine l53_4 hJ (fun sn : List Nat => M.length - sn.length) (fun sn F H' => ∃ D,sn.Nodup ∧ (∀ i ∈ sn,i < M.length) ∧ (∀ i x,i ∈ sn → M[i]? = some x → x ∈ D) ∧ SameX X Hs H' ∧ I D H' ∧ H'[m]? = some (.map (M.map entH) wr) ∧ H'[it]? = some (.iter m M.length sn) ∧ F.ds = [] ∧ F.r 0 = y ∧ F.r 49 = ptr it 0) ?_ (s := [])
  (.inl ⟨[],List.nodup_nil,by simp,by simp,S,i0,cm,ci,ds,r0,r49⟩)
 clear ds r0 r49
 rintro sn F H' ⟨D,nd,hsn,hD,S',iD,cm',ci',ds,r0,r49⟩ okc hnc
 rw [s53_4,r0,r49,ds]
 have nX : ∀ q,Hs.length ≤ q → q ∉ X := fun q h hm => by
  have := R.hX q hm
  omega
 have hS' := S'.1
 refine nextH ci' cm' hne (fun i x H2 hx hn S2 c2 m2 l2 => ?_) fun hall => ?_
 ·have hil := (List.getElem?_eq_some_iff.1 hx).1
  have nd' : (sn ++ [i]).Nodup := by
   rw [List.nodup_append]
   exact ⟨nd,by simp,fun a ha c hc => by
    rw [List.mem_singleton.1 hc]
    exact fun e => hn (e ▸ ha)⟩
  have hle := nodup_le M.length (sn ++ [i]) nd' fun j hj => by
   rcases List.mem_append.1 hj with h | h
   ·exact hsn j h
   ·rw [List.mem_singleton.1 h]
    exact hil
  rw [List.length_append,List.length_singleton] at hle
  refine ext30 (cnd_true.2 (entryH c2 m2 hx (ext0 (qAl fun H3 p3 e3 S3 c3 l3 => qStH c3 rfl fun H4 S4 c4 l4 => ldH c4 ?_))))
  have T2 : SameX X Hs H2 := S'.thru S2 (by simp; omega)
  have z2 := S2.1
  have T4 : SameX X Hs H4 := (T2.trans S3.weak0).thru S4 (by simp; omega)
  have iD4 : I D H4 := by
   refine R.hI S' (by omega) (fun j hj => ?_) iD
   rw [S4.2 j (by omega) (by simp; omega),S3.2 j (by omega) (by simp),S2.2 j (by omega) (by simp; omega)]
  have lm := lt_of_get m2
  have li := lt_of_get c2
  have cm4 := S4.get (S3.get m2 (by simp)) (by simp; omega)
  have ci4 := S4.get (S3.get c2 (by simp)) (by simp; omega)
  refine R.round D x H4 _ (List.mem_of_getElem? hx) T4 iD4 (fun H5 S5 i5 => ?_) fun H5 S5 s5 => ?_
  ·refine notI (cnd_false.2 ⟨sn ++ [i],by dsimp only; rw [List.length_append,List.length_singleton]; omega,.inl ⟨D ++ [x],nd',fun j hj => ?_,fun j z hj hz => ?_,T4.trans S5,i5,S5.get cm4 (nX m hm),S5.get ci4 (nX it hi),ds,r0,r49⟩⟩)
   ·rcases List.mem_append.1 hj with h | h
    ·exact hsn j h
    ·rw [List.mem_singleton.1 h]
     exact hil
   ·rcases List.mem_append.1 hj with h | h
    ·exact List.mem_append_left _ (hD j z h hz)
    ·rw [List.mem_singleton.1 h,hx] at hz
     cases hz
     simp
  ·exact notI (cnd_true.2 (retL_same (vs := []) (by simp) (hK2 H5 (T4.trans S5) s5)))
 ·refine ⟨rfl,cnd_false.2 (retL_same (vs := []) (by simp) (hK1 H' D S' (fun x hx => ?_) iD))⟩
  obtain ⟨i,hi⟩ := List.getElem?_of_mem hx
  exact hD i x (hall i (List.getElem?_eq_some_iff.1 hi).1) hi
theorem enDeeds (hJ : Closed prog main J) (ok : BokOk b) (A : HerdAt Hs b mv kv hv dv) (hb : Hs[bp]? = some (.cells (bookC b mv kv hv dv deed owner) true 0)) {pb : Nat} (hp : Hs[pb]? = some (.cells [ptr bp 0] true 0)) (R : RndH J (endsL b deed owner) y X Hs I St) (i0 : I [] Hs) {f : RG} {m dm : Nat} (S : SameX [] Hs H) (cm : H[m]? = some (.map [entH (firstF b)] true)) (cd : H[dm]? = some (.map (doesL bp) true)) (hm : Hs.length ≤ m) (hd : Hs.length ≤ dm)
  (ds : f.ds = []) (r0 : f.r 0 = y) (r1 : f.r 1 = ptr pb 0) (r3 : f.r 3 = .map (some m)) (r4 : f.r 4 = .map (some dm)) (hK1 : ∀ H' D,SameX X Hs H' → (∀ x ∈ endsL b deed owner,x ∈ D) → I D H' → K (.tuple ⟨[]⟩) H') (hK2 : ∀ H',SameX X Hs H' → St H' → K (.tuple ⟨[]⟩) H') :
  W prog J 58 Hs.length 53 (subC [1] (codeOf f53)) f H (contX pl53 prog J 58 Hs.length 53 ct53 [1] (codeOf f53) [] (RetQ prog [] Hs.length K)) := by
 rw [s53_1,r1]
 have hdv := (sli1 A.d).2.2
 have hnd := ok.nd
 have lb := lt_of_get hb
 have lp := lt_of_get hp
 have hS := S.1
 refine ldI (v := ptr bp 0) (S.get hp (by simp)) rfl rfl (nilI (offI (offI (ldI (v := dv) (S.get hb (by simp)) rfl hdv (lenI (A.same S).d ?_)))))
 let Mi : Nat → List (Nat → Int) := fun i => if i = 0 then [firstF b] else endsL b deed owner
 have hMi : Mi b.ds.length = endsL b deed owner := by
  show (if b.ds.length = 0 then [firstF b] else endsL b deed owner) = _
  split
  ·rename_i e
   have : b.ds = [] := List.length_eq_zero_iff.1 e
   unfold endsL
   rw [this]
  ·rfl
 refine l53_2 hJ (fun i : Nat => b.ds.length - i) (fun i F H' => ∃ m,i ≤ b.ds.length ∧ SameX [] Hs H' ∧ Hs.length ≤ m ∧ H'[m]? = some (.map ((Mi i).map entH) true) ∧ H'[dm]? = some (.map (doesL bp) true) ∧ F.ds = [] ∧ F.r 0 = y ∧ F.r 1 = ptr pb 0 ∧ F.r 3 = .map (some m) ∧ F.r 4 = .map (some dm) ∧ F.r 20 = dv ∧ F.r 21 = vint (b.ds.length : Nat) ∧ F.r 22 = vint (i : Nat)) ?_ (s := 0)
  (.inl ⟨m,by omega,S,hm,cm,cd,ds,r0,r1,r3,r4,rfl,rfl,rfl⟩)
 clear ds r0 r1 r3 r4
 rintro i F H' ⟨m',hi,S',hm',cm',cd',ds,r0,r1,r3,r4,r20,r21,r22⟩ okc hnc
 rw [s53_2,r1,r3,r20,r21,r22]
 refine lssI (cndI (fun hlt => ?_) fun hge => ?_)
 rotate_left
 ·have : i = b.ds.length := by omega
  subst this
  rw [hMi] at cm'
  refine rangeH cm' fun H2 it e2 S2 c2 l2 => ?_
  have hS' := S'.1
  have T2 := S'.trans S2
  have lm' := lt_of_get cm'
  refine enYield hJ R T2.weak0 (R.hI (D := []) (H1 := Hs) SameX.refl T2.1 (fun j hj => T2.2 j hj (by simp)) i0) (S2.get cm' (by simp)) c2 hm' (by omega) (by omega) (by exact ds) (by exact r0) rfl hK1 hK2
 have hi0 : i = 0 := by omega
 subst hi0
 have hl1 : 0 < b.ds.length := by omega
 refine elemE (enc := strayC) (fun _ => rfl) (by decide) (A.same S').d hl1 fun q => ?_
 have hs0 : b.ds[0]? = some b.ds[0] := List.getElem?_eq_getElem hl1
 have so := ok.ds _ (List.getElem_mem hl1)
 have hends := endsL_of (deed := deed) (owner := owner) hs0
 generalize b.ds[0] = s at *
 have hS' := S'.1
 refine qAl fun H4 p4 e4 S4 c4 l4 => qStA (c := strayC s) c4 rfl rfl rfl fun H5 S5 c5 l5 => ?_
 have T5 : SameX [] H' H5 := S4.thru S5 (by simp; omega)
 have U5 := S'.trans T5
 refine ldI (v := ptr bp 0) (U5.get hp (by simp)) rfl rfl (nilI (offI ?_))
 have b5 := U5.get hb (by simp)
 refine qSt b5 (by simp [bookC]) rfl rfl fun H6 S6 c6 l6 => qNewM fun H7 mb e7 S7 c7 l7 => qAl fun H8 pn e8 S8 c8 l8 => ?_
 have c6 : H6[bp]? = some (.cells (bookC b mv kv hv dv deed owner) true 0) := c6
 have S6' : SameX [] H5 H6 := sameSt S6 b5 c6
 refine qSt c8 (by simp) rfl rfl fun H9 S9 c9 l9 => ?_
 have c9 : H9[pn]? = some (.cells [.map (some mb)] true 0) := c9
 have z5 := T5.1
 have z6 := S6'.1
 have T9 : SameX [] H' H9 := (((T5.trans S6').trans S7).trans S8).thru S9 (by simp; omega)
 have U9 := S'.trans T9
 have lm' := lt_of_get cm'
 have ld' := lt_of_get cd'
 have m9 := T9.get cm' (by simp)
 have mb9 : H9[mb]? = some (.map [] true) := S9.get (S8.get c7 (by simp)) (by simp; omega)
 have d9 := T9.get cd' (by simp)
 have p9 : H9[p4]? = some (.cells (strayC s) true 0) := S9.get (S8.get (S7.get (S6'.get c5 (by simp)) (by simp)) (by simp)) (by simp; omega)
 have m9 : H9[m']? = some (.map ([firstF b].map entH) true) := m9
 refine rangeH m9 fun H10 it e10 S10 c10 l10 => ?_
 have T10 := T9.trans S10
 have z9 := T9.1
 refine l53_3 hJ (fun j : Nat => 1 - j) (fun j F' H'' => j ≤ 1 ∧ SameX [] H' H'' ∧ H''[it]? = some (.iter m' 1 (List.range j)) ∧ H''[pn]? = some (.cells [.map (some mb)] true 0) ∧ H''[p4]? = some (.cells (strayC s) true 0) ∧ H''[mb]? = some (.map ((if j = 0 then [] else endsL b deed owner).map entH) true) ∧ F'.ds = [] ∧ F'.r 0 = y ∧ F'.r 1 = ptr pb 0 ∧ F'.r 4 = .map (some dm) ∧ F'.r 6 = ptr p4 0 ∧ F'.r 7 = ptr pn 0 ∧ F'.r 20 = dv ∧ F'.r 21 = vint (b.ds.length : Nat) ∧ F'.r 22 = vint (0 : Nat) ∧ F'.r 33 = ptr it 0) ?_ (s := 0)
  (.inl ⟨by omega,T10,c10,S10.get c9 (by simp),S10.get p9 (by simp),S10.get mb9 (by simp),by exact ds,by exact r0,by exact r1,by exact r4,rfl,rfl,by exact r20,by exact r21,by exact r22,rfl⟩)
 clear ds r0 r1 r3 r4 r20 r21 r22
 rintro j F' H'' ⟨hj,V,ci,cn,cp,cb,ds,r0,r1,r4,r6,r7,r20,r21,r22,r33⟩ okc' hnc'
 rw [s53_3,r4,r6,r7,r22,r33]
 have hV := V.1
 have mV : H''[m']? = some (.map ([firstF b].map entH) true) := V.get cm' (by simp)
 have l1' := lt_of_get ci
 have l2' := lt_of_get cn
 have l3' := lt_of_get cb
 have l4' := lt_of_get cp
 refine nextH (M := [firstF b]) ci mV (by omega) (fun i x H2 hx hn S2 c2 m2 l2 => ?_) fun hall => ?_
 ·have hi0 : i = 0 := by
   have := (List.getElem?_eq_some_iff.1 hx).1
   simp at this
   exact this
  subst hi0
  have hj0 : j = 0 := by
   rcases (by omega : j = 0 ∨ j = 1) with h | h
   ·exact h
   ·subst h
    exact absurd (by simp) hn
  subst hj0
  cases hx
  refine ext30 (cnd_true.2 (entryH (M := [firstF b]) c2 m2 rfl (ext0 (qAl fun H3 p3 e3 S3 c3 l3 => qStH c3 rfl fun H4 S4 c4 l4 => ?_))))
  have g2 : ∀ {q : Nat} {o : AObj},H''[q]? = some o → q ≠ it → H4[q]? = some o := fun {q o} h hne => S4.get (S3.get (S2.get h (by simpa using hne)) (by simp)) (by have := lt_of_get h; simp; omega)
  have T4 : SameX [] H' H4 := ((V.thru S2 (by simp; omega)).trans S3).thru S4 (by simp; omega)
  have W4 := S'.trans T4
  have p44 := g2 cp (by omega)
  refine offI (ldI (v := vint 5) p44 rfl rfl (lookS (T4.get cd' (by simp)) (ldH c4 (load_part (c := strayC s) p44 (by simp [strayC]) rfl rfl ⟨rfl,?_⟩))))
  refine callDo (by decide) ?_
  refine good64 hJ ok (A.same W4) (W4.get hb (by simp)) so (fun k _ => by have := firstF_bd ok k; omega) (g2 cn (by omega)) (g2 cb (by omega)) fun H5 S5 c5' => ⟨1,by decide,.inl ⟨by omega,T4.thru S5 (by simp; omega),?_,?_,?_,?_,ds,r0,r1,r4,r6,r7,r20,r21,r22,r33⟩⟩
  ·exact S5.get (S4.get (S3.get c2 (by simp)) (by simp; omega)) (by simp; omega)
  ·exact S5.get (g2 cn (by omega)) (by simp; omega)
  ·exact S5.get (g2 cp (by omega)) (by simp; omega)
  ·rw [if_neg (by decide),hends]
   exact c5'
 ·have hj1 : j = 1 := by
   have := hall 0 (by simp)
   rw [List.mem_range] at this
   omega
  subst hj1
  rw [if_neg (by decide)] at cb
  refine ⟨rfl,cnd_false.2 (ldI (v := .map (some mb)) cn rfl rfl (addI (by decide) ⟨1,by dsimp only; omega,.inl ⟨mb,by omega,S'.trans V,by omega,?_,V.get cd' (by simp),ds,r0,r1,rfl,r4,r20,r21,rfl⟩⟩))⟩
  show H''[mb]? = some (.map ((if (1 : Nat) = 0 then [firstF b] else endsL b deed owner).map entH) true)
  rw [if_neg (by decide)]
  exact cb
theorem good53 (hJ : Closed prog main J) (ok : BokOk b) (A : HerdAt Hs b mv kv hv dv) (hb : Hs[bp]? = some (.cells (bookC b mv kv hv dv deed owner) true 0)) {pb : Nat} (hp : Hs[pb]? = some (.cells [ptr bp 0] true 0)) (R : RndH J (endsL b deed owner) y X Hs I St) (i0 : I [] Hs)
  (hK1 : ∀ H' D,SameX X Hs H' → (∀ x ∈ endsL b deed owner,x ∈ D) → I D H' → K (.tuple ⟨[]⟩) H') (hK2 : ∀ H',SameX X Hs H' → St H' → K (.tuple ⟨[]⟩) H') : Good prog J 53 [y,ptr pb 0] Hs K := by
 refine g53 hJ fun okh => ?_
 rw [e53]
 have lb := lt_of_get hb
 have lp := lt_of_get hp
 have go : ∀ {f : RG} {H : List AObj} {m dm : Nat},SameX [] Hs H → H[m]? = some (.map [entH (firstF b)] true) → H[dm]? = some (.map (doesL bp) true) → Hs.length ≤ m → Hs.length ≤ dm → f.ds = [] → f.r 0 = y → f.r 1 = ptr pb 0 → f.r 3 = .map (some m) → f.r 4 = .map (some dm) →
   W prog J 58 Hs.length 53 (subC [1] (codeOf f53)) f H (contX pl53 prog J 58 Hs.length 53 ct53 [1] (codeOf f53) [] (RetQ prog [] Hs.length K)) :=
  fun S c1 c2 h1 h2 ds r0 r1 r3 r4 => enDeeds hJ ok A hb hp R i0 S c1 c2 h1 h2 ds r0 r1 r3 r4 hK1 hK2
 have sb : ∀ {H' : List AObj},SameX [] Hs H' → SameB (some [pb]) Hs H' := fun S => sbX S (by simp; omega)
 have vt : ∀ {n : Nat},VOk n (Value.bool true) ∧ one (Value.bool true) = true := ⟨by simp [VOk],rfl⟩
 refine ⟨[pb],ldI (v := ptr bp 0) hp rfl rfl ⟨by simp [RdOk,ptrBlk],ldI (v := ptr bp 0) hp rfl rfl ⟨by simp [RdOk,ptrBlk],?_,?_⟩⟩⟩
 ·refine qNewM fun H1 m e1 S1 c1 l1 => ⟨sb S1,good54 hJ ok (A.same S1) (S1.get hb (by simp)) fun H2 S2 => ⟨sb (S1.trans S2),⟨vt,?_⟩,?_⟩⟩
  ·have z2 := S2.1
   refine updFirst (S2.get c1 (by simp)) fun H3 S3 c3 l3 => ?_
   have T3 : SameX [] Hs H3 := (S1.trans S2).thru S3 (by simp; omega)
   refine ⟨sb T3,good55 hJ (by omega) fun H4 q e4 S4 c4 => ⟨sb (T3.trans S4),hold.2 ?_⟩⟩
   exact go (T3.trans S4) (S4.get c3 (by simp)) c4 (by omega) (by omega) rfl rfl rfl rfl rfl
  ·have z2 := S2.1
   refine good55 hJ (by omega) fun H4 q e4 S4 c4 => ⟨sb ((S1.trans S2).trans S4),vt,?_⟩
   have z4 := S4.1
   have lq := lt_of_get c4
   refine updFirst (S4.get (S2.get c1 (by simp)) (by simp)) fun H5 S5 c5 l5 => ?_
   have T5 : SameX [] Hs H5 := ((S1.trans S2).trans S4).thru S5 (by simp; omega)
   exact ⟨sb T5,hold.2 (go T5 c5 (S5.get c4 (by simp; omega)) (by omega) (by omega) rfl rfl rfl rfl rfl)⟩
 ·refine good54 hJ ok A hb fun H1 S1 => ⟨sb S1,?_,?_⟩
  ·have z1 := S1.1
   refine qNewM fun H2 m e2 S2 c2 l2 => ⟨sb (S1.trans S2),⟨vt,?_⟩,?_⟩
   ·refine updFirst c2 fun H3 S3 c3 l3 => ?_
    have T3 : SameX [] Hs H3 := (S1.trans S2).thru S3 (by simp; omega)
    refine ⟨sb T3,good55 hJ (by omega) fun H4 q e4 S4 c4 => ⟨sb (T3.trans S4),hold.2 ?_⟩⟩
    exact go (T3.trans S4) (S4.get c3 (by simp)) c4 (by omega) (by omega) rfl rfl rfl rfl rfl
   ·refine good55 hJ (by omega) fun H4 q e4 S4 c4 => ⟨sb ((S1.trans S2).trans S4),vt,?_⟩
    have z4 := S4.1
    have lq := lt_of_get c4
    refine updFirst (S4.get c2 (by simp)) fun H5 S5 c5 l5 => ?_
    have T5 : SameX [] Hs H5 := ((S1.trans S2).trans S4).thru S5 (by simp; omega)
    exact ⟨sb T5,hold.2 (go T5 c5 (S5.get c4 (by simp; omega)) (by omega) (by omega) rfl rfl rfl rfl rfl)⟩
  ·have z1 := S1.1
   refine good55 hJ (by omega) fun H4 q e4 S4 c4 => ⟨sb (S1.trans S4),qNewM fun H5 m e5 S5 c5 l5 => ⟨sb ((S1.trans S4).trans S5),vt,?_⟩⟩
   have z4 := S4.1
   have lq := lt_of_get c4
   refine updFirst c5 fun H6 S6 c6 l6 => ?_
   have T6 : SameX [] Hs H6 := ((S1.trans S4).trans S5).thru S6 (by simp; omega)
   exact ⟨sb T6,hold.2 (go T6 c6 (S6.get (S5.get c4 (by simp)) (by simp; omega)) (by omega) (by omega) rfl rfl rfl rfl rfl)⟩
end
def truB (b : Bok) (deed owner : Int) : Bool := !(endsL b deed owner).isEmpty
section
variable {main : Bool} {J : JT} {n0 : Nat} {h H : List AObj} {K : Value → List AObj → Prop} {KV : Value → Prop} {HL : List AObj → Prop}
variable {b : Bok} {mv kv hv dv : Value} {deed owner : Int} {bp : Nat}
theorem retQdef {n : Nat} {rs : List ResultVar} {f : RG} (ds : f.ds = [n]) (hd : h[n]? = some .deferred) (hr : resW prog rs f.r (h.set n .dead) fun vs => K (pack vs) (h.set n .dead)) : RetQ prog rs n0 K .ret f h := by
 unfold RetQ
 rw [ds]
 exact ⟨hd,resW_imp rs hr fun vs hk => .inl hk⟩
noncomputable abbrev lpT (st : LoopState) (pend : Option Code) (r : Nat → Value) (d : Nat) : AObj := .loop st pend 26 r 8 #[6] (subC [1,0,1,1,0,1,0,0] (codeOf f26)) (subC [1,0,1,1,0,1,0,1] (codeOf f26)) d
theorem roundT (hJ : Closed prog main J) {l d p : Nat} {R : Nat → Value} {x : Nat → Int} {Q : Value → List AObj → Prop} (hl : H[l]? = some (lpT .ready none R d)) (r3 : R 3 = ptr p 0) (cp : H[p]? = some (.cells [.bool false] true 0)) (np : p ≠ l)
  (k2 : ∀ H',SameX [l,p] H H' → H'[l]? = some (lpT .done (some (.exit 0)) R d) → H'[p]? = some (.cells [.bool true] true 0) → Q (.bool false) H') : callV prog (Good prog J) (.func (.yield l) ⟨[]⟩ ⟨[]⟩) [hdV x] H Q := by
 show Good prog J (yid prog l) [hdV x] H Q
 refine good_round hJ hl rfl (by decide) fun ok => W_sound hJ mixed _ ?_
 rw [a26_1]
 refine ⟨rfl,none,_,_,_,_,_,_,_,hl,W_sound hJ mixed _ ?_⟩
 rw [b26_1]
 have hll := lt_of_get hl
 have hl3 : (H.set l (lpT .busy none R d))[l]? = some (lpT .busy none R d) := List.getElem?_set_self hll
 have S3 : SameX [l] H (H.set l (lpT .busy none R d)) := SameX.refl.set (.inl (by simp))
 generalize H.set l (lpT .busy none R d) = H3 at hl3 S3
 show aStore 1 (R 3) _ _ _
 rw [r3]
 refine qSt (S3.get cp (by simpa using np)) (by simp) rfl rfl fun H4 S4 c4 l4 => ?_
 have hl4 := S4.get hl3 (by simpa using np.symm)
 have hll4 := lt_of_get hl4
 refine ⟨.busy,none,_,_,_,_,_,_,_,hl4,.inl (k2 _ ?_ (List.getElem?_set_self hll4) (get_set c4 np))⟩
 exact ((S3.weak (by simp)).trans (S4.weak (by simp))).set (.inl (by simp))
theorem good26 (hJ : Closed prog main J) (ok : BokOk b) (A : HerdAt H b mv kv hv dv) (hb : H[bp]? = some (.cells (bookC b mv kv hv dv deed owner) true 0)) (hK : ∀ H',SameX [] H H' → K (.bool (truB b deed owner)) H') : Good prog J 26 [ptr bp 0] H K := by
 refine g26 hJ fun okh => ?_
 rw [e26]
 refine qAl fun H1 p e1 S1 c1 l1 => qSt c1 (by simp) rfl rfl fun H2 S2 c2 l2 => ?_
 have T2 : SameX [] H H2 := S1.thru S2 (by simp; omega)
 refine good46 hJ fun H3 pb e3 S3 c3 l3 => ?_
 refine l26_1 hJ (first := []) (cap := [ptr pb 0]) rfl (by decide) ?_
 have T3 := T2.trans S3
 have cp3 : H3[p]? = some (.cells [.bool false] true 0) := S3.get c2 (by simp)
 obtain ⟨R,hRe⟩ : ∃ R : RG,R = RG.p (RG.p (RG.p (RG.p (RG.mk (regs [ptr bp 0]) []) 2 (.bool false)) 3 (ptr p 0)) 4 (ptr bp 0)) 5 (.func (.func 53) ⟨[]⟩ ⟨[ptr pb 0]⟩) := ⟨_,rfl⟩
 rw [← hRe]
 have R3 : R.r 3 = ptr p 0 := by subst hRe; rfl
 have Rds : R.ds = [] := by subst hRe; rfl
 clear hRe
 have hl4 : (H3 ++ [AObj.deferred] ++ [lpT .ready none R.r H3.length])[H3.length + 1]? = some (lpT .ready none R.r H3.length) := by
  rw [List.append_assoc]
  simp
 have hd4 : (H3 ++ [AObj.deferred] ++ [lpT .ready none R.r H3.length])[H3.length]? = some .deferred := by
  rw [List.append_assoc]
  simp
 have hln : (H3 ++ [AObj.deferred] ++ [lpT .ready none R.r H3.length]).length = H3.length + 2 := by simp
 have S4 : SameX [] H3 (H3 ++ [AObj.deferred] ++ [lpT .ready none R.r H3.length]) := SameX.refl.app.app
 generalize H3 ++ [AObj.deferred] ++ [lpT .ready none R.r H3.length] = H4 at hl4 hd4 hln S4
 have U := T3.trans S4
 have cp4 := S4.get cp3 (by simp)
 have b3 := lt_of_get cp3
 have z3 := T3.1
 have fin : ∀ {t : Bool} {H' : List AObj},t = truB b deed owner → SameX [H3.length + 1,p] H4 H' → H'[p]? = some (.cells [.bool t] true 0) → (H'[H3.length + 1]? = some (lpT .ready none R.r H3.length) ∨ H'[H3.length + 1]? = some (lpT .done (some (.exit 0)) R.r H3.length)) →
   ∀ v,endQ H3.length R (contX pl26 prog J 8 H.length 26 ct26 [1,0,1,1,0,1,0] (codeOf f26) [] (RetQ prog [.tmp 2] H.length K)) v H' := by
  intro t H' ht S hp hl v
  have hd' := S.get hd4 (by simp; omega)
  have hfin : retL H.length K [H3.length] [.bool t] (H'.set (H3.length + 1) .dead) := by
   refine retLdef (get_set hd' (by omega)) (by simp [unk]) ?_
   rw [ht]
   exact hK _ (((U.thru S (by simp; omega)).set (.inr (by omega))).set (.inr (by omega)))
  rcases hl with hl | hl
  ·refine endQnorm hl (by simp) ?_
   rw [c26_1]
   show aLoad false 1 (R.r 3) _ _
   rw [R3,Rds]
   exact ldI (v := .bool t) (get_set hp (by omega)) rfl rfl hfin
  ·refine endQexit hl (by simp) ?_
   rw [c26_1x0]
   show aLoad false 1 (R.r 3) _ _
   rw [R3,Rds]
   exact ldI (v := .bool t) (get_set hp (by omega)) rfl rfl hfin
 have RD : RndH J (endsL b deed owner) (.func (.yield (H3.length + 1)) ⟨[]⟩ ⟨[]⟩) [H3.length + 1,p] H4
   (fun D H' => D = [] ∧ H'[H3.length + 1]? = some (lpT .ready none R.r H3.length) ∧ H'[p]? = some (.cells [.bool false] true 0))
   (fun H' => endsL b deed owner ≠ [] ∧ H'[H3.length + 1]? = some (lpT .done (some (.exit 0)) R.r H3.length) ∧ H'[p]? = some (.cells [.bool true] true 0)) := by
  refine ⟨by simp; omega,fun S hl he hi => ⟨hi.1,by rw [he _ (by omega)]; exact hi.2.1,by rw [he _ (by omega)]; exact hi.2.2⟩,?_⟩
  rintro D x Ha Q hx Sa ⟨rfl,i1,i2⟩ q1 q2
  exact roundT hJ i1 R3 i2 (by omega) fun Hb Sb hlb hpb => q2 Hb Sb ⟨(fun e => by rw [e] at hx; cases hx),hlb,hpb⟩
 refine good53 hJ ok (A.same U) (U.get hb (by simp)) (S4.get c3 (by simp)) RD ⟨rfl,hl4,cp4⟩ (fun Hb D Sb hall hi => ?_) fun Hb Sb st => ?_
 ·obtain ⟨rfl,i1,i2⟩ := hi
  refine fin (t := false) ?_ Sb i2 (.inl i1) _
  have : endsL b deed owner = [] := List.eq_nil_iff_forall_not_mem.2 fun x hx => by have := hall x hx; cases this
  unfold truB
  rw [this]
  rfl
 ·obtain ⟨hne,h1,h2⟩ := st
  refine fin (t := true) ?_ Sb h2 (.inr h1) _
  unfold truB
  cases e : endsL b deed owner with
  | nil => exact absurd e hne
  | cons x l => rfl
noncomputable abbrev lpP (st : LoopState) (pend : Option Code) (r : Nat → Value) (d : Nat) : AObj := .loop st pend 47 r 23 #[10] (subC [1,1,0,1,0,0] (codeOf f47)) (subC [1,1,0,1,0,1] (codeOf f47)) d
theorem roundP (hJ : Closed prog main J) {l d p1 p5 : Nat} {R : Nat → Value} {x : Nat → Int} {of : Value} {c a a' : Int} {s : Bool} {Q : Value → List AObj → Prop} (hl : H[l]? = some (lpP .ready none R d)) (r3 : R 3 = ptr p1 0) (r6 : R 6 = ptr p5 0) (c1 : H[p1]? = some (.cells [of] true 0)) (ko : kn1 of = true) (c5 : H[p5]? = some (.cells [vint a,vint a',.bool s] true 0)) (n1 : p1 ≠ l) (n5 : p5 ≠ l) (n15 : p1 ≠ p5) (hs : s = true → a = c ∧ a' = c)
  (hof : ∀ {H1 : List AObj} {Q : Value → List AObj → Prop},SameX [l] H H1 → (∀ H2,SameX [] H1 H2 → Q (vint c) H2) → callV prog (Good prog J) of [hdV x] H1 Q)
  (k1 : ∀ H',SameX [l,p5] H H' → H'[l]? = some (lpP .ready none R d) → H'[p5]? = some (.cells [vint c,vint c,.bool true] true 0) → Q (.bool true) H') : callV prog (Good prog J) (.func (.yield l) ⟨[]⟩ ⟨[]⟩) [hdV x] H Q := by
 show Good prog J (yid prog l) [hdV x] H Q
 refine good_round hJ hl rfl (by decide) fun ok => W_sound hJ mixed _ ?_
 rw [a47_1]
 have hll := lt_of_get hl
 have l1 := lt_of_get c1
 have l5 := lt_of_get c5
 refine qAl fun H2 p7 e2 S2 c2 l2 => ?_
 show aStore 15 (ptr p7 0) (hdV x) H2 _
 refine qStH c2 rfl fun H3 S3 c3 l3 => ?_
 have T3 : SameX [] H H3 := S2.thru S3 (by simp; omega)
 have hl3 := T3.get hl (by simp)
 refine ⟨rfl,none,_,_,_,_,_,_,_,hl3,W_sound hJ mixed _ ?_⟩
 rw [b47_1]
 have hl4 : (H3.set l (lpP .busy none R d))[l]? = some (lpP .busy none R d) := List.getElem?_set_self (lt_of_get hl3)
 have S4 : SameX [l] H3 (H3.set l (lpP .busy none R d)) := SameX.refl.set (.inl (by simp))
 generalize H3.set l (lpP .busy none R d) = H4 at hl4 S4
 have T4 : SameX [l] H H4 := T3.weak0.trans S4
 have z4 := T4.1
 have z34 := S4.1
 refine ⟨[p5,p1,p7],?_⟩
 show aLoad true 3 (R 6) _ _
 rw [r6]
 refine load_part (c := [vint a,vint a',.bool s]) (T4.get c5 (by simpa using n5)) (by simp) rfl rfl ⟨by show RdOk _ (ptrBlk (R 6)); rw [r6]; simp [RdOk,ptrBlk],?_⟩
 show aLoad false 1 (R 3) _ _
 rw [r3]
 refine ldI (v := of) (T4.get c1 (by simpa using n1)) rfl ko ⟨by show RdOk _ (ptrBlk (R 3)); rw [r3]; simp [RdOk,ptrBlk],?_⟩
 have c7 := S4.get c3 (by simp; omega)
 have l7 := lt_of_get c7
 refine ldH (q := p7) c7 ⟨by show RdOk _ (ptrBlk (ptr p7 0)); simp [RdOk,ptrBlk],hof T4 fun H5 S5 => ⟨sbX S5 (by simp; omega),?_⟩⟩
 refine good57 hJ hs fun H6 S6 => ⟨sbX (S5.trans S6) (by simp; omega),?_⟩
 have T6 := S5.trans S6
 show aStore 3 (R 6) _ _ _
 rw [r6]
 refine qStA (c := [vint c,vint c,.bool true]) (T6.get (T4.get c5 (by simpa using n5)) (by simp)) rfl rfl rfl fun H7 S7 c7' l7' => ?_
 have hl7 := S7.get (T6.get hl4 (by simp)) (by simpa using n5.symm)
 have hll7 := lt_of_get hl7
 refine ⟨.busy,none,_,_,_,_,_,_,_,hl7,.inl (k1 _ ?_ (List.getElem?_set_self hll7) (get_set c7' n5))⟩
 exact (((T4.weak (by simp)).trans T6.weak0).trans (S7.weak (by simp))).set (.inl (by simp))
theorem good47 (hJ : Closed prog main J) (ok : BokOk b) (A : HerdAt H b mv kv hv dv) (hb : H[bp]? = some (.cells (bookC b mv kv hv dv deed owner) true 0)) {of : Value} {c : Int} (kof : of.cells = #[of] ∧ one of = true ∧ kn1 of = true) (hne : endsL b deed owner ≠ [])
  (hof : ∀ {x : Nat → Int} {H1 : List AObj} {Q : Value → List AObj → Prop},x ∈ endsL b deed owner → SameX [] H H1 → (∀ H2,SameX [] H1 H2 → Q (vint c) H2) → callV prog (Good prog J) of [hdV x] H1 Q)
  (hK : ∀ H',SameX [] H H' → K (.tuple ⟨[.agg ⟨[vint c,vint c]⟩,.bool true]⟩) H') : Good prog J 47 [ptr bp 0,of] H K := by
 refine g47 hJ fun okh => ?_
 rw [e47]
 refine qBox1 kof.1 kof.2.1 fun H1 p1 e1 S1 c1 l1 => qAl fun H2 p2 e2 S2 c2 l2 => qAl fun H3 p5 e3 S3 c3 l3 => ?_
 have T3 := (S1.trans S2).trans S3
 refine good46 hJ fun H4 pb e4 S4 c4 l4 => ?_
 refine l47_1 hJ (first := []) (cap := [ptr pb 0]) rfl (by decide) ?_
 have T4 := T3.trans S4
 have d1 : H4[p1]? = some (.cells [of] true 0) := S4.get (S3.get (S2.get c1 (by simp)) (by simp)) (by simp)
 have d2 : H4[p2]? = some (.cells [vint 0,vint 0] true 0) := S4.get (S3.get c2 (by simp)) (by simp)
 have d5 : H4[p5]? = some (.cells [vint 0,vint 0,.bool false] true 0) := S4.get c3 (by simp)
 generalize hRe : RG.p (RG.p (RG.p (RG.p (RG.p (RG.p (RG.mk (regs [ptr bp 0,of]) []) 3 (ptr p1 0)) 4 (ptr p2 0)) 5 (.bool false)) 6 (ptr p5 0)) 8 (ptr bp 0)) 9 (.func (.func 53) ⟨[]⟩ ⟨[ptr pb 0]⟩) = R
 have R3 : R.r 3 = ptr p1 0 := by subst hRe; rfl
 have R4 : R.r 4 = ptr p2 0 := by subst hRe; rfl
 have R6 : R.r 6 = ptr p5 0 := by subst hRe; rfl
 have Rds : R.ds = [] := by subst hRe; rfl
 clear hRe
 have hl4 : (H4 ++ [AObj.deferred] ++ [lpP .ready none R.r H4.length])[H4.length + 1]? = some (lpP .ready none R.r H4.length) := by
  rw [List.append_assoc]
  simp
 have hd4 : (H4 ++ [AObj.deferred] ++ [lpP .ready none R.r H4.length])[H4.length]? = some .deferred := by
  rw [List.append_assoc]
  simp
 have hln : (H4 ++ [AObj.deferred] ++ [lpP .ready none R.r H4.length]).length = H4.length + 2 := by simp
 have S5 : SameX [] H4 (H4 ++ [AObj.deferred] ++ [lpP .ready none R.r H4.length]) := SameX.refl.app.app
 generalize H4 ++ [AObj.deferred] ++ [lpP .ready none R.r H4.length] = H5 at hl4 hd4 hln S5
 have U := T4.trans S5
 have b1 := lt_of_get d1
 have b2 := lt_of_get d2
 have b5 := lt_of_get d5
 have z3 := T4.1
 have z5 := S5.1
 have RD : RndH J (endsL b deed owner) (.func (.yield (H4.length + 1)) ⟨[]⟩ ⟨[]⟩) [H4.length + 1,p5] H5
   (fun D H' => H'[H4.length + 1]? = some (lpP .ready none R.r H4.length) ∧ ∃ a a' s,H'[p5]? = some (.cells [vint a,vint a',.bool s] true 0) ∧ (s = true → a = c ∧ a' = c) ∧ (D ≠ [] → s = true)) (fun _ => False) := by
  refine ⟨by simp; omega,fun S hl he hi => ⟨by rw [he _ (by omega)]; exact hi.1,by rw [he _ (by omega)]; exact hi.2⟩,?_⟩
  rintro D x Ha Q hx Sa ⟨i1,a,a',s,i2,i3,i4⟩ q1 q2
  refine roundP hJ (p1 := p1) (of := of) (c := c) i1 R3 R6 (Sa.get (S5.get d1 (by simp)) (by simp; omega)) kof.2.2 i2 (by omega) (by omega) (by omega) i3 (fun {H6 Q6} S6 hq => ?_) fun Hb Sb hlb h5 => q1 Hb Sb ⟨hlb,c,c,true,h5,fun _ => ⟨rfl,rfl⟩,fun _ => rfl⟩
  exact hof hx ((U.thru Sa (by simp; omega)).thru S6 (by simp; omega)) hq
 refine good53 hJ ok (A.same U) (U.get hb (by simp)) (S5.get c4 (by simp)) RD ⟨hl4,0,0,false,S5.get d5 (by simp),by simp,by simp⟩ (fun Hb D Sb hall hi => ?_) fun Hb Sb st => st.elim
 obtain ⟨i1,a,a',s,i2,i3,i4⟩ := hi
 have hD : D ≠ [] := fun e => by
  obtain ⟨x,hx⟩ := List.exists_mem_of_ne_nil _ hne
  have := hall x hx
  rw [e] at this
  cases this
 have hs := i4 hD
 subst hs
 obtain ⟨ea,ea'⟩ := i3 rfl
 rw [ea,ea'] at i2
 refine endQnorm i1 (by simp) ?_
 rw [c47_1]
 have hd' := Sb.get hd4 (by simp; omega)
 have i2' : (Hb.set (H4.length + 1) .dead)[p5]? = some (.cells [vint c,vint c,.bool true] true 0) := get_set i2 (by omega)
 have d2' : (Hb.set (H4.length + 1) .dead)[p2]? = some (.cells [vint 0,vint 0] true 0) := get_set (Sb.get (S5.get d2 (by simp)) (by simp; omega)) (by omega)
 have hd2 : (Hb.set (H4.length + 1) .dead)[H4.length]? = some .deferred := get_set hd' (by omega)
 have V : SameX [] H (Hb.set (H4.length + 1) .dead) := (U.thru Sb (by simp; omega)).set (.inr (by omega))
 generalize Hb.set (H4.length + 1) .dead = Hc at *
 have lc := lt_of_get i2'
 refine ⟨[p5],?_⟩
 show aOff (R.r 6) 0 _
 rw [R6]
 refine offI (ldI (v := vint c) i2' rfl rfl ⟨by simp [RdOk,ptrBlk],?_⟩)
 refine offI (ldI (v := vint c) i2' rfl rfl ⟨by simp [RdOk,ptrBlk],fillV rfl rfl (by decide) (fillV rfl rfl (by simp only [wrAt_length]; decide) (fillI ?_))⟩)
 refine offI (ldI (v := .bool true) i2' rfl rfl ⟨by simp [RdOk,ptrBlk],?_⟩)
 show aStore 2 (R.r 4) _ _ _
 rw [R4]
 refine qStA (c := [vint c,vint c]) d2' rfl rfl rfl fun Hd Sd cd ld => ⟨sbX Sd (by simp; omega),?_⟩
 refine retQdef (n := H4.length) (by show H4.length :: R.ds = _; rw [Rds]) (Sd.get hd2 (by simp; omega)) (resW_cell (gg := true) (s := 2) (by kernel_rfl) ?_)
 show aLoad true 2 (R.r 4) _ _
 rw [R4]
 exact load_part (c := [vint c,vint c]) (get_set cd (by omega)) (by simp) rfl rfl (resW_tmp (by show Value.bool true ≠ unk; simp [unk]) (resW_nil (hK _ ((V.thru Sd (by simp; omega)).set (.inr (by omega))))))
theorem good48 (hJ : Closed prog main J) {x : Nat → Int} {pf pi : Nat} {i : Nat} (hi : i < 5) (hx : ∀ i,i < 15 → -1000 ≤ x i ∧ x i ≤ 1000) (cf : H[pf]? = some (.cells [.func (.func 30) #[] #[]] true 0)) (ci : H[pi]? = some (.cells [vint (i : Nat)] true 0)) (hK : ∀ H',SameX [] H H' → K (vint (ownF x i)) H') : Good prog J 48 [hdV x,ptr pf 0,ptr pi 0] H K := by
 refine g48 hJ fun okh => ?_
 rw [e48]
 refine qBoxH fun H1 p1 e1 S1 c1 l1 => ldI (v := .func (.func 30) #[] #[]) (S1.get cf (by simp)) rfl rfl (ldH c1 (ldI (v := vint (i : Nat)) (S1.get ci (by simp)) rfl rfl (callFz (by decide) ?_)))
 exact good30 hJ hi hx fun H2 S2 => retL_same (by simp [unk]) (hK H2 (S1.trans S2))
end
def rngL (b : Bok) (n : Nat) : List Rge := (List.range n).map fun i => ⟨ownF (firstF b) i,ownF (firstF b) i⟩
theorem rngL_len (b : Bok) (n : Nat) : (rngL b n).length = n := by simp [rngL]
theorem rngL_succ (b : Bok) (n : Nat) : rngL b (n + 1) = rngL b n ++ [⟨ownF (firstF b) n,ownF (firstF b) n⟩] := by simp [rngL,List.range_succ]
def whoT (b : Bok) (k : Nat) : List Nat := (List.range k).filter fun o => truB b 0 (o : Nat)
def whoL (b : Bok) : List Nat := whoT b b.ms.length
theorem whoT_succ (b : Bok) (k : Nat) : whoT b (k + 1) = whoT b k ++ if truB b 0 (k : Nat) = true then [k] else [] := by
 unfold whoT
 rw [List.range_succ,List.filter_append]
 congr 1
 simp only [List.filter_cons,List.filter_nil]
theorem whoT_len (b : Bok) (k : Nat) : (whoT b k).length ≤ k := Nat.le_trans (List.length_filter_le _ _) (by simp)
theorem ends_own {b : Bok} (ok : BokOk b) {deed owner : Int} {x : Nat → Int} (hx : x ∈ endsL b deed owner) : (∀ i,i < 5 → ownF x i = ownF (firstF b) i) ∧ ∀ i,i < 15 → -1000 ≤ x i ∧ x i ≤ 1000 := by
 have hb := firstF_bd ok
 unfold endsL at hx
 split at hx
 ·rw [List.mem_singleton.1 hx]
  exact ⟨fun _ _ => rfl,fun i _ => by have := hb i; omega⟩
 ·rename_i s l _
  obtain ⟨o,h1,h2,rfl⟩ := mem_outL.1 hx
  have ho : o < 5 := by
   obtain ⟨m,h3,_⟩ := mem_mayL.1 h1
   have := (List.getElem?_eq_some_iff.1 h3).1
   have := ok.reg.len
   omega
  refine ⟨fun i hi => own_stray ho hi,fun i _ => ?_⟩
  have := hb i
  unfold strayF movF
  split
  ·split <;> omega
  ·split <;> omega
def Bok.with (b : Bok) (s : Sgt) : Bok := { b with ds := [s] }
theorem BokOk.with {b : Bok} (ok : BokOk b) {s : Sgt} (so : SgtOk s) : BokOk (b.with s) :=
 ⟨ok.reg,ok.k0,ok.k1,ok.l0,ok.l1,ok.c0,ok.c1,by simp [Bok.with],fun u hu => by rw [List.mem_singleton.1 hu]; exact so⟩
section
variable {main : Bool} {J : JT} {n0 : Nat} {h H : List AObj} {K : Value → List AObj → Prop} {KV : Value → Prop} {HL : List AObj → Prop}
variable {b : Bok} {mv kv hv dv : Value} {deed owner : Int} {bp : Nat}
theorem good29 (hJ : Closed prog main J) (ok : BokOk b) (A : HerdAt H b mv kv hv dv) (hb : H[bp]? = some (.cells (bookC b mv kv hv dv deed owner) true 0)) (hne : endsL b deed owner ≠ []) {n : Nat} (hn : n ≤ 5)
  (hK : ∀ H' v o,SameX [] H H' → OwnX H' 2 ((rngL b n).flatMap Rge.cells) (rngL b n).length v o → K (.tuple ⟨[v,vint 0]⟩) H') : Good prog J 29 [ptr bp 0,vint (n : Nat),.func (.func 30) #[] #[]] H K := by
 refine g29 hJ fun okh => ?_
 rw [e29]
 refine qBox1 rfl rfl fun H1 p1 e1 S1 c1 l1 => ?_
 refine l29_1 hJ (fun i : Nat => n - i) (fun i F H' => ∃ v o,i ≤ n ∧ SameX [] H1 H' ∧ OwnX H' 2 ((rngL b i).flatMap Rge.cells) (rngL b i).length v o ∧ (∀ j,o = some j → H1.length ≤ j) ∧ F.ds = [] ∧ F.r 0 = ptr bp 0 ∧ F.r 5 = ptr p1 0 ∧ F.r 8 = v ∧ F.r 12 = vint (n : Nat) ∧ F.r 13 = vint (i : Nat)) ?_ (s := 0)
  (.inl ⟨.slice none 0 0,none,by omega,SameX.refl,⟨rfl,rfl,.inl ⟨rfl,rfl,rfl⟩⟩,by simp,rfl,rfl,rfl,rfl,rfl,rfl⟩)
 rintro i F H' ⟨v,o,hi,S,O,ho,ds,r0,r5,r8,r12,r13⟩ okc hnc
 rw [s29_1,r0,r5,r8,r12,r13,ds]
 refine lssI (cndI (fun hlt => ?_) fun hge => ?_)
 rotate_left
 ·have : i = n := by omega
  subst this
  exact retL_same (nu2 (ownU O) (by simp [unk])) (hK H' v o (S1.trans S) O)
 have T := S1.trans S
 have zS := S.1
 refine qAl fun H2 p2 e2 S2 c2 l2 => qSt c2 (by simp) rfl rfl fun H3 S3 c3 l3 => ⟨rfl,?_⟩
 have c3 : H3[p2]? = some (.cells [vint (i : Nat)] true 0) := c3
 have T3 : SameX [] H' H3 := S2.thru S3 (by simp; omega)
 have U3 := T.trans T3
 have f3 : H3[p1]? = some (.cells [.func (.func 30) #[] #[]] true 0) := (S.trans T3).get c1 (by simp)
 refine good47 hJ ok (A.same U3) (U3.get hb (by simp)) (c := ownF (firstF b) i) ⟨rfl,rfl,rfl⟩ hne (fun {x H4 Q} hx S4 hq => ?_) fun H4 S4 => ext0 (ext1 (qAl fun H5 p5 e5 S5 c5 l5 => ?_))
 ·obtain ⟨h1,h2⟩ := ends_own ok hx
  refine callCz (args := [hdV x]) (cap := [ptr p1 0,ptr p2 0]) (by decide) ?_
  refine good48 hJ (by omega) h2 (S4.get f3 (by simp)) (S4.get c3 (by simp)) fun H5 S5 => ?_
  rw [h1 i (by omega)]
  exact hq H5 S5
 refine qStA (c := (⟨ownF (firstF b) i,ownF (firstF b) i⟩ : Rge).cells) c5 rfl rfl rfl fun H6 S6 c6 l6 => notI (cnd_false.2 (load_part (c := (⟨ownF (firstF b) i,ownF (firstF b) i⟩ : Rge).cells) c6 (by simp [Rge.cells]) rfl rfl ⟨⟨by decide,by decide,rfl⟩,fillA (l := (⟨ownF (firstF b) i,ownF (firstF b) i⟩ : Rge).cells) rfl rfl (by decide) (fillI (qNew fun H7 q e7 S7 c7 l7 => ?_))⟩))
 have c7 : H7[q]? = some (.cells (⟨ownF (firstF b) i,ownF (firstF b) i⟩ : Rge).cells true 0) := c7
 have z4 := S4.1
 have T6 : SameX [] H' H6 := ((T3.trans S4).trans S5).thru S6 (by have := T3.1; simp; omega)
 have T7 := T6.trans S7
 refine ⟨⟨rfl,by decide,by decide,by decide⟩,ownX_more (ownX_keep O T7 (by simp)) (by decide) (by rw [rngL_len]; omega) (ownX_sli (ownX_new (s := 2) (n := 1) c7 rfl rfl)) fun v' H8 p8 e8 O8 S8 => ?_⟩
 refine addI (by omega) ⟨i + 1,by dsimp only; omega,.inl ⟨v',some p8,by omega,?_,?_,?_,ds,r0,r5,rfl,r12,by show vint _ = vint _; congr 1⟩⟩
 ·exact (S.trans T7).thru S8 fun j hj => .inr (ho j (Option.mem_toList.1 hj))
 ·rw [rngL_succ,List.flatMap_append,List.length_append,List.length_singleton]
  simpa using O8
 ·intro j hj
  cases hj
  have := T7.1
  omega
theorem good11 (hJ : Closed prog main J) (ok : BokOk b) (A : HerdAt H b mv kv hv dv) (hne : endsL b (-1) 0 ≠ [])
  (hK : ∀ H' v o,SameX [] H H' → OwnX H' 2 ((rngL b b.ms.length).flatMap Rge.cells) (rngL b b.ms.length).length v o → K (.tuple ⟨[v,vint 0]⟩) H') : Good prog J 11 [.agg ⟨herdC b mv kv hv dv⟩] H K := by
 refine g11 hJ fun okh => ?_
 rw [e11]
 have hmv := (sli1 A.m.sli).2.2
 refine qBox (l := herdC b mv kv hv dv) A.one fun H1 p1 e1 S1 c1 l1 => load_part (c := herdC b mv kv hv dv) c1 (by simp [herdC]) rfl A.kn ?_
 refine good23 hJ ok (A.same S1) fun H2 bp hbp S2 cb => ext0 (ext1 (neqF rfl (cnd_false.2 ?_)))
 have T2 := S1.trans S2
 refine offI (offI (ldI (v := mv) (S2.get c1 (by simp)) rfl hmv (lenI (A.same T2).m.sli ?_)))
 exact good29 hJ ok (A.same T2) cb hne ok.reg.len fun H3 v o S3 O3 => ext0 (ext1 (retL_same (nu2 (ownU O3) (by simp [unk])) (hK H3 v o (T2.trans S3) O3)))
theorem good10 (hJ : Closed prog main J) (ok : BokOk b) (A : HerdAt H b mv kv hv dv) {s : Sgt} (hds : b.ds = [s]) (hne : whoL b ≠ [])
  (hK : ∀ H' v o,SameX [] H H' → OwnX H' 1 (natsV (whoL b)) (whoL b).length v o → K (.tuple ⟨[v,vint 0]⟩) H') : Good prog J 10 [.agg ⟨herdC b mv kv hv dv⟩,vint 0] H K := by
 refine g10 hJ fun okh => ?_
 rw [e10]
 have hmv := (sli1 A.m.sli).2.2
 have hdv := (sli1 A.d).2.2
 have hml := ok.reg.len
 have hdl : b.ds.length = 1 := by rw [hds]; rfl
 refine qBox (l := herdC b mv kv hv dv) A.one fun H1 p1 e1 S1 c1 l1 => load_part (c := herdC b mv kv hv dv) c1 (by simp [herdC]) rfl A.kn ?_
 refine good23 hJ ok (A.same S1) fun H2 bp hbp S2 cb => ext0 (ext1 (neqF rfl (cnd_false.2 ?_)))
 have T2 := S1.trans S2
 have A2 := A.same T2
 have d1 := S2.get c1 (by simp)
 refine offI (ldI (v := dv) d1 rfl hdv (lenI A2.d (subI (by omega) (hbtT hJ (by omega) (notI (cnd_false.2 (offI (ldI (v := dv) d1 rfl hdv ?_))))))))
 obtain ⟨q,o,cs,wr,sz,hidx,hq,hos,htk,hkn⟩ := sliE_elem (s := 12) (enc := strayC) (fun _ => rfl) (by decide) A2.d (i := 0) (by omega)
 refine hidx _ (offI (ldI (v := vint 5) hq (part_get htk (by simp [strayC])) rfl (neqF rfl (cnd_false.2 (offI (offI (ldI (v := mv) d1 rfl hmv (lenI A2.m.sli ?_))))))))
 have lb := lt_of_get cb
 refine l10_1 hJ (fun k : Nat => b.ms.length - k) (fun k F H' => ∃ v o deed owner,k ≤ b.ms.length ∧ SameX [bp] H2 H' ∧ H'[bp]? = some (.cells (bookC b mv kv hv dv deed owner) true 0) ∧ OwnX H' 1 (natsV (whoT b k)) (whoT b k).length v o ∧ (∀ j,o = some j → H2.length ≤ j) ∧ F.ds = [] ∧ F.r 1 = vint 0 ∧ F.r 6 = ptr bp 0 ∧ F.r 8 = v ∧ F.r 35 = vint (b.ms.length : Nat) ∧ F.r 36 = vint (k : Nat)) ?_ (s := 0)
  (.inl ⟨.slice none 0 0,none,-1,0,by omega,SameX.refl,cb,⟨rfl,rfl,.inl ⟨rfl,rfl,rfl⟩⟩,by simp,rfl,rfl,rfl,rfl,rfl,rfl⟩)
 rintro k F H' ⟨v,o,deed,owner,hk,S,cb',O,ho,ds,r1,r6,r8,r35,r36⟩ okc hnc
 rw [s10_1,r1,r6,r8,r35,r36,ds]
 have T : SameX [] H H' := T2.thru S (by simp; have := S1.1; omega)
 refine lssI (cndI (fun hlt => ?_) fun hge => ?_)
 rotate_left
 ·have : k = b.ms.length := by omega
  subst this
  have hl0 : (whoT b b.ms.length).length ≠ 0 := fun e => hne (List.length_eq_zero_iff.1 e)
  exact lenI (ownX_sli O) (eqlF (by omega) (cnd_false.2 (retL_same (nu2 (ownU O) (by simp [unk])) (hK H' v o T O))))
 have hkl : k < b.ms.length := by omega
 have hsc := whoT_succ b k
 refine nilI (offI (qSt cb' (by simp [bookC]) rfl rfl fun H3 S3 c3 l3 => nilI (offI (qSt c3 (by simp [bookC]) rfl rfl fun H4 S4 c4 l4 => ?_))))
 have c4 : H4[bp]? = some (.cells (bookC b mv kv hv dv 0 (k : Nat)) true 0) := c4
 have zS := S.1
 have U4 : SameX [bp] H' H4 := S3.trans S4
 have T4 : SameX [] H H4 := T.thru U4 (by simp; have := S1.1; omega)
 refine good26 hJ ok (A.same T4) c4 fun H5 S5 => ?_
 have hob : ∀ j,o = some j → j ∉ [bp] := fun j hj hm => by
  have := ho j hj
  simp at hm
  omega
 have O5 := ownX_keep (ownX_keep O U4 hob) S5 (by simp)
 have V5 : SameX [bp] H2 H5 := (S.trans U4).trans S5.weak0
 refine cndB (fun hy => ?_) fun hn => ?_
 ·rw [hy,if_pos rfl] at hsc
  refine ⟨⟨by decide,by decide,rfl⟩,fillV rfl rfl (by decide) (fillI (qNew fun H6 q e6 S6 c6 l6 => ?_))⟩
  have c6 : H6[q]? = some (.cells [vint (k : Nat)] true 0) := c6
  have hlk := whoT_len b k
  have zV := V5.1
  refine ⟨⟨rfl,by decide,by decide,by decide⟩,ownX_more (ownX_keep O5 S6 (by simp)) (by decide) (by omega) (ownX_sli (ownX_new (s := 1) (n := 1) (l := [vint (k : Nat)]) c6 rfl rfl)) fun v' H7 p7 e7 O7 S7 => ?_⟩
  refine addI (by omega) ⟨k + 1,by dsimp only; omega,.inl ⟨v',some p7,0,(k : Nat),by omega,?_,?_,?_,?_,ds,r1,r6,rfl,r35,by show vint _ = vint _; congr 1⟩⟩
  ·exact (V5.trans S6.weak0).thru S7 fun i hi => .inr (ho i (Option.mem_toList.1 hi))
  ·exact S7.get (S6.get (S5.get c4 (by simp)) (by simp)) fun hm => hob bp (Option.mem_toList.1 hm) (by simp)
  ·rw [hsc]
   simpa [natsV] using O7
  ·intro i hi
   cases hi
   omega
 ·rw [hn,if_neg (by simp),List.append_nil] at hsc
  refine addI (by omega) ⟨k + 1,by dsimp only; omega,.inl ⟨v,o,0,(k : Nat),by omega,V5,S5.get c4 (by simp),by rw [hsc]; exact O5,ho,ds,r1,r6,r8,r35,by show vint _ = vint _; congr 1⟩⟩
def zeroHerd : Value := .agg ⟨[vint 0,.slice none 0 0,.slice none 0 0,.slice none 0 0,.slice none 0 0]⟩
theorem good9 (hJ : Closed prog main J) (ok : BokOk b) (hds : b.ds = []) (A : HerdAt H b mv kv hv (.slice none 0 0)) {s : Sgt} (so : SgtOk s)
  (X : List Nat) (hX : ∀ x ∈ X,x < H.length) (hK1 : truB (b.with s) (-1) 0 = true → ∀ H' mv' kv' hv' dv',SameX [] H H' → (Kept X H' fun h => HerdAt h (b.with s) mv' kv' hv' dv') → K (.tuple ⟨[.agg ⟨herdC (b.with s) mv' kv' hv' dv'⟩,vint 0]⟩) H') (hK2 : truB (b.with s) (-1) 0 = false → ∀ H',SameX [] H H' → K (.tuple ⟨[zeroHerd,vint 12]⟩) H') : Good prog J 9 [.agg ⟨herdC b mv kv hv (.slice none 0 0)⟩,.agg ⟨strayC s⟩] H K := by
 refine g9 hJ fun okh => ?_
 rw [e9]
 refine qBox (l := herdC b mv kv hv (.slice none 0 0)) A.one fun H1 p1 e1 S1 c1 l1 => qBox (l := strayC s) rfl fun H2 p2 e2 S2 c2 l2 => qAl fun H3 p3 e3 S3 c3 l3 => ?_
 have T3 := (S1.trans S2).trans S3
 have A3 := A.same T3
 have d1 := S3.get (S2.get c1 (by simp)) (by simp)
 have d2 := S3.get c2 (by simp)
 refine load_part (c := herdC b mv kv hv (.slice none 0 0)) d1 (by simp [herdC]) rfl A.kn (good23 hJ ok A3 fun H4 bp hbp S4 cb => ext0 (ext1 (neqF rfl (cnd_false.2 ?_))))
 have T4 := T3.trans S4
 have A4 := A.same T4
 have hd0 : (b.ds.length : Int) = 0 := by rw [hds]; rfl
 refine offI (ldI (v := .slice none 0 0) (S4.get d1 (by simp)) rfl rfl (lenI A4.d (geqF (by omega) (cnd_false.2 (load_part (c := strayC s) (S4.get d2 (by simp)) (by simp [strayC]) rfl rfl ?_)))))
 refine good24 hJ ok A4 cb so fun H5 S5 => neqF rfl (cnd_false.2 ?_)
 have T5 := T4.trans S5
 have A5 := A.same T5
 refine load_part (c := herdC b mv kv hv (.slice none 0 0)) (S5.get (S4.get d1 (by simp)) (by simp)) (by simp [herdC]) rfl A.kn (good25 hJ ok hds A5 (p3 :: X) (fun x hx => by
  have := S4.1
  have := S5.1
  rcases List.mem_cons.1 hx with h | h
  ·omega
  ·have := hX x h
   omega) fun mv' kv' hv' H6 S6 Q6 => ?_)
 have A6 := Q6.now
 refine qAl fun H7 p7 e7 S7 c7 l7 => qStA (c := herdC b mv' kv' hv' (.slice none 0 0)) c7 rfl rfl A6.one fun H8 S8 c8 l8 => ?_
 have z6 := S6.1
 have T6 := T5.trans S6
 have U8 : SameX [] H6 H8 := S7.thru S8 (by simp; omega)
 have T8 := T6.trans U8
 have V8 : SameX [] H3 H8 := ((S4.trans S5).trans S6).trans U8
 refine offI (ldI (v := .slice none 0 0) c8 rfl rfl (load_part (c := strayC s) (V8.get d2 (by simp)) (by simp [strayC]) rfl rfl ⟨⟨by decide,by decide,rfl⟩,fillA (l := strayC s) rfl rfl (by simp [zrep]) (fillI (qNew fun H9 q e9 S9 c9 l9 => ?_))⟩))
 have c9 : H9[q]? = some (.cells (strayC s) true 0) := c9
 refine ⟨⟨rfl,by decide,by decide,by decide⟩,ownX_more (o := none) (cs := []) (len := 0) ⟨rfl,rfl,.inl ⟨rfl,rfl,rfl⟩⟩ (by decide) (by decide) (ownX_sli (ownX_new (s := 12) (n := 1) c9 rfl rfl)) fun dv' H10 p10 e10 O10 S10 => offI ?_⟩
 have S10 : SameX [] H9 H10 := S10
 have kd := ownX_val O10
 have c10 := S10.get (S9.get c8 (by simp)) (by simp)
 have m8 := lt_of_get c8
 have z9 := S9.1
 refine qSt c10 (by simp [herdC]) kd.1 kd.2.1 fun H11 S11 c11 l11 => ?_
 have c11 : H11[p7]? = some (.cells (herdC (b.with s) mv' kv' hv' dv') true 0) := c11
 have W11 : SameX [] H6 H11 := ((U8.trans S9).trans S10).thru S11 (by simp; omega)
 have T11 := T6.trans W11
 have A11 : HerdAt H11 (b.with s) mv' kv' hv' dv' := by
  have a := A6.same W11
  exact ⟨a.m,a.k,a.h,ownX_sli (s := 12) (len := 1) (ownX_keep O10 S11 fun j hj => by cases hj; simp; omega)⟩
 have V11 : SameX [] H4 H11 := (S5.trans S6).trans W11
 refine good26 hJ ok (A.same T11) (V11.get cb (by simp)) fun H12 S12 => ?_
 have ht0 : truB b (-1) 0 = true := by
  unfold truB endsL
  rw [hds]
  rfl
 rw [ht0]
 have A12 := A11.same S12
 refine cnd_true.2 (load_part (c := herdC (b.with s) mv' kv' hv' dv') (S12.get c11 (by simp)) (by simp [herdC]) rfl A12.kn (good27 hJ A12 fun H13 bp' hbp' S13 cb' => ?_))
 refine good26 hJ (ok.with so) (A12.same S13) cb' fun H14 S14 => notI (hold.2 ?_)
 have X14 : SameX [] H11 H14 := (S12.trans S13).trans S14
 have T14 := T11.trans X14
 have f3 : ∃ l,l.length = 5 ∧ H14[p3]? = some (.cells l true 0) := ⟨_,rfl,X14.get (V11.get (S4.get c3 (by simp)) (by simp)) (by simp)⟩
 have f7 := X14.get c11 (by simp)
 have A14 := A11.same X14
 obtain ⟨l5,hl5,f3⟩ := f3
 rw [s9_1]
 cases ht : truB (b.with s) (-1) 0 with
 | false =>
  refine cnd_true.2 (fillI (qStA (c := [vint 0,.slice none 0 0,.slice none 0 0,.slice none 0 0,.slice none 0 0]) f3 rfl hl5 rfl fun H15 S15 c15 l15 => retQs rfl (resW_cell (gg := true) (s := 5) (by kernel_rfl) (load_part (c := [vint 0,.slice none 0 0,.slice none 0 0,.slice none 0 0,.slice none 0 0]) c15 (by simp) rfl rfl (resW_tmp (by show vint 12 ≠ unk; simp [unk]) (resW_nil ?_))))))
  exact hK2 ht H15 (T14.thru S15 (by simp; omega))
 | true =>
  refine cnd_false.2 (load_part (c := herdC (b.with s) mv' kv' hv' dv') f7 (by simp [herdC]) rfl A14.kn (qStA (c := herdC (b.with s) mv' kv' hv' dv') f3 rfl hl5 A14.one fun H15 S15 c15 l15 => retQs rfl (resW_cell (gg := true) (s := 5) (by kernel_rfl) (load_part (c := herdC (b.with s) mv' kv' hv' dv') c15 (by simp [herdC]) rfl A14.kn (resW_tmp (by show vint 0 ≠ unk; simp [unk]) (resW_nil ?_))))))
  have z3 := T3.1
  have W15 : SameX (p3 :: X) H6 H15 := (W11.trans X14).weak0.trans (S15.weak (by simp))
  have z14 := X14.1
  refine hK1 ht H15 mv' kv' hv' dv' (T14.thru S15 (by simp; omega)) fun H16 S16 => ?_
  have W16 : SameX (p3 :: X) H6 H16 := W15.trans (S16.weak fun x hx => List.mem_cons_of_mem _ hx)
  have a := Q6 H16 W16
  have V16 : SameX (p3 :: X) H11 H16 := (X14.weak0.trans (S15.weak (by simp))).trans (S16.weak fun x hx => List.mem_cons_of_mem _ hx)
  refine ⟨a.m,a.k,a.h,ownX_sli (s := 12) (len := 1) (ownX_keep (ownX_keep O10 S11 fun j hj => by cases hj; simp; omega) V16 fun j hj hm => ?_)⟩
  cases hj
  have := S4.1
  have := S5.1
  rcases List.mem_cons.1 hm with h | h
  ·omega
  ·have := hX _ h
   omega
end
def sgtOf (m : Mrk) : Sgt := ⟨m.n,m.b,m.p⟩
theorem sgtOf_ok {m : Mrk} (ok : MrkOk m) : SgtOk (sgtOf m) := ⟨ok.n,.inr ok.b,.inr ok.p⟩
def stillB (t : Int) (x y : Mrk) : Bool := if forgeN x y < 0 then false else decide (forgeN x y ≤ t) && (decide (x.b = y.b) && decide (x.p = y.p))
theorem still_fits {t : Int} {x y : Mrk} (hxy : x ≠ y) (oy : MrkOk y) : fitsB t (sgtOf y) x = stillB t x y := by
 have h1 := oy.b
 have h2 := oy.p
 have hc := cntR_bd (andN y.n x.n)
 unfold fitsB stillB sgtOf
 dsimp only
 by_cases hb : x.b = y.b
 ·by_cases hp : x.p = y.p
  ·rw [if_neg (by omega)]
   have e : forgeN x y = if andN x.n y.n = 0 then cntR (andN y.n x.n) else -1 := by
    unfold forgeN
    rw [if_neg hxy]
    by_cases h0 : andN x.n y.n = 0
    ·rw [if_neg (by omega),if_pos h0,if_neg (by omega),if_neg (by omega)]
     omega
    ·rw [if_pos (.inl h0),if_neg h0]
   rw [e,decide_eq_true hb,decide_eq_true hp]
   by_cases h0 : andN x.n y.n = 0
   ·rw [if_pos h0,if_pos h0,if_neg (by omega)]
    simp
   ·rw [if_neg h0,if_neg h0,if_pos (by decide)]
  ·rw [if_pos (by omega),decide_eq_false hp]
   split
   ·rfl
   ·simp
 ·rw [if_pos (by omega),decide_eq_false hb]
  split
  ·rfl
  ·simp
theorem fits_self {t : Int} {y : Mrk} (ht : 0 ≤ t) : fitsB t (sgtOf y) y = true := by
 unfold fitsB sgtOf
 dsimp only
 rw [if_neg (by omega),andN_self,if_pos rfl,cntR_zero,decide_eq_true ht]
theorem may_still {t : Int} {ms : List Mrk} (ok : RegOk t ms) {i j : Nat} {x y : Mrk} (hi : ms[i]? = some x) (hj : ms[j]? = some y) (hij : i ≠ j) : i ∈ mayL t (sgtOf y) ms ↔ stillB t x y = true := by
 have hxy : x ≠ y := by
  rcases Nat.lt_or_ge i j with h | h
  ·exact fun e => ok.twice j i y x h hj hi e.symm
  ·exact ok.twice i j x y (by omega) hi hj
 rw [mem_mayL,← still_fits hxy (ok.each y (List.mem_of_getElem? hj))]
 constructor
 ·rintro ⟨m,h1,h2⟩
  rw [hi] at h1
  cases h1
  exact h2
 ·exact fun h => ⟨x,hi,h⟩
theorem may_self {t : Int} {ms : List Mrk} (ok : RegOk t ms) {j : Nat} {y : Mrk} (hj : ms[j]? = some y) : j ∈ mayL t (sgtOf y) ms := mem_mayL.2 ⟨y,hj,fits_self ok.t.1⟩
theorem tru_iff {b : Bok} {deed owner : Int} {s : Sgt} (h : b.ds = [s]) : truB b deed owner = true ↔ ∃ o ∈ mayL b.t s b.ms,selB deed owner (firstF b) o = true := by
 have e : endsL b deed owner = outL deed owner (firstF b) (mayL b.t s b.ms) := endsL_of (by rw [h]; rfl)
 unfold truB
 rw [e]
 constructor
 ·intro h
  cases hl : outL deed owner (firstF b) (mayL b.t s b.ms) with
  | nil => rw [hl] at h; cases h
  | cons x l =>
   obtain ⟨o,h1,h2,_⟩ := mem_outL.1 (show x ∈ outL deed owner (firstF b) (mayL b.t s b.ms) by rw [hl]; simp)
   exact ⟨o,h1,h2⟩
 ·rintro ⟨o,h1,h2⟩
  have := mem_outL.2 ⟨o,h1,h2,rfl⟩
  cases hl : outL deed owner (firstF b) (mayL b.t s b.ms) with
  | nil => rw [hl] at this; cases this
  | cons x l => rfl
theorem first_lt {b : Bok} {o : Nat} (ho : o < 5) : firstF b o = b.r0.getD o 0 := by
 unfold firstF fstK
 rw [if_pos (by omega),if_pos ho]
theorem first_own {b : Bok} {o : Nat} (ho : o < 5) : ownF (firstF b) o = b.r0.getD o 0 + b.r1.getD o 0 := by
 unfold ownF
 rw [first_lt ho]
 unfold firstF fstK
 rw [if_pos (by omega),if_neg (by omega),if_pos (by omega),if_neg (by omega),Nat.add_sub_cancel_left]
 omega
def row1 (n i : Nat) : List Int := (List.replicate n 0).set i 2
def row2 (n i j : Nat) : List Int := (row1 n i).set j 1
def bokA (t : Int) (ms : List Mrk) (i j : Nat) : Bok := ⟨t,ms,i,j,row1 ms.length i,List.replicate ms.length 0,[]⟩
def bokB (t : Int) (ms : List Mrk) (i j : Nat) : Bok := ⟨t,ms,i,j,row2 ms.length i j,List.replicate ms.length 0,[]⟩
theorem row1_len {n i : Nat} : (row1 n i).length = n := by simp [row1]
theorem row2_len {n i j : Nat} : (row2 n i j).length = n := by simp [row2,row1_len]
theorem row1_get {n i k : Nat} (hi : i < n) : (row1 n i).getD k 0 = if k = i then 2 else 0 := by
 unfold row1
 rw [List.getD_eq_getElem?_getD,List.getElem?_set]
 by_cases e : i = k
 ·subst e
  rw [if_pos rfl,if_pos rfl,if_pos (by simpa using hi)]
  rfl
 ·rw [if_neg e,if_neg (Ne.symm e),List.getElem?_replicate]
  split <;> rfl
theorem row2_get {n i j k : Nat} (hi : i < n) (hj : j < n) : (row2 n i j).getD k 0 = if k = j then 1 else if k = i then 2 else 0 := by
 unfold row2
 rw [List.getD_eq_getElem?_getD,List.getElem?_set]
 by_cases e : j = k
 ·subst e
  rw [if_pos rfl,if_pos rfl,if_pos (by rw [row1_len]; exact hj)]
  rfl
 ·rw [if_neg e,if_neg (Ne.symm e),← List.getD_eq_getElem?_getD,row1_get hi]
theorem row1_bd {n i : Nat} : ∀ x ∈ row1 n i,0 ≤ x ∧ x ≤ 20 := fun x hx => by
 rcases List.mem_or_eq_of_mem_set hx with h | rfl
 ·rw [(List.mem_replicate.1 h).2]
  omega
 ·omega
theorem row2_bd {n i j : Nat} : ∀ x ∈ row2 n i j,0 ≤ x ∧ x ≤ 20 := fun x hx => by
 rcases List.mem_or_eq_of_mem_set hx with h | rfl
 ·exact row1_bd x h
 ·omega
theorem rep_bd {n : Nat} : ∀ x ∈ List.replicate n (0 : Int),0 ≤ x ∧ x ≤ 20 := fun x hx => by
 rw [(List.mem_replicate.1 hx).2]
 omega
theorem bokA_ok {t : Int} {ms : List Mrk} {i j : Nat} (ok : RegOk t ms) (hi : i < ms.length) (hj : j < ms.length) : BokOk (bokA t ms i j) :=
 ⟨ok,hi,hj,row1_len,List.length_replicate,row1_bd,rep_bd,Nat.zero_le _,fun s hs => by cases hs⟩
theorem bokB_ok {t : Int} {ms : List Mrk} {i j : Nat} (ok : RegOk t ms) (hi : i < ms.length) (hj : j < ms.length) : BokOk (bokB t ms i j) :=
 ⟨ok,hi,hj,row2_len,List.length_replicate,row2_bd,rep_bd,Nat.zero_le _,fun s hs => by cases hs⟩
theorem may_lt {t : Int} {s : Sgt} {ms : List Mrk} (ok : RegOk t ms) {o : Nat} (h : o ∈ mayL t s ms) : o < ms.length ∧ o < 5 := by
 obtain ⟨m,h1,_⟩ := mem_mayL.1 h
 have := (List.getElem?_eq_some_iff.1 h1).1
 have := ok.len
 omega
section
variable {t : Int} {ms : List Mrk} {i j : Nat} {x y : Mrk}
theorem bokA_tru (ok : RegOk t ms) (hi : ms[i]? = some x) (hj : ms[j]? = some y) (hij : i ≠ j) : truB ((bokA t ms i j).with (sgtOf y)) (-1) 0 = stillB t x y := by
 have hil := (List.getElem?_eq_some_iff.1 hi).1
 rw [Bool.eq_iff_iff,tru_iff rfl,← may_still ok hi hj hij]
 constructor
 ·rintro ⟨o,h1,h2⟩
  have ho := may_lt ok h1
  unfold selB at h2
  rw [if_neg (by omega),first_lt ho.2] at h2
  have h2 : (1 : Int) ≤ (row1 ms.length i).getD o 0 := of_decide_eq_true h2
  rw [row1_get hil] at h2
  split at h2
  ·rename_i e
   rw [← e]
   exact h1
  ·omega
 ·intro h
  have ho := may_lt ok h
  refine ⟨i,h,?_⟩
  unfold selB
  rw [if_neg (by omega),first_lt ho.2]
  show decide ((1 : Int) ≤ (row1 ms.length i).getD i 0) = true
  rw [row1_get hil,if_pos rfl]
  rfl
theorem bokB_tru (ok : RegOk t ms) (hi : ms[i]? = some x) (hj : ms[j]? = some y) : truB ((bokB t ms i j).with (sgtOf y)) (-1) 0 = true := by
 have hil := (List.getElem?_eq_some_iff.1 hi).1
 have hjl := (List.getElem?_eq_some_iff.1 hj).1
 rw [tru_iff rfl]
 have h := may_self ok hj
 have ho := may_lt ok h
 refine ⟨j,h,?_⟩
 unfold selB
 rw [if_neg (by omega),first_lt ho.2]
 show decide ((1 : Int) ≤ (row2 ms.length i j).getD j 0) = true
 rw [row2_get hil hjl,if_pos rfl]
 rfl
theorem filt1 : ∀ n,n ≤ 5 → ∀ a,a < n → (List.range n).filter (fun k => k == a) = [a] := by decide
theorem filt2 : ∀ n,n ≤ 5 → ∀ a,a < n → ∀ b,b < n → a < b → (List.range n).filter (fun k => k == a || k == b) = [a,b] := by decide
theorem sel0 {f : Nat → Int} {k o : Nat} : selB 0 (k : Nat) f o = true ↔ o = k ∧ 1 ≤ f o := by
 unfold selB
 by_cases h : (o : Int) = (k : Int)
 ·rw [if_neg fun h2 => h2.2 h,decide_eq_true_eq]
  constructor
  ·exact fun h1 => ⟨by omega,h1⟩
  ·exact fun h1 => h1.2
 ·rw [if_pos ⟨rfl,h⟩]
  constructor
  ·intro h1
   cases h1
  ·exact fun h1 => absurd (by rw [h1.1]) h
theorem bokA_who (ok : RegOk t ms) (hi : ms[i]? = some x) (hj : ms[j]? = some y) (hij : i ≠ j) (hs : stillB t x y = true) : whoL ((bokA t ms i j).with (sgtOf y)) = [i] := by
 have hil := (List.getElem?_eq_some_iff.1 hi).1
 have him := (may_still ok hi hj hij).2 hs
 unfold whoL whoT
 rw [← filt1 ms.length ok.len i hil]
 refine List.filter_congr fun k hk => ?_
 rw [Bool.eq_iff_iff,tru_iff rfl,beq_iff_eq]
 constructor
 ·rintro ⟨o,h1,h2⟩
  have ho := may_lt ok h1
  obtain ⟨rfl,h3⟩ := sel0.1 h2
  rw [first_lt ho.2] at h3
  have h3 : (1 : Int) ≤ (row1 ms.length i).getD o 0 := h3
  rw [row1_get hil] at h3
  split at h3
  ·assumption
  ·omega
 ·rintro rfl
  have ho := may_lt ok him
  refine ⟨k,him,sel0.2 ⟨rfl,?_⟩⟩
  rw [first_lt ho.2]
  show (1 : Int) ≤ (row1 ms.length k).getD k 0
  rw [row1_get hil,if_pos rfl]
  decide
theorem bokB_who (ok : RegOk t ms) (hi : ms[i]? = some x) (hj : ms[j]? = some y) (hij : i ≠ j) (hs : stillB t x y = true) : whoL ((bokB t ms i j).with (sgtOf y)) = [min i j,max i j] := by
 have hil := (List.getElem?_eq_some_iff.1 hi).1
 have hjl := (List.getElem?_eq_some_iff.1 hj).1
 have him := (may_still ok hi hj hij).2 hs
 have hjm := may_self ok hj
 unfold whoL whoT
 have e := filt2 ms.length ok.len (min i j) (by omega) (max i j) (by omega) (by omega)
 rw [← e]
 refine List.filter_congr fun k hk => ?_
 rw [Bool.eq_iff_iff,tru_iff rfl,Bool.or_eq_true,beq_iff_eq,beq_iff_eq]
 have hr : ∀ o,(row2 ms.length i j).getD o 0 = if o = j then 1 else if o = i then 2 else 0 := fun o => row2_get hil hjl
 constructor
 ·rintro ⟨o,h1,h2⟩
  have ho := may_lt ok h1
  obtain ⟨rfl,h3⟩ := sel0.1 h2
  rw [first_lt ho.2] at h3
  have h3 : (1 : Int) ≤ (row2 ms.length i j).getD o 0 := h3
  rw [hr] at h3
  split at h3
  ·omega
  ·split at h3
   ·omega
   ·omega
 ·intro h
  have hk2 : k = i ∨ k = j := by omega
  have hm : k ∈ mayL t (sgtOf y) ms := by rcases hk2 with rfl | rfl <;> assumption
  have ho := may_lt ok hm
  refine ⟨k,hm,sel0.2 ⟨rfl,?_⟩⟩
  rw [first_lt ho.2]
  show (1 : Int) ≤ (row2 ms.length i j).getD k 0
  rw [hr]
  split
  ·decide
  ·rw [if_pos (by omega)]
   decide
theorem bokA_own (ok : RegOk t ms) (hi : i < ms.length) (hj : j < ms.length) (hij : i ≠ j) {s : Sgt} : (rngL ((bokA t ms i j).with s) ms.length)[j]? = some ⟨0,0⟩ := by
 have := ok.len
 unfold rngL
 rw [List.getElem?_map,List.getElem?_range hj]
 have e : ownF (firstF ((bokA t ms i j).with s)) j = 0 := by
  rw [first_own (by omega)]
  show (row1 ms.length i).getD j 0 + (List.replicate ms.length (0 : Int)).getD j 0 = 0
  rw [row1_get hi,if_neg (Ne.symm hij),List.getD_eq_getElem?_getD,List.getElem?_replicate,if_pos hj]
  rfl
 simp only [Option.map_some,e]
end
end Go.Proofs.Ytkbfhelfnagccaa
