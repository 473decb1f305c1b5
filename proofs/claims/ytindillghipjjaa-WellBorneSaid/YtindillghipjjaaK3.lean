/- Parts of the proof, 3. No conditions. -/
import Derived.Test.YtindillghipjjaaK2
namespace Go.Proofs.Ytindillghipjjaa
open Go.Conc Go.Proofs.Try
set_option maxRecDepth 100000
set_option maxHeartbeats 4000000
set_option linter.unusedVariables false
section
variable {main : Bool} {J : JT} {n0 : Nat} {h : List AObj} {K : Value → List AObj → Prop}
theorem at114 : prog.funcs[114]? = some f114 := by kernel_rfl
theorem body114 : f114.body = some (codeOf f114) := by kernel_rfl
def pl114 : Plans := []
def ct114 : Cuts := .go
theorem pok114 : plansOk prog pl114 (codeOf f114) = true := by kernel_rfl
theorem e114 {a0 a1 a2 : Value} : W prog J 15 h.length 114 (codeOf f114) (RG.mk (regs [a0, a1, a2]) []) h (RetQ prog [.tmp 6] h.length K) =
(aBin prog .leq 3 a1 a0 fun v1 =>
cnd v1
(aBin prog .leq 3 a0 a2 fun v2 =>
retL h.length K [] [v2] h)
(retL h.length K [] [(Value.bool false)] h)) := top_eq pok114 ct114 (by kernel_rfl)
theorem g114 (hJ : Closed prog main J) {a0 a1 a2 : Value} (hs : heapOk h → W prog J 15 h.length 114 (codeOf f114) (RG.mk (regs [a0, a1, a2]) []) h (RetQ prog [.tmp 6] h.length K)) : Good prog J 114 [a0, a1, a2] h K :=
  good_of_W hJ mixed at114 body114 (by kernel_rfl) (Nat.le_of_ble_eq_true rfl) hs
theorem at112 : prog.funcs[112]? = some f112 := by kernel_rfl
theorem body112 : f112.body = some (codeOf f112) := by kernel_rfl
def pl112 : Plans := []
def ct112 : Cuts := .bin (.go) (.bin (.bin (.go) (.cut (.go))) (.go))
theorem pok112 : plansOk prog pl112 (codeOf f112) = true := by kernel_rfl
theorem e112 {a0 : Value} : W prog J 37 h.length 112 (codeOf f112) (RG.mk (regs [a0]) []) h (RetQ prog [.tmp 2] h.length K) =
(aBox a0 h fun v1 h2 =>
aOff v1 1 fun v3 =>
aLoad false 1 v3 h2 fun v4 =>
Good prog J 114 [v4, (vint 1), (vint 99)] h2 fun v5 h6 =>
cnd v5
(aOff v1 0 fun v7 =>
aLoad false 1 v7 h6 fun v8 =>
aOff v1 1 fun v9 =>
aLoad false 1 v9 h6 fun v10 =>
Good prog J 114 [v8, (vint 0), v10] h6 fun v11 h12 =>
cnd v11
(aOff v1 2 fun v13 =>
aLoad false 1 v13 h12 fun v14 =>
Good prog J 114 [v14, (vint 0), (vint 9)] h12 fun v15 h16 =>
cnd v15
(aOff v1 3 fun v17 =>
aLoad false 1 v17 h16 fun v18 =>
aOff v1 2 fun v19 =>
aLoad false 1 v19 h16 fun v20 =>
Good prog J 114 [v18, v20, (vint 9)] h16 fun v21 h22 =>
cnd v21
(aOff v1 4 fun v23 =>
aLoad false 1 v23 h22 fun v24 =>
aOff v1 1 fun v25 =>
aLoad false 1 v25 h22 fun v26 =>
Good prog J 114 [v24, (vint 0), v26] h22 fun v27 h28 =>
cnd v27
(aOff v1 5 fun v29 =>
aLoad false 1 v29 h28 fun v30 =>
Good prog J 114 [v30, (vint 0), (vint 5)] h28 fun v31 h32 =>
Hold (W prog J 37 h.length 112 (subC [1, 0, 1] (codeOf f112)) (RG.p (RG.p (RG.p (RG.p (RG.p (RG.p (RG.p (RG.p (RG.p (RG.p (RG.p (RG.p (RG.p (RG.p (RG.p (RG.p (RG.p (RG.p (RG.p (RG.p (RG.p (RG.p (RG.p (RG.p (RG.p (RG.p (RG.p (RG.p (RG.p (RG.p (RG.p (RG.p (RG.p (RG.p (RG.p (RG.p (RG.p (RG.p (RG.p (RG.p (RG.p (RG.mk (regs [a0]) []) 1 v1) 2 (vint 0)) 3 v3) 4 v4) 5 v5) 6 v5) 6 (Value.bool true)) 7 v7) 8 v8) 9 v9) 10 v10) 11 v11) 12 v11) 13 v11) 13 (Value.bool true)) 14 v13) 15 v14) 16 v15) 17 v15) 18 v15) 18 (Value.bool true)) 19 v17) 20 v18) 21 v19) 22 v20) 23 v21) 24 v21) 25 v21) 25 (Value.bool true)) 26 v23) 27 v24) 28 v25) 29 v26) 30 v27) 31 v27) 32 v27) 32 (Value.bool true)) 33 v29) 34 v30) 35 v31) 36 v31) h32 (contX pl112 prog J 37 h.length 112 ct112 [1, 0, 1] (codeOf f112) [] (RetQ prog [.tmp 2] h.length K))))
(Hold (W prog J 37 h.length 112 (subC [1, 0, 1] (codeOf f112)) (RG.p (RG.p (RG.p (RG.p (RG.p (RG.p (RG.p (RG.p (RG.p (RG.p (RG.p (RG.p (RG.p (RG.p (RG.p (RG.p (RG.p (RG.p (RG.p (RG.p (RG.p (RG.p (RG.p (RG.p (RG.p (RG.p (RG.p (RG.p (RG.p (RG.p (RG.p (RG.p (RG.p (RG.p (RG.p (RG.p (RG.p (RG.p (RG.p (RG.p (RG.p (RG.mk (regs [a0]) []) 1 v1) 2 (vint 0)) 3 v3) 4 v4) 5 v5) 6 v5) 6 (Value.bool true)) 7 v7) 8 v8) 9 v9) 10 v10) 11 v11) 12 v11) 13 v11) 13 (Value.bool true)) 14 v13) 15 v14) 16 v15) 17 v15) 18 v15) 18 (Value.bool true)) 19 v17) 20 v18) 21 v19) 22 v20) 23 v21) 24 v21) 25 v21) 25 (Value.bool true)) 26 v23) 27 v24) 28 v25) 29 v26) 30 v27) 31 v27) 32 v27) 32 (Value.bool false)) 33 undef) 34 undef) 35 undef) 36 (Value.bool false)) h28 (contX pl112 prog J 37 h.length 112 ct112 [1, 0, 1] (codeOf f112) [] (RetQ prog [.tmp 2] h.length K)))))
(Hold (W prog J 37 h.length 112 (subC [1, 0, 1] (codeOf f112)) (RG.p (RG.p (RG.p (RG.p (RG.p (RG.p (RG.p (RG.p (RG.p (RG.p (RG.p (RG.p (RG.p (RG.p (RG.p (RG.p (RG.p (RG.p (RG.p (RG.p (RG.p (RG.p (RG.p (RG.p (RG.p (RG.p (RG.p (RG.p (RG.p (RG.p (RG.p (RG.p (RG.p (RG.p (RG.p (RG.p (RG.p (RG.p (RG.p (RG.p (RG.p (RG.mk (regs [a0]) []) 1 v1) 2 (vint 0)) 3 v3) 4 v4) 5 v5) 6 v5) 6 (Value.bool true)) 7 v7) 8 v8) 9 v9) 10 v10) 11 v11) 12 v11) 13 v11) 13 (Value.bool true)) 14 v13) 15 v14) 16 v15) 17 v15) 18 v15) 18 (Value.bool true)) 19 v17) 20 v18) 21 v19) 22 v20) 23 v21) 24 v21) 25 v21) 25 (Value.bool false)) 26 undef) 27 undef) 28 undef) 29 undef) 30 undef) 31 (Value.bool false)) 32 (Value.bool false)) 32 (Value.bool false)) 33 undef) 34 undef) 35 undef) 36 (Value.bool false)) h22 (contX pl112 prog J 37 h.length 112 ct112 [1, 0, 1] (codeOf f112) [] (RetQ prog [.tmp 2] h.length K)))))
(Hold (W prog J 37 h.length 112 (subC [1, 0, 1] (codeOf f112)) (RG.p (RG.p (RG.p (RG.p (RG.p (RG.p (RG.p (RG.p (RG.p (RG.p (RG.p (RG.p (RG.p (RG.p (RG.p (RG.p (RG.p (RG.p (RG.p (RG.p (RG.p (RG.p (RG.p (RG.p (RG.p (RG.p (RG.p (RG.p (RG.p (RG.p (RG.p (RG.p (RG.p (RG.p (RG.p (RG.p (RG.p (RG.p (RG.p (RG.p (RG.p (RG.mk (regs [a0]) []) 1 v1) 2 (vint 0)) 3 v3) 4 v4) 5 v5) 6 v5) 6 (Value.bool true)) 7 v7) 8 v8) 9 v9) 10 v10) 11 v11) 12 v11) 13 v11) 13 (Value.bool true)) 14 v13) 15 v14) 16 v15) 17 v15) 18 v15) 18 (Value.bool false)) 19 undef) 20 undef) 21 undef) 22 undef) 23 undef) 24 (Value.bool false)) 25 (Value.bool false)) 25 (Value.bool false)) 26 undef) 27 undef) 28 undef) 29 undef) 30 undef) 31 (Value.bool false)) 32 (Value.bool false)) 32 (Value.bool false)) 33 undef) 34 undef) 35 undef) 36 (Value.bool false)) h16 (contX pl112 prog J 37 h.length 112 ct112 [1, 0, 1] (codeOf f112) [] (RetQ prog [.tmp 2] h.length K)))))
(Hold (W prog J 37 h.length 112 (subC [1, 0, 1] (codeOf f112)) (RG.p (RG.p (RG.p (RG.p (RG.p (RG.p (RG.p (RG.p (RG.p (RG.p (RG.p (RG.p (RG.p (RG.p (RG.p (RG.p (RG.p (RG.p (RG.p (RG.p (RG.p (RG.p (RG.p (RG.p (RG.p (RG.p (RG.p (RG.p (RG.p (RG.p (RG.p (RG.p (RG.p (RG.p (RG.p (RG.p (RG.p (RG.p (RG.p (RG.p (RG.p (RG.mk (regs [a0]) []) 1 v1) 2 (vint 0)) 3 v3) 4 v4) 5 v5) 6 v5) 6 (Value.bool true)) 7 v7) 8 v8) 9 v9) 10 v10) 11 v11) 12 v11) 13 v11) 13 (Value.bool false)) 14 undef) 15 undef) 16 undef) 17 (Value.bool false)) 18 (Value.bool false)) 18 (Value.bool false)) 19 undef) 20 undef) 21 undef) 22 undef) 23 undef) 24 (Value.bool false)) 25 (Value.bool false)) 25 (Value.bool false)) 26 undef) 27 undef) 28 undef) 29 undef) 30 undef) 31 (Value.bool false)) 32 (Value.bool false)) 32 (Value.bool false)) 33 undef) 34 undef) 35 undef) 36 (Value.bool false)) h12 (contX pl112 prog J 37 h.length 112 ct112 [1, 0, 1] (codeOf f112) [] (RetQ prog [.tmp 2] h.length K)))))
(Hold (W prog J 37 h.length 112 (subC [1, 0, 1] (codeOf f112)) (RG.p (RG.p (RG.p (RG.p (RG.p (RG.p (RG.p (RG.p (RG.p (RG.p (RG.p (RG.p (RG.p (RG.p (RG.p (RG.p (RG.p (RG.p (RG.p (RG.p (RG.p (RG.p (RG.p (RG.p (RG.p (RG.p (RG.p (RG.p (RG.p (RG.p (RG.p (RG.p (RG.p (RG.p (RG.p (RG.p (RG.p (RG.p (RG.p (RG.p (RG.p (RG.mk (regs [a0]) []) 1 v1) 2 (vint 0)) 3 v3) 4 v4) 5 v5) 6 v5) 6 (Value.bool false)) 7 undef) 8 undef) 9 undef) 10 undef) 11 undef) 12 (Value.bool false)) 13 (Value.bool false)) 13 (Value.bool false)) 14 undef) 15 undef) 16 undef) 17 (Value.bool false)) 18 (Value.bool false)) 18 (Value.bool false)) 19 undef) 20 undef) 21 undef) 22 undef) 23 undef) 24 (Value.bool false)) 25 (Value.bool false)) 25 (Value.bool false)) 26 undef) 27 undef) 28 undef) 29 undef) 30 undef) 31 (Value.bool false)) 32 (Value.bool false)) 32 (Value.bool false)) 33 undef) 34 undef) 35 undef) 36 (Value.bool false)) h6 (contX pl112 prog J 37 h.length 112 ct112 [1, 0, 1] (codeOf f112) [] (RetQ prog [.tmp 2] h.length K))))) := top_eq pok112 ct112 (by kernel_rfl)
theorem g112 (hJ : Closed prog main J) {a0 : Value} (hs : heapOk h → W prog J 37 h.length 112 (codeOf f112) (RG.mk (regs [a0]) []) h (RetQ prog [.tmp 2] h.length K)) : Good prog J 112 [a0] h K :=
  good_of_W hJ mixed at112 body112 (by kernel_rfl) (Nat.le_of_ble_eq_true rfl) hs
theorem s112_1 {f : RG} : W prog J 37 n0 112 (subC [1, 0, 1] (codeOf f112)) f h (contX pl112 prog J 37 n0 112 ct112 [1, 0, 1] (codeOf f112) [] (RetQ prog [.tmp 2] n0 K)) =
(cnd (f.r 36)
(retL n0 K f.ds [(vint 0)] h)
(retL n0 K f.ds [(vint 1)] h)) := sub_eq pok112 ct112 (by kernel_rfl)
theorem at113 : prog.funcs[113]? = some f113 := by kernel_rfl
theorem body113 : f113.body = some (codeOf f113) := by kernel_rfl
def pl113 : Plans := []
def ct113 : Cuts := .bin (.go) (.bin (.bin (.go) (.cut (.go))) (.go))
theorem pok113 : plansOk prog pl113 (codeOf f113) = true := by kernel_rfl
theorem e113 {a0 : Value} : W prog J 20 h.length 113 (codeOf f113) (RG.mk (regs [a0]) []) h (RetQ prog [.tmp 2] h.length K) =
(aBox a0 h fun v1 h2 =>
aOff v1 0 fun v3 =>
aLoad false 1 v3 h2 fun v4 =>
Good prog J 114 [v4, (vint 1), (vint 8)] h2 fun v5 h6 =>
cnd v5
(aOff v1 1 fun v7 =>
aLoad false 1 v7 h6 fun v8 =>
aOff v1 0 fun v9 =>
aLoad false 1 v9 h6 fun v10 =>
Good prog J 114 [v8, (vint 1), v10] h6 fun v11 h12 =>
cnd v11
(aOff v1 2 fun v13 =>
aLoad false 1 v13 h12 fun v14 =>
aOff v1 0 fun v15 =>
aLoad false 1 v15 h12 fun v16 =>
Good prog J 114 [v14, (vint 1), v16] h12 fun v17 h18 =>
Hold (W prog J 20 h.length 113 (subC [1, 0, 1] (codeOf f113)) (RG.p (RG.p (RG.p (RG.p (RG.p (RG.p (RG.p (RG.p (RG.p (RG.p (RG.p (RG.p (RG.p (RG.p (RG.p (RG.p (RG.p (RG.p (RG.p (RG.p (RG.p (RG.mk (regs [a0]) []) 1 v1) 2 (vint 0)) 3 v3) 4 v4) 5 v5) 6 v5) 6 (Value.bool true)) 7 v7) 8 v8) 9 v9) 10 v10) 11 v11) 12 v11) 13 v11) 13 (Value.bool true)) 14 v13) 15 v14) 16 v15) 17 v16) 18 v17) 19 v17) h18 (contX pl113 prog J 20 h.length 113 ct113 [1, 0, 1] (codeOf f113) [] (RetQ prog [.tmp 2] h.length K))))
(Hold (W prog J 20 h.length 113 (subC [1, 0, 1] (codeOf f113)) (RG.p (RG.p (RG.p (RG.p (RG.p (RG.p (RG.p (RG.p (RG.p (RG.p (RG.p (RG.p (RG.p (RG.p (RG.p (RG.p (RG.p (RG.p (RG.p (RG.p (RG.p (RG.mk (regs [a0]) []) 1 v1) 2 (vint 0)) 3 v3) 4 v4) 5 v5) 6 v5) 6 (Value.bool true)) 7 v7) 8 v8) 9 v9) 10 v10) 11 v11) 12 v11) 13 v11) 13 (Value.bool false)) 14 undef) 15 undef) 16 undef) 17 undef) 18 undef) 19 (Value.bool false)) h12 (contX pl113 prog J 20 h.length 113 ct113 [1, 0, 1] (codeOf f113) [] (RetQ prog [.tmp 2] h.length K)))))
(Hold (W prog J 20 h.length 113 (subC [1, 0, 1] (codeOf f113)) (RG.p (RG.p (RG.p (RG.p (RG.p (RG.p (RG.p (RG.p (RG.p (RG.p (RG.p (RG.p (RG.p (RG.p (RG.p (RG.p (RG.p (RG.p (RG.p (RG.p (RG.p (RG.mk (regs [a0]) []) 1 v1) 2 (vint 0)) 3 v3) 4 v4) 5 v5) 6 v5) 6 (Value.bool false)) 7 undef) 8 undef) 9 undef) 10 undef) 11 undef) 12 (Value.bool false)) 13 (Value.bool false)) 13 (Value.bool false)) 14 undef) 15 undef) 16 undef) 17 undef) 18 undef) 19 (Value.bool false)) h6 (contX pl113 prog J 20 h.length 113 ct113 [1, 0, 1] (codeOf f113) [] (RetQ prog [.tmp 2] h.length K))))) := top_eq pok113 ct113 (by kernel_rfl)
theorem g113 (hJ : Closed prog main J) {a0 : Value} (hs : heapOk h → W prog J 20 h.length 113 (codeOf f113) (RG.mk (regs [a0]) []) h (RetQ prog [.tmp 2] h.length K)) : Good prog J 113 [a0] h K :=
  good_of_W hJ mixed at113 body113 (by kernel_rfl) (Nat.le_of_ble_eq_true rfl) hs
theorem s113_1 {f : RG} : W prog J 20 n0 113 (subC [1, 0, 1] (codeOf f113)) f h (contX pl113 prog J 20 n0 113 ct113 [1, 0, 1] (codeOf f113) [] (RetQ prog [.tmp 2] n0 K)) =
(cnd (f.r 19)
(retL n0 K f.ds [(vint 0)] h)
(retL n0 K f.ds [(vint 1)] h)) := sub_eq pok113 ct113 (by kernel_rfl)
theorem at139 : prog.funcs[139]? = some f139 := by kernel_rfl
theorem body139 : f139.body = some (codeOf f139) := by kernel_rfl
def pl139 : Plans := []
def ct139 : Cuts := .go
theorem pok139 : plansOk prog pl139 (codeOf f139) = true := by kernel_rfl
theorem e139 {a0 a1 a2 : Value} : W prog J 15 h.length 139 (codeOf f139) (RG.mk (regs [a0, a1, a2]) []) h (RetQ prog [.tmp 6] h.length K) =
(aBin prog .lss 3 a0 a1 fun v1 =>
cnd v1
(retL h.length K [] [(vint 7)] h)
(aBin prog .gtr 3 a0 a2 fun v2 =>
cnd v2
(retL h.length K [] [(vint 6)] h)
(retL h.length K [] [(vint 0)] h))) := top_eq pok139 ct139 (by kernel_rfl)
theorem g139 (hJ : Closed prog main J) {a0 a1 a2 : Value} (hs : heapOk h → W prog J 15 h.length 139 (codeOf f139) (RG.mk (regs [a0, a1, a2]) []) h (RetQ prog [.tmp 6] h.length K)) : Good prog J 139 [a0, a1, a2] h K :=
  good_of_W hJ mixed at139 body139 (by kernel_rfl) (Nat.le_of_ble_eq_true rfl) hs
theorem at111 : prog.funcs[111]? = some f111 := by kernel_rfl
theorem body111 : f111.body = some (codeOf f111) := by kernel_rfl
def pl111 : Plans := []
def ct111 : Cuts := .go
theorem pok111 : plansOk prog pl111 (codeOf f111) = true := by kernel_rfl
theorem e111 {a0 : Value} : W prog J 15 h.length 111 (codeOf f111) (RG.mk (regs [a0]) []) h (RetQ prog [.tmp 2] h.length K) =
(aLenS a0 fun v1 =>
Sem J 15 h.length 111 (subC [1, 0, 1, 0] (codeOf f111)) (RG.p (RG.p (RG.p (RG.p (RG.mk (regs [a0]) []) 2 (vint 0)) 5 a0) 6 v1) 7 (vint 0)) h (contX pl111 prog J 15 h.length 111 ct111 [1, 0, 1, 0] (codeOf f111) [] (RetQ prog [.tmp 2] h.length K))) := top_eq pok111 ct111 (by kernel_rfl)
theorem g111 (hJ : Closed prog main J) {a0 : Value} (hs : heapOk h → W prog J 15 h.length 111 (codeOf f111) (RG.mk (regs [a0]) []) h (RetQ prog [.tmp 2] h.length K)) : Good prog J 111 [a0] h K :=
  good_of_W hJ mixed at111 body111 (by kernel_rfl) (Nat.le_of_ble_eq_true rfl) hs
theorem s111_1 {f : RG} {nx0 : RG → List AObj → Prop} : W prog J 15 n0 111 (subC [1, 0, 1, 0, 0] (codeOf f111)) f h (thenK nx0 (contX pl111 prog J 15 n0 111 ct111 [1, 0, 1, 0] (codeOf f111) [] (RetQ prog [.tmp 2] n0 K))) =
(aBin prog .lss 3 (f.r 7) (f.r 6) fun v1 =>
cnd v1
(aIdx 1 (f.r 5) (f.r 7) fun v2 =>
aLoad false 1 v2 h fun v3 =>
aBin prog .neq 39 v3 (vint 0) fun v4 =>
cnd v4
(retL n0 K f.ds [v3] h)
(aBin prog .add 3 (f.r 7) (vint 1) fun v5 =>
nx0 (RG.p (RG.p (RG.p (RG.p (RG.p (RG.p (RG.p (RG.p f 8 v1) 9 v2) 10 v3) 4 v3) 11 v3) 12 v4) 14 v5) 7 v5) h))
(retL n0 K f.ds [(vint 0)] h)) := sub_eq pok111 ct111 (by kernel_rfl)
theorem l111_1 (hJ : Closed prog main J) {S : Type} (μ : S → Nat) (I : S → RG → List AObj → Prop) (hI : ∀ s f h, I s f h → heapOk h → n0 ≤ h.length → W prog J 15 n0 111 (subC [1, 0, 1, 0, 0] (codeOf f111)) f h (thenK (Nx n0 μ I s) (contX pl111 prog J 15 n0 111 ct111 [1, 0, 1, 0] (codeOf f111) [] (RetQ prog [.tmp 2] n0 K))))
  {s : S} {f : RG} (hi : Gets n0 I s f h) : Sem J 15 n0 111 (subC [1, 0, 1, 0] (codeOf f111)) f h (contX pl111 prog J 15 n0 111 ct111 [1, 0, 1, 0] (codeOf f111) [] (RetQ prog [.tmp 2] n0 K)) :=
  loop_rule hJ mixed (b := subC [1, 0, 1, 0, 0] (codeOf f111)) (by kernel_rfl) μ I hI hi
theorem at133 : prog.funcs[133]? = some f133 := by kernel_rfl
theorem body133 : f133.body = some (codeOf f133) := by kernel_rfl
def pl133 : Plans := []
def ct133 : Cuts := .go
theorem pok133 : plansOk prog pl133 (codeOf f133) = true := by kernel_rfl
theorem e133 {a0 a1 : Value} : W prog J 26 h.length 133 (codeOf f133) (RG.mk (regs [a0, a1]) []) h (RetQ prog [.tmp 4] h.length K) =
(aLenS a0 fun v1 =>
Good prog J 139 [v1, a1, a1] h fun v2 h3 =>
aBin prog .neq 39 v2 (vint 0) fun v4 =>
cnd v4
(retL h.length K [] [v2] h3)
(aLenS a0 fun v5 =>
Sem J 26 h.length 133 (subC [1, 1, 0, 1, 0] (codeOf f133)) (RG.p (RG.p (RG.p (RG.p (RG.p (RG.p (RG.p (RG.p (RG.p (RG.p (RG.p (RG.p (RG.mk (regs [a0, a1]) []) 4 (vint 0)) 8 a0) 9 v1) 10 a1) 11 a1) 12 v2) 5 v2) 13 v2) 14 v4) 16 a0) 17 v5) 18 (vint 0)) h3 (contX pl133 prog J 26 h.length 133 ct133 [1, 1, 0, 1, 0] (codeOf f133) [] (RetQ prog [.tmp 4] h.length K)))) := top_eq pok133 ct133 (by kernel_rfl)
theorem g133 (hJ : Closed prog main J) {a0 a1 : Value} (hs : heapOk h → W prog J 26 h.length 133 (codeOf f133) (RG.mk (regs [a0, a1]) []) h (RetQ prog [.tmp 4] h.length K)) : Good prog J 133 [a0, a1] h K :=
  good_of_W hJ mixed at133 body133 (by kernel_rfl) (Nat.le_of_ble_eq_true rfl) hs
theorem s133_1 {f : RG} {nx0 : RG → List AObj → Prop} : W prog J 26 n0 133 (subC [1, 1, 0, 1, 0, 0] (codeOf f133)) f h (thenK nx0 (contX pl133 prog J 26 n0 133 ct133 [1, 1, 0, 1, 0] (codeOf f133) [] (RetQ prog [.tmp 4] n0 K))) =
(aBin prog .lss 3 (f.r 18) (f.r 17) fun v1 =>
cnd v1
(aIdx 1 (f.r 16) (f.r 18) fun v2 =>
aLoad false 1 v2 h fun v3 =>
Good prog J 114 [v3, (vint 0), (vint 40)] h fun v4 h5 =>
aUn .not v4 fun v6 =>
cnd v6
(retL n0 K f.ds [(vint 1)] h5)
(aBin prog .add 3 (f.r 18) (vint 1) fun v7 =>
nx0 (RG.p (RG.p (RG.p (RG.p (RG.p (RG.p (RG.p (RG.p (RG.p f 19 v1) 20 v2) 21 v3) 7 v3) 22 v3) 23 v4) 24 v6) 25 v7) 18 v7) h5))
(retL n0 K f.ds [(vint 0)] h)) := sub_eq pok133 ct133 (by kernel_rfl)
theorem l133_1 (hJ : Closed prog main J) {S : Type} (μ : S → Nat) (I : S → RG → List AObj → Prop) (hI : ∀ s f h, I s f h → heapOk h → n0 ≤ h.length → W prog J 26 n0 133 (subC [1, 1, 0, 1, 0, 0] (codeOf f133)) f h (thenK (Nx n0 μ I s) (contX pl133 prog J 26 n0 133 ct133 [1, 1, 0, 1, 0] (codeOf f133) [] (RetQ prog [.tmp 4] n0 K))))
  {s : S} {f : RG} (hi : Gets n0 I s f h) : Sem J 26 n0 133 (subC [1, 1, 0, 1, 0] (codeOf f133)) f h (contX pl133 prog J 26 n0 133 ct133 [1, 1, 0, 1, 0] (codeOf f133) [] (RetQ prog [.tmp 4] n0 K)) :=
  loop_rule hJ mixed (b := subC [1, 1, 0, 1, 0, 0] (codeOf f133)) (by kernel_rfl) μ I hI hi
theorem at128 : prog.funcs[128]? = some f128 := by kernel_rfl
theorem body128 : f128.body = some (codeOf f128) := by kernel_rfl
def pl128 : Plans := []
def ct128 : Cuts := .go
theorem pok128 : plansOk prog pl128 (codeOf f128) = true := by kernel_rfl
theorem e128 {a0 : Value} : W prog J 9 h.length 128 (codeOf f128) (RG.mk (regs [a0]) []) h (RetQ prog [.tmp 2] h.length K) =
(aBox a0 h fun v1 h2 =>
aLoad true 6 v1 h2 fun v3 =>
aOff v1 0 fun v4 =>
aLoad false 1 v4 h2 fun v5 =>
aFill [(vint 0), (vint 0)] [(0, 1, v5)] fun c6 =>
aFill [(vint 0), (vint 0), (vint 0), (vint 0), (vint 0), (vint 0), (vint 0), (vint 0)] [(0, 6, v3), (6, 2, (Value.agg ⟨c6⟩))] fun c7 =>
aBox (Value.agg ⟨c7⟩) h2 fun v8 h9 =>
retL h.length K [] [v8] h9) := top_eq pok128 ct128 (by kernel_rfl)
theorem g128 (hJ : Closed prog main J) {a0 : Value} (hs : heapOk h → W prog J 9 h.length 128 (codeOf f128) (RG.mk (regs [a0]) []) h (RetQ prog [.tmp 2] h.length K)) : Good prog J 128 [a0] h K :=
  good_of_W hJ mixed at128 body128 (by kernel_rfl) (Nat.le_of_ble_eq_true rfl) hs
theorem at129 : prog.funcs[129]? = some f129 := by kernel_rfl
theorem body129 : f129.body = some (codeOf f129) := by kernel_rfl
def pl129 : Plans := [(2, true, .take 0 (.take 1 (.take 2 (.take 3 (.take 4 (.take 5 (.take 6 (.take 7 (.take 8 (.take 9 (.take 10 (.take 11 (.take 12 (.take 13 (.take 14 (.take 15 (.last 16 false (.fin)))))))))))))))))),
  (3, true, .take 0 (.take 1 (.take 2 (.take 3 (.take 4 (.take 5 (.take 6 (.take 7 (.take 8 (.take 9 (.take 10 (.take 11 (.take 12 (.take 13 (.take 14 (.take 15 (.fin))))))))))))))))),
  (10, true, .take 0 (.take 1 (.take 2 (.take 3 (.take 4 (.take 5 (.take 6 (.take 7 (.take 8 (.take 9 (.take 10 (.take 11 (.take 12 (.take 13 (.take 14 (.take 15 (.take 16 (.take 17 (.take 18 (.take 19 (.take 20 (.last 21 false (.fin))))))))))))))))))))))),
  (4, true, .take 0 (.take 1 (.take 2 (.take 3 (.take 4 (.take 5 (.take 6 (.take 7 (.take 8 (.take 9 (.take 10 (.take 11 (.take 12 (.take 13 (.take 14 (.take 15 (.take 16 (.take 17 (.take 18 (.take 19 (.take 20 (.last 21 false (.fin)))))))))))))))))))))))]
def ct129 : Cuts := .bin (.go) (.bin (.go) (.bin (.go) (.bin (.go) (.cut (.go)))))
theorem pok129 : plansOk prog pl129 (codeOf f129) = true := by kernel_rfl
theorem e129 {a0 a1 a2 : Value} : W prog J 119 h.length 129 (codeOf f129) (RG.mk (regs [a0, a1, a2]) []) h (RetQ prog [.tmp 6, .tmp 7] h.length K) =
(aNil a0 fun v1 =>
aOff v1 6 fun v2 =>
aOff v2 0 fun v3 =>
aLoad false 1 v3 h fun v4 =>
aBin prog .gtr 3 a1 v4 fun v5 =>
aNil a0 fun v6 =>
aOff v6 6 fun v7 =>
aOff v7 0 fun v8 =>
aLoad false 1 v8 h fun v9 =>
aNil a0 fun v10 =>
aOff v10 6 fun v11 =>
aOff v11 0 fun v12 =>
aLoad false 1 v12 h fun v13 =>
aMin a1 [v13] fun v14 =>
aBin prog .sub 3 v9 v14 fun v15 =>
aNil a0 fun v16 =>
aOff v16 6 fun v17 =>
aOff v17 0 fun v18 =>
aStore 1 v18 v15 h fun h19 =>
aBin prog .gtr 3 a1 (vint 0) fun v20 =>
cnd v20
(aNil a0 fun v21 =>
aOff v21 6 fun v22 =>
aOff v22 0 fun v23 =>
aLoad false 1 v23 h19 fun v24 =>
aNil a0 fun v25 =>
aOff v25 0 fun v26 =>
aOff v26 4 fun v27 =>
aLoad false 1 v27 h19 fun v28 =>
aBin prog .lss 3 v24 v28 fun v29 =>
Hold (W prog J 119 h.length 129 (subC [1, 1, 1, 1] (codeOf f129)) (RG.p (RG.p (RG.p (RG.p (RG.p (RG.p (RG.p (RG.p (RG.p (RG.p (RG.p (RG.p (RG.p (RG.p (RG.p (RG.p (RG.p (RG.p (RG.p (RG.p (RG.p (RG.p (RG.p (RG.p (RG.p (RG.p (RG.p (RG.p (RG.p (RG.p (RG.p (RG.p (RG.p (RG.p (RG.p (RG.p (RG.p (RG.p (RG.p (RG.p (RG.p (RG.p (RG.p (RG.mk (regs [a0, a1, a2]) []) 6 (Value.bool false)) 7 (Value.bool false)) 8 a1) 9 a0) 10 v1) 11 v2) 12 v3) 13 v4) 14 v5) 6 v5) 15 a0) 16 v6) 17 v7) 18 v8) 19 v9) 20 a1) 21 a0) 22 v10) 23 v11) 24 v12) 25 v13) 26 v14) 27 v15) 28 v16) 29 v17) 30 v18) 31 a1) 32 v20) 33 v20) 33 (Value.bool true)) 34 a0) 35 v21) 36 v22) 37 v23) 38 v24) 39 a0) 40 v25) 41 v26) 42 v27) 43 v28) 44 v29) 45 v29) 7 v29) h19 (contX pl129 prog J 119 h.length 129 ct129 [1, 1, 1, 1] (codeOf f129) [] (RetQ prog [.tmp 6, .tmp 7] h.length K))))
(Hold (W prog J 119 h.length 129 (subC [1, 1, 1, 1] (codeOf f129)) (RG.p (RG.p (RG.p (RG.p (RG.p (RG.p (RG.p (RG.p (RG.p (RG.p (RG.p (RG.p (RG.p (RG.p (RG.p (RG.p (RG.p (RG.p (RG.p (RG.p (RG.p (RG.p (RG.p (RG.p (RG.p (RG.p (RG.p (RG.p (RG.p (RG.p (RG.p (RG.p (RG.p (RG.p (RG.p (RG.p (RG.p (RG.p (RG.p (RG.p (RG.p (RG.p (RG.p (RG.mk (regs [a0, a1, a2]) []) 6 (Value.bool false)) 7 (Value.bool false)) 8 a1) 9 a0) 10 v1) 11 v2) 12 v3) 13 v4) 14 v5) 6 v5) 15 a0) 16 v6) 17 v7) 18 v8) 19 v9) 20 a1) 21 a0) 22 v10) 23 v11) 24 v12) 25 v13) 26 v14) 27 v15) 28 v16) 29 v17) 30 v18) 31 a1) 32 v20) 33 v20) 33 (Value.bool false)) 34 undef) 35 undef) 36 undef) 37 undef) 38 undef) 39 undef) 40 undef) 41 undef) 42 undef) 43 undef) 44 undef) 45 (Value.bool false)) 7 (Value.bool false)) h19 (contX pl129 prog J 119 h.length 129 ct129 [1, 1, 1, 1] (codeOf f129) [] (RetQ prog [.tmp 6, .tmp 7] h.length K))))) := top_eq pok129 ct129 (by kernel_rfl)
theorem g129 (hJ : Closed prog main J) {a0 a1 a2 : Value} (hs : heapOk h → W prog J 119 h.length 129 (codeOf f129) (RG.mk (regs [a0, a1, a2]) []) h (RetQ prog [.tmp 6, .tmp 7] h.length K)) : Good prog J 129 [a0, a1, a2] h K :=
  good_of_W hJ mixed at129 body129 (by kernel_rfl) (Nat.le_of_ble_eq_true rfl) hs
theorem s129_1 {f : RG} : W prog J 119 n0 129 (subC [1, 1, 1, 1] (codeOf f129)) f h (contX pl129 prog J 119 n0 129 ct129 [1, 1, 1, 1] (codeOf f129) [] (RetQ prog [.tmp 6, .tmp 7] n0 K)) =
(cnd (f.r 7)
(aNil (f.r 0) fun v1 =>
aOff v1 0 fun v2 =>
aOff v2 5 fun v3 =>
aLoad false 1 v3 h fun v4 =>
aNil (f.r 0) fun v5 =>
aOff v5 6 fun v6 =>
aOff v6 1 fun v7 =>
aStore 1 v7 v4 h fun h8 =>
retL n0 K f.ds [(f.r 6), (f.r 7)] h8)
(aNil (f.r 0) fun v9 =>
aOff v9 6 fun v10 =>
aOff v10 1 fun v11 =>
aLoad false 1 v11 h fun v12 =>
aBin prog .gtr 3 v12 (vint 0) fun v13 =>
cnd v13
(aNil (f.r 0) fun v14 =>
aOff v14 6 fun v15 =>
aOff v15 1 fun v16 =>
aLoad false 1 v16 h fun v17 =>
aBin prog .sub 3 v17 (vint 1) fun v18 =>
aNil (f.r 0) fun v19 =>
aOff v19 6 fun v20 =>
aOff v20 1 fun v21 =>
aStore 1 v21 v18 h fun h22 =>
retL n0 K f.ds [(f.r 6), (f.r 7)] h22)
(cnd (f.r 2)
(aNil (f.r 0) fun v23 =>
aOff v23 0 fun v24 =>
aOff v24 1 fun v25 =>
aLoad false 1 v25 h fun v26 =>
aNil (f.r 0) fun v27 =>
aOff v27 6 fun v28 =>
aOff v28 0 fun v29 =>
aLoad false 1 v29 h fun v30 =>
aNil (f.r 0) fun v31 =>
aOff v31 0 fun v32 =>
aOff v32 3 fun v33 =>
aLoad false 1 v33 h fun v34 =>
aBin prog .add 3 v30 v34 fun v35 =>
aMin v26 [v35] fun v36 =>
aNil (f.r 0) fun v37 =>
aOff v37 6 fun v38 =>
aOff v38 0 fun v39 =>
aStore 1 v39 v36 h fun h40 =>
retL n0 K f.ds [(f.r 6), (f.r 7)] h40)
(aNil (f.r 0) fun v41 =>
aOff v41 0 fun v42 =>
aOff v42 1 fun v43 =>
aLoad false 1 v43 h fun v44 =>
aNil (f.r 0) fun v45 =>
aOff v45 6 fun v46 =>
aOff v46 0 fun v47 =>
aLoad false 1 v47 h fun v48 =>
aNil (f.r 0) fun v49 =>
aOff v49 0 fun v50 =>
aOff v50 2 fun v51 =>
aLoad false 1 v51 h fun v52 =>
aBin prog .add 3 v48 v52 fun v53 =>
aMin v44 [v53] fun v54 =>
aNil (f.r 0) fun v55 =>
aOff v55 6 fun v56 =>
aOff v56 0 fun v57 =>
aStore 1 v57 v54 h fun h58 =>
retL n0 K f.ds [(f.r 6), (f.r 7)] h58)))) := sub_eq pok129 ct129 (by kernel_rfl)
theorem at136 : prog.funcs[136]? = some f136 := by kernel_rfl
theorem body136 : f136.body = some (codeOf f136) := by kernel_rfl
def pl136 : Plans := [(6, false, .take 0 (.take 1 (.take 2 (.take 3 (.take 4 (.take 5 (.take 6 (.take 7 (.take 8 (.last 9 true (.take 10 (.fin))))))))))))]
def ct136 : Cuts := .bin (.go) (.bin (.go) (.bin (.go) (.bin (.go) (.cut (.go)))))
theorem pok136 : plansOk prog pl136 (codeOf f136) = true := by kernel_rfl
theorem e136 {a0 a1 a2 : Value} : W prog J 30 h.length 136 (codeOf f136) (RG.mk (regs [a0, a1, a2]) []) h (RetQ prog [.cell 6 158, .tmp 7] h.length K) =
(aBox a0 h fun v1 h2 =>
aBox a1 h2 fun v3 h4 =>
aAlloc [(Value.int .u8 0), (vint 0)] h4 fun v5 h6 =>
aOff v1 0 fun v7 =>
aLoad false 1 v7 h6 fun v8 =>
aBin prog .neq 5 v8 a2 fun v9 =>
cnd v9
(aFill [(Value.int .u8 0), (vint 0)] [(0, 1, a2), (1, 1, (vint 1))] fun c10 =>
aStore 2 v5 (Value.agg ⟨c10⟩) h6 fun h11 =>
RetQ prog [.cell 6 158, .tmp 7] h.length K .ret (RG.p (RG.p (RG.p (RG.p (RG.p (RG.p (RG.p (RG.p (RG.p (RG.p (RG.p (RG.mk (regs [a0, a1, a2]) []) 3 v1) 4 v3) 6 v5) 7 (Value.bool false)) 9 v7) 10 v8) 11 a2) 12 v9) 13 a2) 14 (Value.agg ⟨c10⟩)) 7 (Value.bool true)) h11)
(aOff v3 1 fun v12 =>
aLoad false 1 v12 h6 fun v13 =>
aBin prog .eql 5 a2 (Value.int .u8 119) fun v14 =>
cnd v14
(aOff v3 2 fun v15 =>
aLoad false 1 v15 h6 fun v16 =>
Hold (W prog J 30 h.length 136 (subC [1, 1, 1, 1] (codeOf f136)) (RG.p (RG.p (RG.p (RG.p (RG.p (RG.p (RG.p (RG.p (RG.p (RG.p (RG.p (RG.p (RG.p (RG.p (RG.p (RG.p (RG.mk (regs [a0, a1, a2]) []) 3 v1) 4 v3) 6 v5) 7 (Value.bool false)) 9 v7) 10 v8) 11 a2) 12 v9) 15 v12) 16 v13) 8 v13) 17 a2) 18 v14) 19 v15) 20 v16) 8 v16) h6 (contX pl136 prog J 30 h.length 136 ct136 [1, 1, 1, 1] (codeOf f136) [] (RetQ prog [.cell 6 158, .tmp 7] h.length K))))
(Hold (W prog J 30 h.length 136 (subC [1, 1, 1, 1] (codeOf f136)) (RG.p (RG.p (RG.p (RG.p (RG.p (RG.p (RG.p (RG.p (RG.p (RG.p (RG.p (RG.p (RG.p (RG.mk (regs [a0, a1, a2]) []) 3 v1) 4 v3) 6 v5) 7 (Value.bool false)) 9 v7) 10 v8) 11 a2) 12 v9) 15 v12) 16 v13) 8 v13) 17 a2) 18 v14) h6 (contX pl136 prog J 30 h.length 136 ct136 [1, 1, 1, 1] (codeOf f136) [] (RetQ prog [.cell 6 158, .tmp 7] h.length K)))))) := top_eq pok136 ct136 (by kernel_rfl)
theorem g136 (hJ : Closed prog main J) {a0 a1 a2 : Value} (hs : heapOk h → W prog J 30 h.length 136 (codeOf f136) (RG.mk (regs [a0, a1, a2]) []) h (RetQ prog [.cell 6 158, .tmp 7] h.length K)) : Good prog J 136 [a0, a1, a2] h K :=
  good_of_W hJ mixed at136 body136 (by kernel_rfl) (Nat.le_of_ble_eq_true rfl) hs
theorem s136_1 {f : RG} : W prog J 30 n0 136 (subC [1, 1, 1, 1] (codeOf f136)) f h (contX pl136 prog J 30 n0 136 ct136 [1, 1, 1, 1] (codeOf f136) [] (RetQ prog [.cell 6 158, .tmp 7] n0 K)) =
((∃ B, aOff (f.r 3) 1 fun v1 =>
aLoad false 1 v1 h fun v2 =>
RdOk (some B) (ptrBlk v1) ∧ (aBin prog .add 3 v2 (vint 1) fun v3 =>
aFill [(Value.int .u8 0), (vint 0)] [(0, 1, (f.r 2)), (1, 1, v3)] fun c4 =>
aOff (f.r 3) 1 fun v5 =>
aLoad false 1 v5 h fun v6 =>
RdOk (some B) (ptrBlk v5) ∧ (aBin prog .lss 3 v6 (f.r 8) fun v7 =>
aStore 2 (f.r 6) (Value.agg ⟨c4⟩) h fun h8 =>
SameB (some B) h h8 ∧ (RetQ prog [.cell 6 158, .tmp 7] n0 K .ret (RG.p (RG.p (RG.p (RG.p (RG.p (RG.p (RG.p (RG.p (RG.p (RG.p f 21 (f.r 2)) 22 v1) 23 v2) 24 v3) 25 (Value.agg ⟨c4⟩)) 26 v5) 27 v6) 28 (f.r 8)) 29 v7) 7 v7) h8))))) := sub_eq pok136 ct136 (by kernel_rfl)
end
end Go.Proofs.Ytindillghipjjaa
namespace Go.Proofs.Ytindillghipjjaa
open Go.Conc
section
variable {P : Program} {t : TypeId} {K : Value → Prop} {H : Value → List AObj → Prop} {k : IntKind} {a b : Int} {p : Prop} [Decidable p] {A B : Prop} {h : List AObj}
theorem cnd_dec : cnd (.bool (decide p)) A B ↔ (p → A) ∧ (¬p → B) := by by_cases h : p <;> simp [cnd, h]
theorem cnd_ndec : cnd (.bool (!decide p)) A B ↔ (¬p → A) ∧ (p → B) := by by_cases h : p <;> simp [cnd, h]
theorem cnd_bool {b : Bool} : cnd (.bool b) A B ↔ (b = true → A) ∧ (b = false → B) := by cases b <;> simp [cnd]
theorem cnd_true : cnd (.bool true) A B ↔ A := by simp [cnd]
theorem cnd_false : cnd (.bool false) A B ↔ B := by simp [cnd]
theorem b_lss : aBin P .lss t (.int k a) (.int k b) K = K (.bool (decide (a < b))) := by simp [aBin, aInt]
theorem b_leq : aBin P .leq t (.int k a) (.int k b) K = K (.bool (decide (a ≤ b))) := by simp [aBin, aInt]
theorem b_gtr : aBin P .gtr t (.int k a) (.int k b) K = K (.bool (decide (a > b))) := by simp [aBin, aInt]
theorem b_geq : aBin P .geq t (.int k a) (.int k b) K = K (.bool (decide (a ≥ b))) := by simp [aBin, aInt]
theorem b_eql : aBin P .eql t (.int k a) (.int k b) K = K (.bool (decide (a = b))) := by simp [aBin, aInt]; rfl
theorem b_neq : aBin P .neq t (.int k a) (.int k b) K = K (.bool (decide (a ≠ b))) := by simp [aBin, aInt]; rfl
theorem wrap64 {n : Int} (h1 : -9223372036854775808 ≤ n) (h2 : n < 9223372036854775808) : IntKind.i64.wrap n = n := by
  simp only [IntKind.wrap, IntKind.bits, IntKind.signed]
  simp
  split <;> omega
theorem b_add (h : -9223372036854775808 ≤ a + b ∧ a + b < 9223372036854775808) : aBin P .add t (vint a) (vint b) K = K (vint (a + b)) := by simp [aBin, aInt, vint, wrap64 h.1 h.2]
theorem b_sub (h : -9223372036854775808 ≤ a - b ∧ a - b < 9223372036854775808) : aBin P .sub t (vint a) (vint b) K = K (vint (a - b)) := by simp [aBin, aInt, vint, wrap64 h.1 h.2]
theorem idx_ok {s b o n c : Nat} {j : Int} : aIdx s (.slice (some ⟨b, o, none⟩) n c) (vint j) K = ((0 ≤ j ∧ j < n) ∧ K (ptr b (o + j.toNat * s))) := rfl
theorem load_cell {b o s : Nat} {c : List Value} {wr : Bool} {sz : Nat} {v : Value} (hb : h[b]? = some (.cells c wr sz)) (hv : c[o]? = some v) (hn : kn1 v = true) {K : Value → Prop} : aLoad false s (ptr b o) h K = K v := by
  simp [aLoad, hb, hv, hn]
theorem store_cell {b o : Nat} {c : List Value} {sz : Nat} {v : Value} (hb : h[b]? = some (.cells c true sz)) (ho : o < c.length) (h1 : v.cells = #[v]) (h2 : one v = true) {K : List AObj → Prop} (hk : K (h.set b (.cells (c.set o v) true sz))) : aStore 1 (ptr b o) v h K := by
  simp [aStore, ptr, hb, h1, h2, wrAt]
  exact ⟨ho, hk⟩
theorem sub_id {n : Nat} {v : Value} (h : VOk n v) : sub id v = v := sub_same (n := n) (fun _ _ => rfl) v h
theorem gc_drop {n0 : Nat} {g : List AObj} (ok : heapOk h) (hn : n0 ≤ h.length) : GC n0 id (h ++ g) h :=
  ⟨hn, fun _ _ => rfl, fun i o hi => .inr (by
    rw [subO_same (σ := id) (n := h.length) (fun _ _ => rfl) (ok i o hi)]
    have : i < h.length := by
      rcases Nat.lt_or_ge i h.length with x | x
      · exact x
      · rw [List.getElem?_eq_none x] at hi; cases hi
    simp only [id]
    rw [List.getElem?_append_left this]
    exact hi), fun i j _ _ _ _ _ _ e => e, ok⟩
theorem retL_same {n0 : Nat} {vs : List Value} (hv : ∀ v ∈ vs, v ≠ unk) (hk : H (pack vs) h) : retL n0 H [] vs h := by
  unfold retL takeW
  have : ∀ (l : List Value) (p : Prop), (∀ v ∈ l, v ≠ unk) → p → nuK l p := by
    intro l
    induction l with
    | nil => intro p _ hp; exact hp
    | cons v l ih => intro p h hp; exact ⟨h v (by simp), ih p (fun u hu => h u (by simp [hu])) hp⟩
  exact this vs _ hv (.inl hk)
theorem retL_drop {n0 : Nat} {g : List AObj} {vs : List Value} (ok : heapOk h) (hn : n0 ≤ h.length) (hv : ∀ v ∈ vs, v ≠ unk) (hw : VOk h.length (pack vs)) (hk : H (pack vs) h) : retL n0 H [] vs (h ++ g) := by
  unfold retL takeW
  have : ∀ (l : List Value) (p : Prop), (∀ v ∈ l, v ≠ unk) → p → nuK l p := by
    intro l
    induction l with
    | nil => intro p _ hp; exact hp
    | cons v l ih => intro p h hp; exact ⟨h v (by simp), ih p (fun u hu => h u (by simp [hu])) hp⟩
  exact this vs _ hv (.inr ⟨id, h, pack vs, gc_drop ok hn, (sub_id hw).symm, hw, hk⟩)
def Sli (h : List AObj) (v : Value) (s n : Nat) (cells : List Value) : Prop :=
  ∃ base c, v = .slice base n c ∧ (cells.length = n * s ∧ kn cells = true) ∧ ((base = none ∧ n = 0) ∨ ∃ b o, base = some ⟨b, o, none⟩ ∧ (n = 0 ∨ ∃ cs wr sz, h[b]? = some (.cells cs wr sz) ∧ (cs.drop o).take (n * s) = cells))
theorem sli_len {v : Value} {s n : Nat} {cells : List Value} (hs : Sli h v s n cells) : aLenS v K = K (vint n) := by
  obtain ⟨base, c, rfl, _⟩ := hs
  rfl
theorem sli_get {v : Value} {s n : Nat} {cells : List Value} (hs : Sli h v s n cells) {i : Int} (hi : 0 ≤ i ∧ i < n) :
    ∃ b o cs wr sz c, v = .slice (some ⟨b, o, none⟩) n c ∧ h[b]? = some (.cells cs wr sz) ∧ ∀ j x, cells[j]? = some x → cs[o + j]? = some x := by
  obtain ⟨base, c, rfl, ⟨hl, hkn⟩, hc⟩ := hs
  rcases hc with ⟨_, h0⟩ | ⟨b, o, rfl, h0 | ⟨cs, wr, sz, hb, rfl⟩⟩
  · omega
  · omega
  · refine ⟨b, o, cs, wr, sz, c, rfl, hb, fun j x hx => ?_⟩
    rw [List.getElem?_take] at hx
    split at hx
    · rw [List.getElem?_drop] at hx
      exact hx
    · cases hx
theorem idx_load {v : Value} {n : Nat} {cells : List Value} {i : Int} {x : Value} {K : Value → Value → Prop} (hs : Sli h v 1 n cells) (hi : 0 ≤ i ∧ i < n) (hx : cells[i.toNat]? = some x) (hk : ∀ p, K p x) :
    aIdx 1 v (vint i) fun p => aLoad false 1 p h (K p) := by
  obtain ⟨b, o, cs, wr, sz, c, rfl, hb, hg⟩ := sli_get hs hi
  rw [idx_ok]
  refine ⟨hi, ?_⟩
  rw [load_cell hb (by simpa using hg _ _ hx) (by
    obtain ⟨_, _, _, ⟨_, hkn⟩, _⟩ := hs
    exact kn_get hkn hx)]
  exact hk _
theorem sli_app {v : Value} {s n : Nat} {cells : List Value} {g : List AObj} (hs : Sli h v s n cells) : Sli (h ++ g) v s n cells := by
  obtain ⟨base, c, rfl, ⟨hl, hkn⟩, hc⟩ := hs
  refine ⟨base, c, rfl, ⟨hl, hkn⟩, ?_⟩
  rcases hc with h0 | ⟨b, o, rfl, h0 | ⟨cs, wr, sz, hb, hx⟩⟩
  · exact .inl h0
  · exact .inr ⟨b, o, rfl, .inl h0⟩
  · refine .inr ⟨b, o, rfl, .inr ⟨cs, wr, sz, ?_, hx⟩⟩
    have : b < h.length := by
      rcases Nat.lt_or_ge b h.length with x | x
      · exact x
      · rw [List.getElem?_eq_none x] at hb; cases hb
    rw [List.getElem?_append_left this]
    exact hb
theorem sli_new {b n c : Nat} {cells : List Value} {wr : Bool} {sz : Nat} (hb : h[b]? = some (.cells cells wr sz)) (hl : cells.length = n) (hk : kn cells = true) : Sli h (.slice (some ⟨b, 0, none⟩) n c) 1 n cells :=
  ⟨_, c, rfl, ⟨by omega, hk⟩, .inr ⟨b, 0, rfl, .inr ⟨cells, wr, sz, hb, by simp [← hl]⟩⟩⟩
theorem sli_nil {s : Nat} : Sli h (.slice none 0 0) s 0 [] := ⟨none, 0, rfl, ⟨by simp, rfl⟩, .inl ⟨rfl, rfl⟩⟩
theorem sli_vlen {v : Value} {s n : Nat} {cells : List Value} (hs : Sli h v s n cells) : cells.length = n * s := by
  obtain ⟨_, _, _, ⟨hl, _⟩, _⟩ := hs
  exact hl
theorem src_sli {v : Value} {s n : Nat} {cells : List Value} {K : List Value → Prop} (hs : Sli h v s n cells) (hsp : 0 < s) (hk : K cells) : srcCells s n v h K := by
  obtain ⟨base, c, rfl, ⟨hl, hkn⟩, hc⟩ := hs
  rcases hc with ⟨rfl, rfl⟩ | ⟨b, o, rfl, h0 | ⟨cs, wr, sz, hb, rfl⟩⟩
  · have : cells = [] := List.length_eq_zero_iff.1 (by omega)
    subst this
    exact ⟨rfl, hk⟩
  · subst h0
    have : cells = [] := List.length_eq_zero_iff.1 (by omega)
    subst this
    exact ⟨fun _ => hk, fun x => absurd rfl x⟩
  · by_cases h0 : n = 0
    · subst h0
      exact ⟨fun _ => by simpa using hk, fun x => absurd rfl x⟩
    · refine ⟨fun x => absurd x h0, fun _ => ?_⟩
      simp only [hb]
      refine ⟨?_, hkn, hk⟩
      rw [List.length_take, List.length_drop] at hl
      have := Nat.mul_pos (Nat.pos_of_ne_zero h0) hsp
      omega
theorem app_nil {s m : Nat} {y : Value} {ys : List Value} (hsp : 0 < s) (hy : Sli h y s m ys) (hm : m ≤ room) (h0 : m = 0 → H (.slice none 0 0) h) (h1 : m ≠ 0 → H (.slice (some ⟨h.length, 0, none⟩) m fz) (h ++ [.cells ys true s])) : aApp s (.slice none 0 0) y h H := by
  have hy' := hy
  obtain ⟨yb, yc, rfl, _⟩ := hy
  exact ⟨by omega, src_sli hy' hsp ⟨⟨rfl, rfl⟩, h0, h1⟩⟩
theorem app_own {s n m b : Nat} {y : Value} {cs ys : List Value} (hb : h[b]? = some (.cells cs true s)) (hcs : n * s ≤ cs.length) (hkn : kn (cs.take (n * s)) = true) (hsp : 0 < s) (hy : Sli h y s m ys) (hm : n + m ≤ room)
    (hk : H (.slice (some ⟨h.length, 0, none⟩) (n + m) fz) (h.set b .dead ++ [.cells (cs.take (n * s) ++ ys) true s])) : aApp s (.slice (some ⟨b, 0, none⟩) n fz) y h H := by
  have hy' := hy
  obtain ⟨yb, yc, rfl, _⟩ := hy
  refine ⟨hm, src_sli hy' hsp ?_⟩
  simp only [hb, List.drop_zero, Nat.zero_add]
  have : s ≠ 0 := by omega
  exact ⟨⟨hcs, hkn⟩, fun x => absurd x (Nat.lt_irrefl _), fun _ => ⟨trivial, trivial, trivial, trivial, hk⟩⟩
theorem app_copy {s n m b o c : Nat} {y : Value} {cs ys : List Value} {wr : Bool} {sz : Nat} (hb : h[b]? = some (.cells cs wr sz)) (hcs : o + n * s ≤ cs.length) (hkn : kn ((cs.drop o).take (n * s)) = true) (hc : c < n + m) (hsp : 0 < s) (hy : Sli h y s m ys) (hm : n + m ≤ room)
    (hk : H (.slice (some ⟨h.length, 0, none⟩) (n + m) fz) (h ++ [.cells ((cs.drop o).take (n * s) ++ ys) true s])) : aApp s (.slice (some ⟨b, o, none⟩) n c) y h H := by
  have hy' := hy
  obtain ⟨yb, yc, rfl, _⟩ := hy
  refine ⟨hm, src_sli hy' hsp ?_⟩
  simp only [hb]
  have hr : room = 1073741824 := rfl
  have hf : fz = 1180591620717411303424 := rfl
  exact ⟨⟨hcs, hkn⟩, fun _ => ⟨fun x => absurd x (by omega), fun _ => hk⟩, fun x => absurd x (by omega)⟩
theorem zrep_one {z : Value} (n : Nat) : zrep [z] n = List.replicate n z := by
  induction n with
  | zero => rfl
  | succ n ih => simp [zrep, ih, List.replicate_succ]
theorem kn_ints (l : List Int) : kn (l.map vint) = true := by
  simp [kn, kn1]
theorem map_get {l : List Int} {k : Nat} (hk : k < l.length) : (l.map vint)[k]? = some (vint (l.getD k 0)) := by
  simp [hk]
theorem wrapU (n : Int) : 0 ≤ IntKind.u64.wrap n ∧ IntKind.u64.wrap n < 18446744073709551616 := by
  simp only [IntKind.wrap, IntKind.bits, IntKind.signed]
  simp
  omega
theorem u_add (hk : ∀ y, 0 ≤ y → y < 18446744073709551616 → K (.int .u64 y)) : aBin P .add t (.int .u64 a) (.int .u64 b) K := ⟨rfl, hk _ (wrapU _).1 (wrapU _).2⟩
theorem u_mul (hk : ∀ y, 0 ≤ y → y < 18446744073709551616 → K (.int .u64 y)) : aBin P .mul t (.int .u64 a) (.int .u64 b) K := ⟨rfl, hk _ (wrapU _).1 (wrapU _).2⟩
theorem u_xor (hk : ∀ y, 0 ≤ y → y < 18446744073709551616 → K (.int .u64 y)) : aBin P .xor t (.int .u64 a) (.int .u64 b) K := ⟨rfl, hk _ (wrapU _).1 (wrapU _).2⟩
theorem u_shl (hb : 0 ≤ b) (hk : ∀ y, 0 ≤ y → y < 18446744073709551616 → K (.int .u64 y)) : aBin P .shl t (.int .u64 a) (.int k b) K := ⟨hb, hk _ (wrapU _).1 (wrapU _).2⟩
theorem u_shr (hb : 0 ≤ b) (ha : 0 ≤ a) {A : Int} (hA : a < A) (hk : ∀ y, 0 ≤ y → y < A → K (.int .u64 y)) : aBin P .shr t (.int .u64 a) (.int k b) K := by
  refine ⟨hb, hk _ ?_ ?_⟩
  · exact Int.fdiv_nonneg ha (by exact Int.le_of_lt (Int.pow_pos (by decide)))
  · refine Int.lt_of_le_of_lt ?_ hA
    rw [Int.fdiv_eq_ediv_of_nonneg _ (Int.le_of_lt (Int.pow_pos (by decide)))]
    exact Int.ediv_le_self _ ha
end
section
variable {P : Program} {t : TypeId} {K : Value → Prop} {H : Value → List AObj → Prop} {HL : List AObj → Prop} {a b : Int} {h g : List AObj} {A B : Prop}
theorem box_agg {cs : List Value} (h1 : cs.all one = true) (hk : H (ptr h.length 0) (h ++ [.cells cs true 0])) : aBox (.agg ⟨cs⟩) h H := ⟨h1, hk⟩
theorem box_one {v : Value} (hc : v.cells = #[v]) (h1 : one v = true) (hk : H (ptr h.length 0) (h ++ [.cells [v] true 0])) : aBox v h H := by
  unfold aBox
  rw [hc]
  exact ⟨by simpa using h1, hk⟩
theorem load_part {b o s : Nat} {cs c : List Value} {wr : Bool} {sz : Nat} (hb : h[b]? = some (.cells cs wr sz)) (hl : o + s ≤ cs.length) (hc : (cs.drop o).take s = c) (hn : kn c = true) (hk : K (.agg ⟨c⟩)) : aLoad true s (ptr b o) h K := by
  simp only [aLoad, ptr, hb, cond_true, hc]
  exact ⟨hl, hn, hk⟩
theorem store_agg {b : Nat} {cs c : List Value} {s : Nat} {sz : Nat} (hb : h[b]? = some (.cells cs true sz)) (hl : c.length = s) (hs : cs.length = s) (h1 : c.all one = true) (hk : HL (h.set b (.cells c true sz))) : aStore s (ptr b 0) (.agg ⟨c⟩) h HL := by
  have e : ∀ (c cs : List Value) (pre : List Value), cs.length = c.length → wrAt (pre ++ cs) pre.length c = pre ++ c := by
    intro c
    induction c with
    | nil =>
      intro cs pre h
      have : cs = [] := List.length_eq_zero_iff.1 (by simpa using h)
      subst this
      rfl
    | cons x c ih =>
      intro cs pre h
      cases cs with
      | nil => simp at h
      | cons y cs =>
        unfold wrAt
        have := ih cs (pre ++ [x]) (by simpa using h)
        simp only [List.length_append, List.length_cons, List.length_nil, List.append_assoc, List.cons_append, List.nil_append] at this
        simp only [List.set_append_right _ _ (Nat.le_refl _), Nat.sub_self, List.set_cons_zero]
        exact this
  simp only [aStore, ptr, hb, Value.cells]
  refine ⟨by simpa using hl, h1, by omega, ?_⟩
  have := e c cs [] (by omega)
  simp only [List.nil_append, List.length_nil] at this
  rw [this]
  exact hk
theorem resW_cell {rs : List ResultVar} {r : Nat → Value} {x : Nat} {gg : Bool} {s : Nat} {KL : List Value → Prop} (ht : tk P t = some (gg, s)) (hk : aLoad gg s (r x) h fun v => resW P rs r h fun vs => KL (v :: vs)) : resW P (.cell x t :: rs) r h KL := by
  unfold resW
  rw [ht]
  exact hk
theorem resW_tmp {rs : List ResultVar} {r : Nat → Value} {x : Nat} {KL : List Value → Prop} (hn : r x ≠ unk) (hk : resW P rs r h fun vs => KL (r x :: vs)) : resW P (.tmp x :: rs) r h KL := ⟨hn, hk⟩
theorem resW_nil {r : Nat → Value} {KL : List Value → Prop} (hk : KL []) : resW P [] r h KL := hk
theorem resW_imp : ∀ (rs : List ResultVar) {r : Nat → Value} {h : List AObj} {K K' : List Value → Prop}, resW P rs r h K → (∀ vs, K vs → K' vs) → resW P rs r h K'
  | [], r, h, K, K', hx, hk => hk _ hx
  | .tmp t :: rs, r, h, K, K', hx, hk => ⟨hx.1, resW_imp rs hx.2 fun vs => hk _⟩
  | .cell a t :: rs, r, h, K, K', hx, hk => by
    unfold resW at hx ⊢
    split at hx
    · obtain ⟨v, k1, k2⟩ := pin_aLoad _ hx
      exact k2 (fun v => resW P rs r h fun vs => K' (v :: vs)) (resW_imp rs k1 fun vs => hk _)
    · exact hx.elim
theorem retQ_drop {rs : List ResultVar} {n0 : Nat} {f : RG} (ds : f.ds = []) (ok : heapOk h) (hn : n0 ≤ h.length) (hr : resW P rs f.r (h ++ g) fun vs => VOk h.length (pack vs) ∧ H (pack vs) h) : RetQ P rs n0 H .ret f (h ++ g) := by
  unfold RetQ
  rw [ds]
  exact resW_imp rs hr fun vs hv => .inr ⟨id, h, pack vs, gc_drop ok hn, (sub_id hv.1).symm, hv.1, hv.2⟩
end
end Go.Proofs.Ytindillghipjjaa
namespace Go.Proofs.Ytindillghipjjaa
open Go.Conc Go.Proofs.Try
set_option maxRecDepth 100000
set_option maxHeartbeats 4000000
set_option linter.unusedVariables false
section
variable {main : Bool} {J : JT} {n0 : Nat} {h : List AObj} {K : Value → List AObj → Prop}
theorem at69 : prog.funcs[69]? = some f69 := by kernel_rfl
theorem body69 : f69.body = some (codeOf f69) := by kernel_rfl
theorem e69 {a0 : Value} : W prog J 72 h.length 69 (codeOf f69) (RG.mk (regs [a0]) []) h (RetQ prog [.tmp 2] h.length K) =
(aNil a0 fun v1 =>
aOff v1 1 fun v2 =>
aLoad false 1 v2 h fun v3 =>
aConvI .u64 v3 fun v4 =>
aNil a0 fun v5 =>
aOff v5 1 fun v6 =>
aLoad false 1 v6 h fun v7 =>
aNil a0 fun v8 =>
aOff v8 0 fun v9 =>
aLoad false 1 v9 h fun v10 =>
aLenS v10 fun v11 =>
aBin prog .lss 3 v7 v11 fun v12 =>
cnd v12
(aNil a0 fun v13 =>
aOff v13 0 fun v14 =>
aLoad false 1 v14 h fun v15 =>
aNil a0 fun v16 =>
aOff v16 1 fun v17 =>
aLoad false 1 v17 h fun v18 =>
aIdx 1 v15 v18 fun v19 =>
aLoad false 1 v19 h fun v20 =>
aConvI .u64 v20 fun v21 =>
aNil a0 fun v22 =>
aOff v22 1 fun v23 =>
aLoad false 1 v23 h fun v24 =>
aBin prog .add 3 v24 (vint 1) fun v25 =>
aNil a0 fun v26 =>
aOff v26 1 fun v27 =>
aStore 1 v27 v25 h fun h28 =>
aNil a0 fun v29 =>
aOff v29 2 fun v30 =>
aLoad false 1 v30 h28 fun v31 =>
aBin prog .mul 86 v21 (Value.int .u64 11400714819323198485) fun v32 =>
aBin prog .xor 86 v31 v32 fun v33 =>
aBin prog .shl 86 v33 (Value.int .u64 13) fun v34 =>
aBin prog .xor 86 v33 v34 fun v35 =>
aBin prog .shr 86 v35 (Value.int .u64 7) fun v36 =>
aBin prog .xor 86 v35 v36 fun v37 =>
aBin prog .shl 86 v37 (Value.int .u64 17) fun v38 =>
aBin prog .xor 86 v37 v38 fun v39 =>
aBin prog .add 86 v39 (Value.int .u64 7146057691288625177) fun v40 =>
aNil a0 fun v41 =>
aOff v41 2 fun v42 =>
aStore 1 v42 v40 h28 fun h43 =>
aBin prog .shr 86 v39 (Value.int .u64 31) fun v44 =>
aBin prog .xor 86 v39 v44 fun v45 =>
aBin prog .mul 86 v45 (Value.int .u64 13787848793156543929) fun v46 =>
aBin prog .shr 86 v46 (Value.int .u64 29) fun v47 =>
aBin prog .xor 86 v46 v47 fun v48 =>
aBin prog .shr 86 v48 (Value.int .u64 11) fun v49 =>
retL h.length K [] [v49] h43)
(aNil a0 fun v50 =>
aOff v50 1 fun v51 =>
aLoad false 1 v51 h fun v52 =>
aBin prog .add 3 v52 (vint 1) fun v53 =>
aNil a0 fun v54 =>
aOff v54 1 fun v55 =>
aStore 1 v55 v53 h fun h56 =>
aNil a0 fun v57 =>
aOff v57 2 fun v58 =>
aLoad false 1 v58 h56 fun v59 =>
aBin prog .mul 86 v4 (Value.int .u64 11400714819323198485) fun v60 =>
aBin prog .xor 86 v59 v60 fun v61 =>
aBin prog .shl 86 v61 (Value.int .u64 13) fun v62 =>
aBin prog .xor 86 v61 v62 fun v63 =>
aBin prog .shr 86 v63 (Value.int .u64 7) fun v64 =>
aBin prog .xor 86 v63 v64 fun v65 =>
aBin prog .shl 86 v65 (Value.int .u64 17) fun v66 =>
aBin prog .xor 86 v65 v66 fun v67 =>
aBin prog .add 86 v67 (Value.int .u64 7146057691288625177) fun v68 =>
aNil a0 fun v69 =>
aOff v69 2 fun v70 =>
aStore 1 v70 v68 h56 fun h71 =>
aBin prog .shr 86 v67 (Value.int .u64 31) fun v72 =>
aBin prog .xor 86 v67 v72 fun v73 =>
aBin prog .mul 86 v73 (Value.int .u64 13787848793156543929) fun v74 =>
aBin prog .shr 86 v74 (Value.int .u64 29) fun v75 =>
aBin prog .xor 86 v74 v75 fun v76 =>
aBin prog .shr 86 v76 (Value.int .u64 11) fun v77 =>
retL h.length K [] [v77] h71)) := by kernel_rfl
theorem g69 (hJ : Closed prog main J) {a0 : Value} (hs : heapOk h → W prog J 72 h.length 69 (codeOf f69) (RG.mk (regs [a0]) []) h (RetQ prog [.tmp 2] h.length K)) : Good prog J 69 [a0] h K :=
  good_of_W hJ mixed at69 body69 (by kernel_rfl) (Nat.le_of_ble_eq_true rfl) hs
theorem at23 : prog.funcs[23]? = some f23 := by kernel_rfl
theorem body23 : f23.body = some (codeOf f23) := by kernel_rfl
theorem e23 {a0 a1 : Value} : W prog J 14 h.length 23 (codeOf f23) (RG.mk (regs [a0, a1]) []) h (RetQ prog [.tmp 4] h.length K) =
(aBin prog .leq 3 a1 (vint 0) fun v1 =>
cnd v1
(retL h.length K [] [(vint 0)] h)
(Good prog J 69 [a0] h fun v2 h3 =>
aBin prog .add 3 a1 (vint 1) fun v4 =>
aConvI .u64 v4 fun v5 =>
aBin prog .rem 86 v2 v5 fun v6 =>
aConvI .i64 v6 fun v7 =>
retL h.length K [] [v7] h3)) := by kernel_rfl
theorem g23 (hJ : Closed prog main J) {a0 a1 : Value} (hs : heapOk h → W prog J 14 h.length 23 (codeOf f23) (RG.mk (regs [a0, a1]) []) h (RetQ prog [.tmp 4] h.length K)) : Good prog J 23 [a0, a1] h K :=
  good_of_W hJ mixed at23 body23 (by kernel_rfl) (Nat.le_of_ble_eq_true rfl) hs
theorem at33 : prog.funcs[33]? = some f33 := by kernel_rfl
theorem body33 : f33.body = some (codeOf f33) := by kernel_rfl
theorem e33 {a0 a1 a2 : Value} : W prog J 14 h.length 33 (codeOf f33) (RG.mk (regs [a0, a1, a2]) []) h (RetQ prog [.tmp 6] h.length K) =
(aBin prog .sub 3 a2 a1 fun v1 =>
Good prog J 23 [a0, v1] h fun v2 h3 =>
aBin prog .add 3 a1 v2 fun v4 =>
retL h.length K [] [v4] h3) := by kernel_rfl
theorem g33 (hJ : Closed prog main J) {a0 a1 a2 : Value} (hs : heapOk h → W prog J 14 h.length 33 (codeOf f33) (RG.mk (regs [a0, a1, a2]) []) h (RetQ prog [.tmp 6] h.length K)) : Good prog J 33 [a0, a1, a2] h K :=
  good_of_W hJ mixed at33 body33 (by kernel_rfl) (Nat.le_of_ble_eq_true rfl) hs
theorem at20 : prog.funcs[20]? = some f20 := by kernel_rfl
theorem body20 : f20.body = some (codeOf f20) := by kernel_rfl
theorem e20 {a0 : Value} : W prog J 6 h.length 20 (codeOf f20) (RG.mk (regs [a0]) []) h (RetQ prog [.tmp 2] h.length K) =
(aFill [(Value.slice none 0 0), (vint 0), (Value.int .u64 0)] [(0, 1, a0), (2, 1, (Value.int .u64 88172645463325252))] fun c1 =>
aBox (Value.agg ⟨c1⟩) h fun v2 h3 =>
retL h.length K [] [v2] h3) := by kernel_rfl
theorem g20 (hJ : Closed prog main J) {a0 : Value} (hs : heapOk h → W prog J 6 h.length 20 (codeOf f20) (RG.mk (regs [a0]) []) h (RetQ prog [.tmp 2] h.length K)) : Good prog J 20 [a0] h K :=
  good_of_W hJ mixed at20 body20 (by kernel_rfl) (Nat.le_of_ble_eq_true rfl) hs
theorem at22 : prog.funcs[22]? = some f22 := by kernel_rfl
theorem body22 : f22.body = some (codeOf f22) := by kernel_rfl
theorem e22 {a0 a1 a2 : Value} : W prog J 20 h.length 22 (codeOf f22) (RG.mk (regs [a0, a1, a2]) []) h (RetQ prog [.tmp 6] h.length K) =
(aLenS a2 fun v1 =>
Good prog J 23 [a0, v1] h fun v2 h3 =>
aBin prog .gtr 3 v2 (vint 0) fun v4 =>
cnd v4
(aBin prog .sub 3 v2 (vint 1) fun v5 =>
aIdx 1 a2 v5 fun v6 =>
aLoad false 1 v6 h3 fun v7 =>
retL h.length K [] [v7] h3)
(retL h.length K [] [a1] h3)) := by kernel_rfl
theorem g22 (hJ : Closed prog main J) {a0 a1 a2 : Value} (hs : heapOk h → W prog J 20 h.length 22 (codeOf f22) (RG.mk (regs [a0, a1, a2]) []) h (RetQ prog [.tmp 6] h.length K)) : Good prog J 22 [a0, a1, a2] h K :=
  good_of_W hJ mixed at22 body22 (by kernel_rfl) (Nat.le_of_ble_eq_true rfl) hs
theorem at28 : prog.funcs[28]? = some f28 := by kernel_rfl
theorem body28 : f28.body = some (codeOf f28) := by kernel_rfl
theorem e28 {a0 a1 : Value} : W prog J 26 h.length 28 (codeOf f28) (RG.mk (regs [a0, a1]) []) h (RetQ prog [.tmp 4] h.length K) =
(aLenS a0 fun v1 =>
aLenS a1 fun v2 =>
aBin prog .neq 3 v1 v2 fun v3 =>
cnd v3
(retL h.length K [] [(Value.bool false)] h)
(Sem J 26 h.length 28 (subC [1, 1, 0, 1, 0] (codeOf f28)) (RG.p (RG.p (RG.p (RG.p (RG.p (RG.p (RG.p (RG.mk (regs [a0, a1]) []) 4 (Value.bool false)) 6 a0) 7 v1) 8 a1) 9 v2) 10 v3) 5 (vint 0)) h (contQ prog J 26 h.length 28 [1, 1, 0, 1, 0] (codeOf f28) [] (RetQ prog [.tmp 4] h.length K)))) := by kernel_rfl
theorem g28 (hJ : Closed prog main J) {a0 a1 : Value} (hs : heapOk h → W prog J 26 h.length 28 (codeOf f28) (RG.mk (regs [a0, a1]) []) h (RetQ prog [.tmp 4] h.length K)) : Good prog J 28 [a0, a1] h K :=
  good_of_W hJ mixed at28 body28 (by kernel_rfl) (Nat.le_of_ble_eq_true rfl) hs
theorem s28_1 {f : RG} {nx0 : RG → List AObj → Prop} : W prog J 26 n0 28 (subC [1, 1, 0, 1, 0, 0] (codeOf f28)) f h (thenK nx0 (contQ prog J 26 n0 28 [1, 1, 0, 1, 0] (codeOf f28) [] (RetQ prog [.tmp 4] n0 K))) =
(aLenS (f.r 0) fun v1 =>
aBin prog .lss 3 (f.r 5) v1 fun v2 =>
cnd v2
(aIdx 1 (f.r 0) (f.r 5) fun v3 =>
aLoad false 1 v3 h fun v4 =>
aIdx 1 (f.r 1) (f.r 5) fun v5 =>
aLoad false 1 v5 h fun v6 =>
aBin prog .neq 3 v4 v6 fun v7 =>
cnd v7
(retL n0 K f.ds [(Value.bool false)] h)
(aBin prog .add 3 (f.r 5) (vint 1) fun v8 =>
nx0 (RG.p (RG.p (RG.p (RG.p (RG.p (RG.p (RG.p (RG.p (RG.p (RG.p (RG.p (RG.p (RG.p (RG.p (RG.p (RG.p f 11 (f.r 5)) 12 (f.r 0)) 13 v1) 14 v2) 17 (f.r 0)) 18 (f.r 5)) 19 v3) 20 v4) 21 (f.r 1)) 22 (f.r 5)) 23 v5) 24 v6) 25 v7) 15 (f.r 5)) 16 v8) 5 v8) h))
(retL n0 K f.ds [(Value.bool true)] h)) := by kernel_rfl
theorem l28_1 (hJ : Closed prog main J) {S : Type} (μ : S → Nat) (I : S → RG → List AObj → Prop) (hI : ∀ s f h, I s f h → heapOk h → n0 ≤ h.length → W prog J 26 n0 28 (subC [1, 1, 0, 1, 0, 0] (codeOf f28)) f h (thenK (Nx n0 μ I s) (contQ prog J 26 n0 28 [1, 1, 0, 1, 0] (codeOf f28) [] (RetQ prog [.tmp 4] n0 K))))
  {s : S} {f : RG} (hi : Gets n0 I s f h) : Sem J 26 n0 28 (subC [1, 1, 0, 1, 0] (codeOf f28)) f h (contQ prog J 26 n0 28 [1, 1, 0, 1, 0] (codeOf f28) [] (RetQ prog [.tmp 4] n0 K)) :=
  loop_rule hJ mixed (b := subC [1, 1, 0, 1, 0, 0] (codeOf f28)) (by kernel_rfl) μ I hI hi
end
end Go.Proofs.Ytindillghipjjaa
namespace Go.Proofs.Ytindillghipjjaa
open Go.Conc Go.Proofs.Try
structure HandAt (h : List AObj) (b : Nat) (nv : Value) (nums : List Int) (k : Nat) (s : Int) : Prop where
  at_ : h[b]? = some (.cells [nv, vint k, .int .u64 s] true 0)
  list : Sli h nv 1 nums.length (nums.map vint)
  sane : nums.length < 4611686018427387904
  few : k < 4611686018427387904
  lo : 0 ≤ s
  hi : s < 18446744073709551616
section
variable {main : Bool} {J : JT} {h : List AObj} {K : Value → List AObj → Prop}
theorem nil_ok {b o : Nat} {K : Value → Prop} : aNil (ptr b o) K = K (ptr b o) := rfl
theorem off_ok {b o d : Nat} {K : Value → Prop} : aOff (ptr b o) d K = K (ptr b (o + d)) := rfl
theorem conv_u {n : Int} {K : Value → Prop} (hk : ∀ y, 0 ≤ y → y < 18446744073709551616 → K (.int .u64 y)) : aConvI .u64 (vint n) K := hk _ (wrapU _).1 (wrapU _).2
theorem u_shr11 {t : TypeId} {y : Int} (h1 : 0 ≤ y) (h2 : y < 18446744073709551616) {K : Value → Prop} : aBin prog .shr t (.int .u64 y) (.int .u64 11) K = K (.int .u64 (y / 2048)) := by
  have e : min (Int.toNat 11) IntKind.u64.bits = 11 := by decide
  simp only [aBin, aShift, e]
  rw [Int.fdiv_eq_ediv_of_nonneg _ (by decide)]
  simp
theorem set_twice {b : Nat} {x y : AObj} (hb : h[b]? = some x) : (h.set b y)[b]? = some y := by
  have : b < h.length := (List.getElem?_eq_some_iff.1 hb).1
  simp [this]
theorem good69 (hJ : Closed prog main J) {b : Nat} {nv : Value} {nums : List Int} {k : Nat} {s : Int} (H : HandAt h b nv nums k s)
    (hK : ∀ x s', 0 ≤ x → x < 9007199254740992 → 0 ≤ s' → s' < 18446744073709551616 → K (.int .u64 x) (h.set b (.cells [nv, vint (k + 1), .int .u64 s'] true 0))) : Good prog J 69 [ptr b 0] h K := by
  refine g69 hJ fun ok => ?_
  rw [e69]
  obtain ⟨hb, hl, hsane, hfew, hlo, hhi⟩ := H
  have hnv : kn1 nv = true := by
    obtain ⟨_, _, rfl, _⟩ := hl
    rfl
  have l0 : ∀ K, aLoad false 1 (ptr b 0) h K = K nv := fun K => load_cell hb rfl hnv
  have l1 : ∀ K, aLoad false 1 (ptr b 1) h K = K (vint k) := fun K => load_cell hb rfl rfl
  -- what stands behind the joining of the ways
  have rest : ∀ x : Int, aBin prog .add 3 (vint k) (vint 1) fun v25 =>
      aStore 1 (ptr b 1) v25 h fun h28 =>
      aLoad false 1 (ptr b 2) h28 fun v31 =>
      aBin prog .mul 86 (.int .u64 x) (Value.int .u64 11400714819323198485) fun v32 =>
      aBin prog .xor 86 v31 v32 fun v33 =>
      aBin prog .shl 86 v33 (Value.int .u64 13) fun v34 =>
      aBin prog .xor 86 v33 v34 fun v35 =>
      aBin prog .shr 86 v35 (Value.int .u64 7) fun v36 =>
      aBin prog .xor 86 v35 v36 fun v37 =>
      aBin prog .shl 86 v37 (Value.int .u64 17) fun v38 =>
      aBin prog .xor 86 v37 v38 fun v39 =>
      aBin prog .add 86 v39 (Value.int .u64 7146057691288625177) fun v40 =>
      aStore 1 (ptr b 2) v40 h28 fun h43 =>
      aBin prog .shr 86 v39 (Value.int .u64 31) fun v44 =>
      aBin prog .xor 86 v39 v44 fun v45 =>
      aBin prog .mul 86 v45 (Value.int .u64 13787848793156543929) fun v46 =>
      aBin prog .shr 86 v46 (Value.int .u64 29) fun v47 =>
      aBin prog .xor 86 v46 v47 fun v48 =>
      aBin prog .shr 86 v48 (Value.int .u64 11) fun v49 =>
      retL h.length K [] [v49] h43 := by
    intro x
    rw [b_add (by omega)]
    refine store_cell hb (by simp) rfl rfl ?_
    have hb2 : (h.set b (.cells ([nv, vint k, .int .u64 s].set 1 (vint (k + 1))) true 0))[b]? = some (.cells [nv, vint (k + 1), .int .u64 s] true 0) := set_twice hb
    rw [load_cell hb2 rfl rfl]
    refine u_mul fun y1 a1 b1 => u_xor fun y2 a2 b2 => u_shl (by omega) fun y3 a3 b3 => u_xor fun y4 a4 b4 => u_shr (by omega) a4 b4 fun y5 a5 b5 => u_xor fun y6 a6 b6 => u_shl (by omega) fun y7 a7 b7 => u_xor fun y8 a8 b8 => u_add fun y9 a9 b9 => ?_
    refine store_cell hb2 (by simp) rfl rfl ?_
    refine u_shr (by omega) a8 b8 fun z1 c1 d1 => u_xor fun z2 c2 d2 => u_mul fun z3 c3 d3 => u_shr (by omega) c3 d3 fun z4 c4 d4 => u_xor fun z5 c5 d5 => ?_
    rw [u_shr11 c5 d5]
    refine retL_same (by simp [unk]) ?_
    rw [List.set_set]
    exact hK _ _ (by omega) (by omega) a9 b9
  simp only [nil_ok, off_ok, Nat.zero_add, l0, l1]
  refine conv_u fun x0 _ _ => ?_
  simp only [sli_len hl, b_lss, cnd_dec]
  refine ⟨fun hlt => idx_load hl ⟨by omega, by omega⟩ (map_get (by simpa using hlt)) fun p => conv_u fun x1 _ _ => rest x1, fun _ => rest x0⟩
def Dealt (h : List AObj) (b : Nat) (nv : Value) (k n : Nat) (h' : List AObj) : Prop :=
  ∃ (k' : Nat) (s' : Int), k' ≤ k + n ∧ 0 ≤ s' ∧ s' < 18446744073709551616 ∧ h' = h.set b (.cells [nv, vint k', .int .u64 s'] true 0)
theorem good23 (hJ : Closed prog main J) {b : Nat} {nv : Value} {nums : List Int} {k : Nat} {s m : Int} (H : HandAt h b nv nums k s) (hm : m < 9223372036854775807)
    (hK : ∀ y h', 0 ≤ y → (y ≤ m ∨ y = 0) → Dealt h b nv k 1 h' → K (vint y) h') : Good prog J 23 [ptr b 0, vint m] h K := by
  refine g23 hJ fun ok => ?_
  rw [e23]
  simp only [b_leq, cnd_dec]
  refine ⟨fun h0 => retL_same (by simp [unk]) (hK 0 h (by omega) (.inr rfl) ⟨k, s, by omega, H.lo, H.hi, ?_⟩), fun h0 => ?_⟩
  · have hb : b < h.length := (List.getElem?_eq_some_iff.1 H.at_).1
    apply List.ext_getElem?
    intro i
    rw [List.getElem?_set]
    split
    · rename_i e
      subst e
      exact H.at_
    · rfl
  · refine good69 hJ H fun x s' hx hx2 hs hs2 => ?_
    rw [b_add (by omega)]
    have e1 : ∀ n : Int, 0 ≤ n → n < 9223372036854775808 → IntKind.u64.wrap n = n := fun n a b => by
      simp only [IntKind.wrap, IntKind.bits, IntKind.signed]
      simp
      omega
    have hmod : Int.tmod x (m + 1) = x % (m + 1) := Int.tmod_eq_emod_of_nonneg hx
    have h1 := Int.emod_nonneg x (b := m + 1) (by omega)
    have h2 := Int.emod_lt_of_pos x (b := m + 1) (by omega)
    simp only [aConvI, e1 (m + 1) (by omega) (by omega), aBin, aInt, true_and]
    rw [hmod, wrap64 (by omega) (by omega)]
    exact ⟨by omega, retL_same (by simp [unk]) (hK _ _ h1 (.inl (by omega)) ⟨k + 1, s', by omega, hs, hs2, rfl⟩)⟩
theorem good33 (hJ : Closed prog main J) {b : Nat} {nv : Value} {nums : List Int} {k : Nat} {s lo hi : Int} (H : HandAt h b nv nums k s) (h1 : -1000000000000 ≤ lo ∧ lo ≤ 1000000000000) (h2 : -1000000000000 ≤ hi ∧ hi ≤ 1000000000000)
    (hK : ∀ y h', lo ≤ y → (y ≤ hi ∨ y = lo) → Dealt h b nv k 1 h' → K (vint y) h') : Good prog J 33 [ptr b 0, vint lo, vint hi] h K := by
  refine g33 hJ fun ok => ?_
  rw [e33, b_sub (by omega)]
  refine good23 hJ H (by omega) fun y h' hy hy2 hd => ?_
  rw [b_add (by omega)]
  exact retL_same (by simp [unk]) (hK _ _ (by omega) (by omega) hd)
theorem good20 (hJ : Closed prog main J) {base : Option Addr} {n c : Nat}
    (hK : K (ptr h.length 0) (h ++ [.cells [.slice base n c, vint 0, .int .u64 88172645463325252] true 0])) : Good prog J 20 [.slice base n c] h K := by
  refine g20 hJ fun ok => ?_
  rw [e20]
  simp [aFill, aBox, wrAt, Value.cells, one]
  exact retL_same (vs := [ptr h.length 0]) (by simp [unk]) hK
theorem good22 (hJ : Closed prog main J) {b : Nat} {nv ov : Value} {nums others : List Int} {k : Nat} {s a : Int} (H : HandAt h b nv nums k s) (ho : ∀ h', Dealt h b nv k 1 h' → Sli h' ov 1 others.length (others.map vint)) (hl : others.length < 1000000)
    (hK : ∀ y h', (y = a ∨ y ∈ others) → Dealt h b nv k 1 h' → K (vint y) h') : Good prog J 22 [ptr b 0, vint a, ov] h K := by
  refine g22 hJ fun ok => ?_
  rw [e22]
  have hd0 : Dealt h b nv k 1 h := by
    refine ⟨k, s, by omega, H.lo, H.hi, ?_⟩
    apply List.ext_getElem?
    intro i
    rw [List.getElem?_set]
    split
    · rename_i e
      subst e
      have hb : b < h.length := (List.getElem?_eq_some_iff.1 H.at_).1
      rw [if_pos hb]
      exact H.at_
    · rfl
  rw [sli_len (ho h hd0)]
  refine good23 hJ H (by omega) fun y h' hy hy2 hd => ?_
  simp only [b_gtr, cnd_dec]
  refine ⟨fun hg => ?_, fun _ => retL_same (by simp [unk]) (hK _ _ (.inl rfl) hd)⟩
  rw [b_sub (by omega)]
  refine idx_load (ho h' hd) ⟨by omega, by omega⟩ (map_get (by omega)) fun p => ?_
  refine retL_same (by simp [unk]) (hK _ _ (.inr ?_) hd)
  have : (y - 1).toNat < others.length := by omega
  simp only [List.getD_eq_getElem?_getD, List.getElem?_eq_getElem this, Option.getD_some]
  exact List.getElem_mem this
end
end Go.Proofs.Ytindillghipjjaa
namespace Go.Proofs.Ytindillghipjjaa
open Go.Conc Go.Proofs.Try
section
variable {main : Bool} {J : JT} {h : List AObj} {K : Value → List AObj → Prop}
theorem good28 (hJ : Closed prog main J) {av bv : Value} {xs ys : List Int} (ha : Sli h av 1 xs.length (xs.map vint)) (hb : Sli h bv 1 ys.length (ys.map vint)) (hl : xs.length < 4611686018427387904)
    (hK : K (.bool (decide (xs = ys))) h) : Good prog J 28 [av, bv] h K := by
  refine g28 hJ fun ok => ?_
  rw [e28]
  simp only [sli_len ha, sli_len hb, b_neq, cnd_dec]
  refine ⟨fun hne => retL_same (by simp [unk]) ?_, fun heq => ?_⟩
  · have : xs ≠ ys := fun e => hne (by rw [e])
    simpa [pack, this] using hK
  · have hlen : xs.length = ys.length := by omega
    refine l28_1 hJ (fun i => xs.length - i) (fun i f h' => h' = h ∧ f.ds = [] ∧ f.r 0 = av ∧ f.r 1 = bv ∧ f.r 5 = vint (i : Nat) ∧ i ≤ xs.length ∧ xs.take i = ys.take i) ?_ (s := 0) (.inl ⟨rfl, rfl, rfl, rfl, rfl, by omega, by simp⟩)
    rintro i f h' ⟨rfl, hds, h0, h1, h5, hi, ht⟩ _ hn
    rw [s28_1]
    simp only [h0, h1, h5, hds, sli_len ha, b_lss, cnd_dec]
    refine ⟨fun hlt => ?_, fun hge => ?_⟩
    · have e1 : i < xs.length := by omega
      refine idx_load ha ⟨by omega, by omega⟩ (map_get (by omega)) fun p1 => ?_
      refine idx_load hb ⟨by omega, by omega⟩ (map_get (by omega)) fun p2 => ?_
      simp only [b_neq, cnd_dec, Int.toNat_natCast]
      refine ⟨fun hne => retL_same (by simp [unk]) ?_, fun heq => ?_⟩
      · have : xs ≠ ys := fun e => hne (by rw [e])
        simpa [pack, this] using hK
      · rw [b_add (by omega)]
        refine ⟨i + 1, by dsimp only; omega, .inl ⟨rfl, hds, h0, h1, rfl, by omega, ?_⟩⟩
        have heq : xs.getD i 0 = ys.getD i 0 := by simpa using heq
        simp only [List.getD_eq_getElem?_getD, List.getElem?_eq_getElem e1, List.getElem?_eq_getElem (show i < ys.length by omega), Option.getD_some] at heq
        rw [List.take_add_one, List.take_add_one, ht, List.getElem?_eq_getElem e1, List.getElem?_eq_getElem (show i < ys.length by omega), heq]
    · have : i = xs.length := by omega
      subst this
      rw [List.take_length, hlen, List.take_length] at ht
      refine retL_same (by simp [unk]) ?_
      simpa [pack, ht] using hK
theorem ints_ok (n : Nat) (xs : List Int) : LOk n (xs.map vint) := by
  rw [LOk_iff]
  intro v hv
  obtain ⟨x, _, rfl⟩ := List.mem_map.1 hv
  simp [VOk]
end
end Go.Proofs.Ytindillghipjjaa
namespace Go.Proofs.Ytindillghipjjaa
open Go.Conc Go.Proofs.Try
section
variable {main : Bool} {J : JT} {h : List AObj} {K : Value → List AObj → Prop}
def HF (h : List AObj) (nv : Value) (k : Nat) (s : Int) (rest : List AObj) : List AObj := h ++ (.cells [nv, vint k, .int .u64 s] true 0 :: rest)
theorem hf_len {h : List AObj} {nv : Value} {k : Nat} {s : Int} {rest : List AObj} : (HF h nv k s rest).length = h.length + 1 + rest.length := by
  simp [HF]; omega
theorem hf_app {h : List AObj} {nv : Value} {k : Nat} {s : Int} {rest g : List AObj} : HF h nv k s rest ++ g = HF h nv k s (rest ++ g) := by
  simp [HF]
theorem hf_hand {h : List AObj} {nv : Value} {ns : List Int} {k : Nat} {s : Int} {rest : List AObj} (sn : Sli h nv 1 ns.length (ns.map vint)) (hln : ns.length < 4611686018427387904) (hk : k < 1000000) (h0 : 0 ≤ s) (h1 : s < 18446744073709551616) :
    HandAt (HF h nv k s rest) h.length nv ns k s :=
  ⟨by simp [HF], sli_app sn, hln, by omega, h0, h1⟩
theorem hf_dealt {h h' : List AObj} {nv : Value} {k n : Nat} {s : Int} {rest : List AObj} (hd : Dealt (HF h nv k s rest) h.length nv k n h') : ∃ k' s', k' ≤ k + n ∧ 0 ≤ s' ∧ s' < 18446744073709551616 ∧ h' = HF h nv k' s' rest := by
  obtain ⟨k', s', a, b, c, rfl⟩ := hd
  refine ⟨k', s', a, b, c, ?_⟩
  simp [HF]
end
end Go.Proofs.Ytindillghipjjaa
namespace Go.Proofs.Ytindillghipjjaa
open Go.Conc Go.Proofs.Try
def SliE {α : Type} (h : List AObj) (v : Value) (s : Nat) (enc : α → List Value) (xs : List α) : Prop := Sli h v s xs.length (xs.flatMap enc)
theorem flat_take {α : Type} {enc : α → List Value} {s : Nat} (hen : ∀ x, (enc x).length = s) : ∀ (xs : List α) (i : Nat) (hi : i < xs.length), ((xs.flatMap enc).drop (i * s)).take s = enc xs[i]
  | [], i, hi => by simp at hi
  | x :: xs, 0, hi => by
    simp only [List.flatMap_cons, Nat.zero_mul, List.drop_zero, List.getElem_cons_zero]
    rw [List.take_append_of_le_length (by rw [hen]; exact Nat.le_refl _), List.take_of_length_le (by rw [hen]; exact Nat.le_refl _)]
  | x :: xs, i + 1, hi => by
    simp only [List.flatMap_cons, List.getElem_cons_succ]
    have : (i + 1) * s = (enc x).length + i * s := by rw [hen, Nat.succ_mul, Nat.add_comm]
    rw [this, ← List.drop_drop, List.drop_left]
    exact flat_take hen xs i (by simpa using hi)
section
variable {h g : List AObj} {K : Value → Prop}
theorem sliE_elem {α : Type} {v : Value} {s : Nat} {enc : α → List Value} {xs : List α} (hen : ∀ x, (enc x).length = s) (hpos : 0 < s) (hs : SliE h v s enc xs) {i : Nat} (hi : i < xs.length) :
    ∃ b o cs wr sz, (∀ K : Value → Prop, K (ptr b o) → aIdx s v (vint i) K) ∧ h[b]? = some (.cells cs wr sz) ∧ o + s ≤ cs.length ∧ (cs.drop o).take s = enc xs[i] ∧ kn (enc xs[i]) = true := by
  obtain ⟨base, c, rfl, ⟨hl, hkn⟩, hc⟩ := hs
  have hft := flat_take hen xs i hi
  have hmul : (i + 1) * s ≤ xs.length * s := Nat.mul_le_mul_right s (by omega)
  have hsucc : (i + 1) * s = i * s + s := Nat.succ_mul i s
  rcases hc with ⟨_, h0⟩ | ⟨b, o, rfl, h0 | ⟨cs, wr, sz, hb, hx⟩⟩
  · omega
  · omega
  · rw [← hx] at hl hft
    simp only [List.length_take, List.length_drop] at hl
    refine ⟨b, o + i * s, cs, wr, sz, fun K hK => ?_, hb, by omega, ?_, ?_⟩
    · rw [idx_ok]
      exact ⟨⟨by omega, by omega⟩, by simpa using hK⟩
    · rw [← hft, List.drop_take, List.drop_drop, List.take_take]
      congr 1
      omega
    · have : kn ((xs.flatMap enc).drop (i * s)) = true := by
        unfold kn at hkn ⊢
        rw [List.all_eq_true] at hkn ⊢
        exact fun y hy => hkn y (List.mem_of_mem_drop hy)
      rw [← flat_take hen xs i hi]
      unfold kn at this ⊢
      rw [List.all_eq_true] at this ⊢
      exact fun y hy => this y (List.mem_of_mem_take hy)
theorem part_get {cs e : List Value} {o s j : Nat} {x : Value} (ht : (cs.drop o).take s = e) (hx : e[j]? = some x) : cs[o + j]? = some x := by
  rw [← ht, List.getElem?_take] at hx
  split at hx
  · rw [List.getElem?_drop] at hx
    exact hx
  · cases hx
end
end Go.Proofs.Ytindillghipjjaa
namespace Go.Proofs.Ytindillghipjjaa
open Go.Conc Go.Proofs.Try
set_option maxRecDepth 100000
section
variable {main : Bool} {J : JT} {h A g : List AObj} {K : Value → List AObj → Prop} {KV : Value → Prop} {HL : List AObj → Prop} {H : Value → List AObj → Prop}
theorem a_min {a b : Int} : aMin (vint a) [vint b] KV = KV (vint (min a b)) := by
  show KV (vint (if b < a then b else a)) = _
  congr 2
  split <;> omega
theorem a_max {a b : Int} : aMax (vint a) [vint b] KV = KV (vint (max a b)) := by
  show KV (vint (if b > a then b else a)) = _
  congr 2
  split <;> omega
theorem back_get {i : Nat} : (A ++ g)[A.length + i]? = g[i]? := by
  rw [List.getElem?_append_right (by omega)]
  congr 1
  omega
theorem back_set {i : Nat} {o : AObj} : (A ++ g).set (A.length + i) o = A ++ g.set i o := by
  rw [List.set_append_right _ _ (by omega)]
  congr 2
  omega
def OwnE (n : Nat) (g : List AObj) (s : Nat) (cs : List Value) (len : Nat) (v : Value) (o : Option Nat) : Prop :=
  cs.length = len * s ∧ kn cs = true ∧ ((len = 0 ∧ v = .slice none 0 0 ∧ o = none) ∨ ∃ i c sz, o = some i ∧ v = .slice (some ⟨n + i, 0, none⟩) len c ∧ g[i]? = some (.cells cs true sz) ∧ ((c = fz ∧ sz = s) ∨ c = len))
theorem get_app {i : Nat} {x : AObj} {g' : List AObj} (hx : g[i]? = some x) : (g ++ g')[i]? = some x := by
  rw [List.getElem?_append_left (List.getElem?_eq_some_iff.1 hx).1]
  exact hx
theorem get_set {i j : Nat} {x y : AObj} (hx : g[i]? = some x) (hij : i ≠ j) : (g.set j y)[i]? = some x := by
  rw [List.getElem?_set, if_neg (fun e => hij e.symm)]
  exact hx
theorem ownE_at {n s len : Nat} {cs : List Value} {v : Value} {i : Nat} (ho : OwnE n g s cs len v (some i)) : ∃ sz, g[i]? = some (.cells cs true sz) := by
  obtain ⟨_, _, ⟨_, _, h⟩ | ⟨j, c, sz, h, _, h5, _⟩⟩ := ho
  · cases h
  · cases h
    exact ⟨sz, h5⟩
theorem ownE_lt {n s len : Nat} {cs : List Value} {v : Value} {o : Option Nat} (ho : OwnE n g s cs len v o) {i : Nat} (hi : o = some i) : i < g.length := by
  subst hi
  obtain ⟨sz, h⟩ := ownE_at ho
  exact (List.getElem?_eq_some_iff.1 h).1
theorem ownE_sli {s len : Nat} {cs : List Value} {v : Value} {o : Option Nat} (ho : OwnE A.length g s cs len v o) : Sli (A ++ g) v s len cs := by
  obtain ⟨h1, h2, ⟨rfl, rfl, _⟩ | ⟨i, c, sz, rfl, rfl, h5, _⟩⟩ := ho
  · have : cs = [] := List.length_eq_zero_iff.1 (by omega)
    subst this
    exact sli_nil
  · refine ⟨_, _, rfl, ⟨h1, h2⟩, .inr ⟨_, _, rfl, .inr ⟨cs, true, sz, ?_, by rw [List.drop_zero, List.take_of_length_le (by omega)]⟩⟩⟩
    rw [back_get]
    exact h5
theorem ownE_val {n s len : Nat} {cs : List Value} {v : Value} {o : Option Nat} (ho : OwnE n g s cs len v o) : v.cells = #[v] ∧ one v = true ∧ kn1 v = true := by
  obtain ⟨_, _, ⟨_, rfl, _⟩ | ⟨_, _, _, _, rfl, _⟩⟩ := ho <;> exact ⟨rfl, rfl, rfl⟩
theorem ownE_more {s len : Nat} {cs e : List Value} {v y : Value} {o : Option Nat} (ho : OwnE A.length g s cs len v o) (hs : 0 < s) (hl : len < 100000) (hy : Sli (A ++ g) y s 1 e)
    (hk : ∀ v' g', OwnE A.length g' s (cs ++ e) (len + 1) v' (some g.length) → (∀ i x, o ≠ some i → g[i]? = some x → g'[i]? = some x) → H v' (A ++ g')) : aApp s v y (A ++ g) H := by
  have hr : room = 1073741824 := rfl
  have hel : e.length = s := by
    have := sli_vlen hy
    omega
  have hek : kn e = true := by
    obtain ⟨_, _, _, ⟨_, h⟩, _⟩ := hy
    exact h
  have new : ∀ g1 : List AObj, g1.length = g.length → (∀ i x, o ≠ some i → g[i]? = some x → g1[i]? = some x) → cs.length = len * s → kn cs = true → H (.slice (some ⟨(A ++ g).length, 0, none⟩) (len + 1) fz) (A ++ (g1 ++ [.cells (cs ++ e) true s])) := by
    intro g1 hg1 hkeep h1 h2
    refine hk _ _ ⟨?_, ?_, .inr ⟨g.length, fz, s, rfl, by simp, by simp [← hg1], .inl ⟨rfl, rfl⟩⟩⟩ fun j x hj hx => get_app (hkeep j x hj hx)
    · rw [List.length_append, hel, h1, Nat.succ_mul]
    · unfold kn at *
      rw [List.all_append, h2, hek]
      rfl
  obtain ⟨h1, h2, ⟨rfl, rfl, rfl⟩ | ⟨i, c, sz, rfl, rfl, h5, h6⟩⟩ := ho
  · have hcs : cs = [] := List.length_eq_zero_iff.1 (by omega)
    subst hcs
    refine app_nil hs hy (by omega) (fun e => absurd e (by omega)) fun _ => ?_
    rw [List.append_assoc]
    exact new g rfl (fun _ _ _ hx => hx) h1 h2
  · have hlt := (List.getElem?_eq_some_iff.1 h5).1
    have ht : cs.take (len * s) = cs := List.take_of_length_le (by omega)
    rcases h6 with ⟨rfl, rfl⟩ | rfl
    · refine app_own (cs := cs) (by rw [back_get]; exact h5) (by omega) (by rw [ht]; exact h2) hs hy (by omega) ?_
      rw [back_set, List.append_assoc, ht]
      exact new _ (by simp) (fun j x hj hx => get_set hx fun e => hj (by rw [e])) h1 h2
    · refine app_copy (cs := cs) (by rw [back_get]; exact h5) (by omega) (by rw [List.drop_zero, ht]; exact h2) (by omega) hs hy (by omega) ?_
      rw [List.append_assoc, List.drop_zero, ht]
      exact new g rfl (fun _ _ _ hx => hx) h1 h2
theorem hfa {nv : Value} {k : Nat} {s : Int} {rest : List AObj} (hs : 0 ≤ s ∧ s < 18446744073709551616) (hk : k < 1000000) {ns : List Int} (sn : Sli h nv 1 ns.length (ns.map vint)) (hln : ns.length < 4611686018427387904) : HandAt (HF h nv k s rest ++ g) h.length nv ns k s := by
  rw [hf_app]
  exact hf_hand sn hln hk hs.1 hs.2
theorem hfd {nv : Value} {k n : Nat} {s : Int} {rest h' : List AObj} (hd : Dealt (HF h nv k s rest ++ g) h.length nv k n h') : ∃ k' s', k' ≤ k + n ∧ (0 ≤ s' ∧ s' < 18446744073709551616) ∧ h' = HF h nv k' s' rest ++ g := by
  rw [hf_app] at hd
  obtain ⟨k', s', a, b, c, rfl⟩ := hf_dealt hd
  exact ⟨k', s', a, ⟨b, c⟩, by rw [hf_app]⟩
structure Hnd (h : List AObj) (nv : Value) (ns : List Int) : Prop where
  list : Sli h nv 1 ns.length (ns.map vint)
  sane : ns.length < 4611686018427387904
variable {nv : Value} {ns : List Int} {rest : List AObj} {k : Nat} {s : Int}
section
variable {KV : Value → Prop} {a b : Int} {t : TypeId} {h : List AObj}
theorem offI {b o d : Nat} (hk : KV (ptr b (o + d))) : aOff (ptr b o) d KV := hk
theorem fillI {c : List Value} {KL : List Value → Prop} (hk : KL c) : aFill c [] KL := hk
theorem nilI {b o : Nat} (hk : KV (ptr b o)) : aNil (ptr b o) KV := hk
theorem addI (h : -9223372036854775808 ≤ a + b ∧ a + b < 9223372036854775808) (hk : KV (vint (a + b))) : aBin prog .add t (vint a) (vint b) KV := by rw [b_add h]; exact hk
theorem subI (h : -9223372036854775808 ≤ a - b ∧ a - b < 9223372036854775808) (hk : KV (vint (a - b))) : aBin prog .sub t (vint a) (vint b) KV := by rw [b_sub h]; exact hk
theorem minI (hk : KV (vint (min a b))) : aMin (vint a) [vint b] KV := by rw [a_min]; exact hk
theorem maxI (hk : KV (vint (max a b))) : aMax (vint a) [vint b] KV := by rw [a_max]; exact hk
theorem lssI (hk : KV (.bool (decide (a < b)))) : aBin prog .lss t (vint a) (vint b) KV := by rw [b_lss]; exact hk
theorem gtrI (hk : KV (.bool (decide (a > b)))) : aBin prog .gtr t (vint a) (vint b) KV := by rw [b_gtr]; exact hk
theorem geqI (hk : KV (.bool (decide (a ≥ b)))) : aBin prog .geq t (vint a) (vint b) KV := by rw [b_geq]; exact hk
theorem leqI (hk : KV (.bool (decide (a ≤ b)))) : aBin prog .leq t (vint a) (vint b) KV := by rw [b_leq]; exact hk
theorem eqlI (hk : KV (.bool (decide (a = b)))) : aBin prog .eql t (vint a) (vint b) KV := by rw [b_eql]; exact hk
theorem neqI (hk : KV (.bool (decide (a ≠ b)))) : aBin prog .neq t (vint a) (vint b) KV := by rw [b_neq]; exact hk
theorem notI {x : Bool} (hk : KV (.bool (!x))) : aUn .not (.bool x) KV := hk
theorem cndI {p : Prop} [Decidable p] {A B : Prop} (h1 : p → A) (h2 : ¬ p → B) : cnd (.bool (decide p)) A B := cnd_dec.2 ⟨h1, h2⟩
theorem cndN {p : Prop} [Decidable p] {A B : Prop} (h1 : ¬ p → A) (h2 : p → B) : cnd (.bool (!decide p)) A B := cnd_ndec.2 ⟨h1, h2⟩
theorem lenI {v : Value} {s n : Nat} {cells : List Value} (hs : Sli h v s n cells) (hk : KV (vint n)) : aLenS v KV := by rw [sli_len hs]; exact hk
theorem ldI {b o s : Nat} {c : List Value} {wr : Bool} {sz : Nat} {v : Value} (hb : h[b]? = some (.cells c wr sz)) (hv : c[o]? = some v) (hn : kn1 v = true) (hk : KV v) : aLoad false s (ptr b o) h KV := by rw [load_cell hb hv hn]; exact hk
theorem idxI {s b o n c : Nat} {j : Int} (h1 : 0 ≤ j ∧ j < n) (hk : KV (ptr b (o + j.toNat * s))) : aIdx s (.slice (some ⟨b, o, none⟩) n c) (vint j) KV := by rw [idx_ok]; exact ⟨h1, hk⟩
theorem ext0 {a b : Value} (hk : KV a) : aExt (.tuple ⟨[a, b]⟩) 0 KV := hk
theorem ext1 {a b : Value} (hk : KV b) : aExt (.tuple ⟨[a, b]⟩) 1 KV := hk
end
theorem up (hJ : Closed prog main J) (hn : Hnd h nv ns) (hs : 0 ≤ s ∧ s < 18446744073709551616) (hk : k < 1000000) {m : Int} (hm : m < 1000000)
    (hK : ∀ y k' s', 0 ≤ y → (y ≤ m ∨ y = 0) → k' ≤ k + 1 → (0 ≤ s' ∧ s' < 18446744073709551616) → K (vint y) (HF h nv k' s' rest ++ g)) : Good prog J 23 [ptr h.length 0, vint m] (HF h nv k s rest ++ g) K := by
  refine good23 hJ (hfa hs hk hn.list hn.sane) (by omega) fun y h1 a b hd => ?_
  obtain ⟨k', s', c, d, rfl⟩ := hfd hd
  exact hK y k' s' a b c d
theorem amo (hJ : Closed prog main J) (hn : Hnd h nv ns) (hs : 0 ≤ s ∧ s < 18446744073709551616) (hk : k < 1000000) {lo hi : Int} (h1 : -1000000 ≤ lo ∧ lo ≤ 1000000) (h2 : -1000000 ≤ hi ∧ hi ≤ 1000000)
    (hK : ∀ y k' s', lo ≤ y → (y ≤ hi ∨ y = lo) → k' ≤ k + 1 → (0 ≤ s' ∧ s' < 18446744073709551616) → K (vint y) (HF h nv k' s' rest ++ g)) : Good prog J 33 [ptr h.length 0, vint lo, vint hi] (HF h nv k s rest ++ g) K := by
  refine good33 hJ (hfa hs hk hn.list hn.sane) (by omega) (by omega) fun y h1 a b hd => ?_
  obtain ⟨k', s', c, d, rfl⟩ := hfd hd
  exact hK y k' s' a b c d
end
end Go.Proofs.Ytindillghipjjaa
namespace Go.Proofs.Ytindillghipjjaa
open Go.Conc Go.Proofs.Try
set_option maxRecDepth 100000
def SameX (X : List Nat) (h H : List AObj) : Prop := h.length ≤ H.length ∧ ∀ i, i < h.length → i ∉ X → H[i]? = h[i]?
theorem SameX.refl {X : List Nat} {h : List AObj} : SameX X h h := ⟨Nat.le_refl _, fun _ _ _ => rfl⟩
theorem SameX.trans {X : List Nat} {h H H' : List AObj} (a : SameX X h H) (b : SameX X H H') : SameX X h H' :=
  ⟨Nat.le_trans a.1 b.1, fun i hi hx => by rw [b.2 i (Nat.lt_of_lt_of_le hi a.1) hx, a.2 i hi hx]⟩
theorem SameX.app {X : List Nat} {h H g : List AObj} (a : SameX X h H) : SameX X h (H ++ g) :=
  ⟨by have := a.1; simp; omega, fun i hi hx => by rw [List.getElem?_append_left (Nat.lt_of_lt_of_le hi a.1), a.2 i hi hx]⟩
theorem SameX.set {X : List Nat} {h H : List AObj} {i : Nat} {o : AObj} (a : SameX X h H) (hi : i ∈ X ∨ h.length ≤ i) : SameX X h (H.set i o) :=
  ⟨by have := a.1; simp; omega, fun j hj hx => by
    rw [List.getElem?_set, if_neg, a.2 j hj hx]
    rintro rfl
    rcases hi with hi | hi
    · exact hx hi
    · omega⟩
theorem SameX.get {X : List Nat} {h H : List AObj} {i : Nat} {o : AObj} (a : SameX X h H) (hx : h[i]? = some o) (hi : i ∉ X) : H[i]? = some o := by
  rw [a.2 i (List.getElem?_eq_some_iff.1 hx).1 hi, hx]
theorem SameX.pre {X : List Nat} {h0 g H : List AObj} (a : SameX X (h0 ++ g) H) (hX : ∀ x ∈ X, h0.length ≤ x) : ∃ g', H = h0 ++ g' := by
  refine ⟨H.drop h0.length, ?_⟩
  have : H.take h0.length = h0 := by
    apply List.ext_getElem?
    intro i
    rw [List.getElem?_take]
    split
    · rename_i hi
      rw [a.2 i (by simp; omega) (fun hx => by have := hX i hx; omega), List.getElem?_append_left hi]
    · rename_i hi
      rw [List.getElem?_eq_none (by omega)]
  conv => lhs; rw [← List.take_append_drop h0.length H, this]
end Go.Proofs.Ytindillghipjjaa
namespace Go.Proofs.Ytindillghipjjaa
open Go.Conc Go.Proofs.Try
set_option maxRecDepth 100000
def OwnX (H : List AObj) (s : Nat) (cs : List Value) (len : Nat) (v : Value) (o : Option Nat) : Prop :=
  cs.length = len * s ∧ kn cs = true ∧ ((len = 0 ∧ v = .slice none 0 0 ∧ o = none) ∨ ∃ i c sz, o = some i ∧ v = .slice (some ⟨i, 0, none⟩) len c ∧ H[i]? = some (.cells cs true sz) ∧ ((c = fz ∧ sz = s) ∨ c = len))
section
variable {h H : List AObj} {K : Value → List AObj → Prop} {KV : Value → Prop} {HL : List AObj → Prop} {n0 : Nat}
theorem SameX.weak {X Y : List Nat} {h H : List AObj} (a : SameX X h H) (hxy : ∀ x ∈ X, x ∈ Y) : SameX Y h H := ⟨a.1, fun i hi hx => a.2 i hi fun hm => hx (hxy i hm)⟩
theorem SameX.weak0 {Y : List Nat} {h H : List AObj} (a : SameX [] h H) : SameX Y h H := a.weak (by simp)
theorem SameX.thru {X Y : List Nat} {h H H' : List AObj} (a : SameX X h H) (b : SameX Y H H') (hy : ∀ y ∈ Y, y ∈ X ∨ h.length ≤ y) : SameX X h H' :=
  ⟨Nat.le_trans a.1 b.1, fun i hi hx => by
    rw [b.2 i (Nat.lt_of_lt_of_le hi a.1) fun hm => ?_, a.2 i hi hx]
    rcases hy i hm with h1 | h1
    · exact hx h1
    · omega⟩
theorem SameX.app0 {X : List Nat} {h H : List AObj} (a : SameX X h H) (hX : ∀ x ∈ X, h.length ≤ x) : ∃ g, H = h ++ g := by
  have := SameX.pre (h0 := h) (g := []) (X := X) (H := H) (by simpa using a) hX
  exact this
theorem lt_of_get {i : Nat} {o : AObj} (hx : H[i]? = some o) : i < H.length := (List.getElem?_eq_some_iff.1 hx).1
theorem SameX.sli {X : List Nat} {v : Value} {s n : Nat} {cs : List Value} (a : SameX X h H) (hs : Sli h v s n cs) (hX : ∀ x ∈ X, h.length ≤ x) : Sli H v s n cs := by
  obtain ⟨g, rfl⟩ := a.app0 hX
  exact sli_app hs
theorem qAl {l : List Value} (hk : ∀ H' p, p = H.length → SameX [] H H' → H'[p]? = some (.cells l true 0) → H'.length = p + 1 → K (ptr p 0) H') : aAlloc l H K :=
  hk _ _ rfl SameX.refl.app (by simp) (by simp)
theorem qBox {l : List Value} (h1 : l.all one = true) (hk : ∀ H' p, p = H.length → SameX [] H H' → H'[p]? = some (.cells l true 0) → H'.length = p + 1 → K (ptr p 0) H') : aBox (.agg ⟨l⟩) H K :=
  box_agg h1 (hk _ _ rfl SameX.refl.app (by simp) (by simp))
theorem qBox1 {v : Value} (hc : v.cells = #[v]) (h1 : one v = true) (hk : ∀ H' p, p = H.length → SameX [] H H' → H'[p]? = some (.cells [v] true 0) → H'.length = p + 1 → K (ptr p 0) H') : aBox v H K :=
  box_one hc h1 (hk _ _ rfl SameX.refl.app (by simp) (by simp))
theorem qNew {n : Nat} {l : List Value} (hk : ∀ H' p, p = H.length → SameX [] H H' → H'[p]? = some (.cells l true 0) → H'.length = p + 1 → K (.slice (some ⟨p, 0, none⟩) n n) H') : aNewS n l H K :=
  hk _ _ rfl SameX.refl.app (by simp) (by simp)
theorem qSt {b o : Nat} {c : List Value} {sz : Nat} {v : Value} (hb : H[b]? = some (.cells c true sz)) (ho : o < c.length) (h1 : v.cells = #[v]) (h2 : one v = true) (hk : ∀ H', SameX [b] H H' → H'[b]? = some (.cells (c.set o v) true sz) → H'.length = H.length → HL H') : aStore 1 (ptr b o) v H HL :=
  store_cell hb ho h1 h2 (hk _ (SameX.refl.set (.inl (by simp))) (List.getElem?_set_self (lt_of_get hb)) (by simp))
theorem qStA {b n : Nat} {cs c : List Value} {sz : Nat} (hb : H[b]? = some (.cells cs true sz)) (hl : c.length = n) (hs : cs.length = n) (h1 : c.all one = true) (hk : ∀ H', SameX [b] H H' → H'[b]? = some (.cells c true sz) → H'.length = H.length → HL H') : aStore n (ptr b 0) (.agg ⟨c⟩) H HL :=
  store_agg hb hl hs h1 (hk _ (SameX.refl.set (.inl (by simp))) (List.getElem?_set_self (lt_of_get hb)) (by simp))
theorem ownX_iff {s len : Nat} {cs : List Value} {v : Value} {o : Option Nat} : OwnX H s cs len v o ↔ OwnE 0 H s cs len v o := by
  simp [OwnX, OwnE]
theorem ownX_keep {s len : Nat} {cs : List Value} {v : Value} {o : Option Nat} {H' : List AObj} {X : List Nat} (ho : OwnX H s cs len v o) (a : SameX X H H') (hX : ∀ i, o = some i → i ∉ X) : OwnX H' s cs len v o := by
  obtain ⟨h1, h2, h3 | ⟨i, c, sz, rfl, h4, h5, h6⟩⟩ := ho
  · exact ⟨h1, h2, .inl h3⟩
  · exact ⟨h1, h2, .inr ⟨i, c, sz, rfl, h4, a.get h5 (hX i rfl), h6⟩⟩
theorem ownX_sli {s len : Nat} {cs : List Value} {v : Value} {o : Option Nat} (ho : OwnX H s cs len v o) : Sli H v s len cs := by
  have := ownE_sli (A := []) (ownX_iff.1 ho)
  exact this
theorem ownX_val {s len : Nat} {cs : List Value} {v : Value} {o : Option Nat} (ho : OwnX H s cs len v o) : v.cells = #[v] ∧ one v = true ∧ kn1 v = true := ownE_val (ownX_iff.1 ho)
theorem ownX_lt {s len : Nat} {cs : List Value} {v : Value} {o : Option Nat} (ho : OwnX H s cs len v o) : ∀ i, o = some i → i < H.length := fun _ hi => ownE_lt (ownX_iff.1 ho) hi
theorem ownX_new {s n p : Nat} {l : List Value} (hp : H[p]? = some (.cells l true 0)) (hl : l.length = n * s) (hk : kn l = true) : OwnX H s l n (.slice (some ⟨p, 0, none⟩) n n) (some p) :=
  ⟨hl, hk, .inr ⟨p, n, 0, rfl, rfl, hp, .inr rfl⟩⟩
theorem ownX_more {s len : Nat} {cs e : List Value} {v y : Value} {o : Option Nat} (ho : OwnX H s cs len v o) (hs : 0 < s) (hl : len < 100000) (hy : Sli H y s 1 e)
    (hk : ∀ v' H' p, p = H.length → OwnX H' s (cs ++ e) (len + 1) v' (some p) → SameX o.toList H H' → K v' H') : aApp s v y H K := by
  have hlo := ownX_lt ho
  refine ownE_more (A := []) (g := H) (ownX_iff.1 ho) hs hl hy fun v' g' ho' hkeep => hk v' ([] ++ g') _ rfl (ownX_iff.2 ho') ⟨?_, fun i hi hx => ?_⟩
  · have := ownE_lt ho' rfl
    simp only [List.nil_append]
    omega
  · have hx' : o ≠ some i := fun e => hx (by rw [e]; simp)
    obtain ⟨x, hxx⟩ : ∃ x, H[i]? = some x := ⟨H[i], List.getElem?_eq_getElem hi⟩
    rw [hxx]
    exact hkeep i x hx' hxx
theorem retX {X : List Nat} {vs : List Value} (ok : heapOk h) (hn : n0 ≤ h.length) (S : SameX X h H) (hX : ∀ x ∈ X, h.length ≤ x) (hv : ∀ v ∈ vs, v ≠ unk) (hw : VOk h.length (pack vs)) (hk : K (pack vs) h) : retL n0 K [] vs H := by
  obtain ⟨g, rfl⟩ := S.app0 hX
  exact retL_drop ok hn hv hw hk
end
end Go.Proofs.Ytindillghipjjaa
namespace Go.Proofs.Ytindillghipjjaa
open Go.Conc Go.Proofs.Try
set_option maxRecDepth 100000
def HX (h H : List AObj) (ns : List Int) (k : Nat) : Prop := ∃ nv k' s rest, H = HF h nv k' s rest ∧ k' ≤ k ∧ (0 ≤ s ∧ s < 18446744073709551616) ∧ Hnd h nv ns
section
variable {main : Bool} {J : JT} {h H : List AObj} {K : Value → List AObj → Prop} {ns : List Int} {k : Nat}
theorem HX.mono {k' : Nat} (a : HX h H ns k) (hk : k ≤ k') : HX h H ns k' := by
  obtain ⟨nv, k1, s, rest, e, h1, h2, h3⟩ := a
  exact ⟨nv, k1, s, rest, e, by omega, h2, h3⟩
theorem HX.pre (a : HX h H ns k) : SameX [] h H := by
  obtain ⟨nv, k1, s, rest, rfl, _⟩ := a
  exact SameX.refl.app
theorem HX.same {X : List Nat} {H' : List AObj} (a : HX h H ns k) (S : SameX X H H') (hX : ∀ x ∈ X, h.length < x) : HX h H' ns k := by
  obtain ⟨nv, k1, s, rest, rfl, h1, h2, h3⟩ := a
  have e : HF h nv k1 s rest = (h ++ [.cells [nv, vint k1, .int .u64 s] true 0]) ++ rest := by simp [HF]
  rw [e] at S
  obtain ⟨g, hg⟩ := S.pre (fun x hx => by have := hX x hx; simp; omega)
  exact ⟨nv, k1, s, g, by rw [hg]; simp [HF], h1, h2, h3⟩
theorem hf_same {nv : Value} {k1 k2 : Nat} {s1 s2 : Int} {rest g : List AObj} : SameX [h.length] (HF h nv k1 s1 rest) (HF h nv k2 s2 rest ++ g) := by
  refine ⟨by rw [hf_app, hf_len, hf_len]; simp, fun i hi hx => ?_⟩
  simp at hx
  rw [List.getElem?_append_left (by rw [hf_len] at hi ⊢; omega)]
  unfold HF
  rcases Nat.lt_or_ge i h.length with x | x
  · rw [List.getElem?_append_left x, List.getElem?_append_left x]
  · rw [List.getElem?_append_right x, List.getElem?_append_right x]
    obtain ⟨j, hj⟩ : ∃ j, i - h.length = j + 1 := ⟨i - h.length - 1, by omega⟩
    rw [hj]
    rfl
theorem newX (hJ : Closed prog main J) {nv : Value} (sn : Sli h nv 1 ns.length (ns.map vint)) (hln : ns.length < 4611686018427387904)
    (hK : ∀ H, HX h H ns 0 → K (ptr h.length 0) H) : Good prog J 20 [nv] h K := by
  obtain ⟨nb, nc, hnv, _⟩ := id sn
  subst hnv
  exact good20 hJ (hK _ ⟨_, 0, 88172645463325252, [], rfl, Nat.le_refl _, by omega, ⟨sn, hln⟩⟩)
theorem upX (hJ : Closed prog main J) (a : HX h H ns k) (hk : k < 1000000) {m : Int} (hm : m < 1000000)
    (hK : ∀ y H', 0 ≤ y → (y ≤ m ∨ y = 0) → SameX [h.length] H H' → H'.length = H.length → HX h H' ns (k + 1) → K (vint y) H') : Good prog J 23 [ptr h.length 0, vint m] H K := by
  obtain ⟨nv, k1, s, rest, rfl, h1, h2, h3⟩ := a
  have := up (k := k1) (g := []) (rest := rest) (K := K) hJ h3 h2 (by omega) hm fun y k' s' a1 a2 a3 a4 => hK y _ a1 a2 hf_same (by simp [hf_len]) ⟨nv, k', s', rest, by simp, by omega, a4, h3⟩
  simpa using this
theorem amX (hJ : Closed prog main J) (a : HX h H ns k) (hk : k < 1000000) {lo hi : Int} (h1 : -1000000 ≤ lo ∧ lo ≤ 1000000) (h2 : -1000000 ≤ hi ∧ hi ≤ 1000000)
    (hK : ∀ y H', lo ≤ y → (y ≤ hi ∨ y = lo) → SameX [h.length] H H' → H'.length = H.length → HX h H' ns (k + 1) → K (vint y) H') : Good prog J 33 [ptr h.length 0, vint lo, vint hi] H K := by
  obtain ⟨nv, k1, s, rest, rfl, b1, b2, b3⟩ := a
  have := amo (k := k1) (g := []) (rest := rest) (K := K) hJ b3 b2 (by omega) h1 h2 fun y k' s' a1 a2 a3 a4 => hK y _ a1 a2 hf_same (by simp [hf_len]) ⟨nv, k', s', rest, by simp, by omega, a4, b3⟩
  simpa using this
end
end Go.Proofs.Ytindillghipjjaa
namespace Go.Proofs.Ytindillghipjjaa
open Go.Conc Go.Proofs.Try
set_option maxRecDepth 100000
section
variable {main : Bool} {J : JT} {h H : List AObj} {K : Value → List AObj → Prop} {KV : Value → Prop} {n0 : Nat}
theorem appX {s m p : Nat} {y : Value} {ys : List Value} (hp : H[p]? = some (.cells [] true 0)) (hs : 0 < s) (hm : m < 1000000) (hy : Sli H y s m ys)
    (hk : ∀ v' H' p', OwnX H' s ys m v' (some p') → SameX [] H H' → (p' = p ∨ p' = H.length) → K v' H') : aApp s (.slice (some ⟨p, 0, none⟩) 0 0) y H K := by
  have hr : room = 1073741824 := rfl
  have hy' := hy
  have hkn : kn ys = true := by
    obtain ⟨_, _, _, ⟨_, h⟩, _⟩ := hy
    exact h
  have hvl := sli_vlen hy
  by_cases h0 : m = 0
  · subst h0
    have hys : ys = [] := List.length_eq_zero_iff.1 (by omega)
    subst hys
    obtain ⟨yb, yc, rfl, _⟩ := hy
    refine ⟨by omega, src_sli hy' hs ?_⟩
    simp only [hp]
    have hf : fz = 1180591620717411303424 := rfl
    refine ⟨⟨by simp, by simp [kn]⟩, fun _ => ⟨fun _ => ⟨trivial, by simp, ?_⟩, fun x => absurd x (by simp)⟩, fun x => absurd x (by omega)⟩
    have e : H.set p (.cells (wrAt [] (0 + 0 * s) []) true 0) = H := by
      apply List.ext_getElem?
      intro i
      rw [List.getElem?_set]
      split
      · rename_i e
        subst e
        have := lt_of_get hp
        rw [if_pos this]
        simpa [wrAt] using hp.symm
      · rfl
    have := hk (.slice (some ⟨p, 0, none⟩) 0 0) H p ⟨by simp, rfl, .inr ⟨p, 0, 0, rfl, rfl, hp, .inr rfl⟩⟩ SameX.refl (.inl rfl)
    first
    | simpa [wrAt, e] using this
    | (rw [show (wrAt ([] : List Value) (0 + 0 * s) []) = [] from by simp [wrAt]] at e; simpa [wrAt, e] using this)
  · refine app_copy (n := 0) (m := m) (cs := []) (wr := true) (sz := 0) hp (by simp) (by simp [kn]) (by omega) hs hy' (by omega) ?_
    simp only [Nat.zero_mul, List.drop_nil, List.take_nil, List.nil_append, Nat.zero_add]
    exact hk _ _ H.length ⟨hvl, hkn, .inr ⟨H.length, fz, s, rfl, rfl, by simp, .inl ⟨rfl, rfl⟩⟩⟩ SameX.refl.app (.inr rfl)
end
end Go.Proofs.Ytindillghipjjaa
namespace Go.Proofs.Ytindillghipjjaa
open Go.Conc Go.Proofs.Try
set_option maxRecDepth 100000
section
variable {main : Bool} {J : JT} {h H : List AObj} {K : Value → List AObj → Prop} {KV : Value → Prop} {HL : List AObj → Prop} {n0 : Nat}
theorem knV (l : List Int) : kn (l.map vint) = true := by
  simp [kn, kn1]
theorem sliN {v : Value} {xs : List Int} (hs : Sli h v 1 xs.length (xs.map vint)) {i : Nat} {x : Int} (hx : xs[i]? = some x) {K2 : Value → Value → Prop} (hK : ∀ p, K2 p (vint x)) : aIdx 1 v (vint (i : Nat)) fun p => aLoad false 1 p h (K2 p) := by
  have hi := (List.getElem?_eq_some_iff.1 hx).1
  exact idx_load hs ⟨by omega, by omega⟩ (by rw [Int.toNat_natCast, List.getElem?_map, hx]; rfl) hK
theorem fillO {m : List Value} {o s : Nat} {v : Value} {l : List Value} {ps : List (Nat × Nat × Value)} {KL : List Value → Prop} (hv : v.cells.toList = l) (hs : l.length = s) (ho : l.all one = true) (hl : o + s ≤ m.length) (hk : aFill (wrAt m o l) ps KL) : aFill m ((o, s, v) :: ps) KL := by
  subst hv
  exact ⟨hs, ho, hl, hk⟩
theorem retQs {n0 : Nat} {rs : List ResultVar} {f : RG} (ds : f.ds = []) (hr : resW prog rs f.r h fun vs => K (pack vs) h) : RetQ prog rs n0 K .ret f h := by
  unfold RetQ
  rw [ds]
  exact resW_imp rs hr fun vs hk => .inl hk
theorem nu2 {a b : Value} (ha : a ≠ unk) (hb : b ≠ unk) : ∀ v ∈ [a, b], v ≠ unk := by
  intro v hv
  simp only [List.mem_cons, List.not_mem_nil, or_false] at hv
  rcases hv with rfl | rfl <;> assumption
theorem cndB {b : Bool} {A B : Prop} (h1 : b = true → A) (h2 : b = false → B) : cnd (.bool b) A B := by
  cases b
  · exact cnd_false.2 (h2 rfl)
  · exact cnd_true.2 (h1 rfl)
theorem callCz {g : FuncId} {args cap : List Value} (hg : Nat.blt g prog.funcs.size = true) (hk : Good prog J g (args ++ cap) H K) : callV prog (Good prog J) (.func (.func g) ⟨[]⟩ ⟨cap⟩) args H K := by
  show (bif Nat.blt g prog.funcs.size then Good prog J g ([] ++ args ++ cap) H K else False)
  rw [hg, cond_true, List.nil_append]
  exact hk
theorem retLdef {n0 n : Nat} {vs : List Value} (hd : h[n]? = some .deferred) (hv : ∀ v ∈ vs, v ≠ unk) (hk : K (pack vs) (h.set n .dead)) : retL n0 K [n] vs h := by
  have := retL_same (n0 := n0) (H := K) hv hk
  unfold retL at *
  exact ⟨hd, this⟩
theorem appIn {b k m : Nat} {cs : List Value} {v y : Value} (hb : H[b]? = some (.cells cs true 0)) (hl : cs.length = m) (hk : k < m) (hm : m < 1000) (hc : kn (cs.take k) = true) (hy : Sli H y 1 1 [v])
    (hK : ∀ H', SameX [b] H H' → H'[b]? = some (.cells (cs.set k v) true 0) → H'.length = H.length → K (.slice (some ⟨b, 0, none⟩) (k + 1) m) H') : aApp 1 (.slice (some ⟨b, 0, none⟩) k m) y H K := by
  have hfz : (1000 : Nat) < fz := by decide
  have hrm : (2000 : Nat) < room := by decide
  obtain ⟨yb, yc, rfl, hyk, hh⟩ := id hy
  refine ⟨by omega, src_sli hy (by omega) ?_⟩
  simp only [hb]
  refine ⟨⟨by omega, by simpa using hc⟩, fun _ => ⟨fun _ => ⟨trivial, by omega, ?_⟩, fun h => absurd h (by omega)⟩, fun h => absurd h (by omega)⟩
  have e : wrAt cs (0 + k * 1) [v] = cs.set k v := by simp [wrAt]
  rw [e]
  exact hK _ (SameX.refl.set (.inl (by simp))) (List.getElem?_set_self (lt_of_get hb)) (by simp)
theorem sbOne {X : List Nat} {p : Nat} {H H' : List AObj} (S : SameX X H H') (hp : p < H.length) (hX : p ∉ X) : SameB (some [p]) H H' := fun b hb => by
  simp at hb
  subst hb
  exact S.2 _ hp hX
theorem sbTwo {X : List Nat} {p q : Nat} {H H' : List AObj} (S : SameX X H H') (hp : p < H.length) (hq : q < H.length) (hX : p ∉ X) (hY : q ∉ X) : SameB (some [p, q]) H H' := fun b hb => by
  simp at hb
  rcases hb with rfl | rfl
  · exact S.2 _ hp hX
  · exact S.2 _ hq hY
theorem endQexit {n id : Nat} {f : RG} {Q : QT} {v : Value} {st : LoopState} {fn : FuncId} {r : Nat → Value} {size : Nat} {params : Array Tmp} {assign body : Code} {dfr : Nat} (hl : h[n + 1]? = some (.loop st (some (.exit id)) fn r size params assign body dfr)) (hs : st ≠ .busy) (hq : Q (.exit id) ⟨f.r, n :: f.ds⟩ (h.set (n + 1) .dead)) : endQ n f Q v h :=
  ⟨st, some (.exit id), _, _, _, _, _, _, _, hl, hs, hq⟩
theorem endQnorm {n : Nat} {f : RG} {Q : QT} {v : Value} {st : LoopState} {fn : FuncId} {r : Nat → Value} {size : Nat} {params : Array Tmp} {assign body : Code} {dfr : Nat} (hl : h[n + 1]? = some (.loop st none fn r size params assign body dfr)) (hs : st ≠ .busy) (hq : Q .normal ⟨f.r, n :: f.ds⟩ (h.set (n + 1) .dead)) : endQ n f Q v h :=
  ⟨st, none, _, _, _, _, _, _, _, hl, hs, hq⟩
theorem fillP2 {a b : Value} {KL : List Value → Prop} (ha : a.cells = #[a] ∧ one a = true) (hb : b.cells = #[b] ∧ one b = true) {z : Value} (hk : KL [a, b]) : aFill (zrep [z] 2) [(0, 1, a), (1, 1, b)] KL := by
  refine fillO (l := [a]) (by rw [ha.1]) rfl (by simp [ha.2]) (by show 0 + 1 ≤ 2; decide) ?_
  refine fillO (l := [b]) (by rw [hb.1]) rfl (by simp [hb.2]) (by rw [wrAt_length]; show 1 + 1 ≤ 2; decide) ?_
  exact fillI hk
theorem beqD (a b : Int) : (a == b) = decide (a = b) := by
  by_cases h : a = b
  · simp [h]
  · simp [h]
theorem eqlU {t : TypeId} {a b : UInt8} (hk : KV (.bool (decide (a = b)))) : aBin prog .eql t (.int .u8 a.toNat) (.int .u8 b.toNat) KV := by
  refine ⟨rfl, ?_⟩
  show KV (.bool (((a.toNat : Nat) : Int) == ((b.toNat : Nat) : Int)))
  rw [beqD]
  have : ((a.toNat : Nat) : Int) = ((b.toNat : Nat) : Int) ↔ a = b := by rw [Int.ofNat_inj]; exact UInt8.toNat_inj
  rw [decide_eq_decide.2 this]
  exact hk
theorem neqU {t : TypeId} {a b : UInt8} (hk : KV (.bool (decide (a ≠ b)))) : aBin prog .neq t (.int .u8 a.toNat) (.int .u8 b.toNat) KV := by
  refine ⟨rfl, ?_⟩
  show KV (.bool (((a.toNat : Nat) : Int) != ((b.toNat : Nat) : Int)))
  unfold bne
  rw [beqD, ← decide_not]
  have : (¬ ((a.toNat : Nat) : Int) = ((b.toNat : Nat) : Int)) ↔ a ≠ b := by rw [Int.ofNat_inj, UInt8.toNat_inj]
  rw [decide_eq_decide.2 this]
  exact hk
theorem byteI {l : List UInt8} {i : Nat} {b : UInt8} (hb : l[i]? = some b) (hk : KV (.int .u8 b.toNat)) : aIdxStr (.string ⟨⟨l⟩⟩) (vint (i : Nat)) KV := by
  refine ⟨by omega, ?_⟩
  show match l[((i : Nat) : Int).toNat]? with
    | some b => KV (.int .u8 b.toNat)
    | none => False
  rw [Int.toNat_natCast, hb]
  exact hk
theorem lenStrI {l : List UInt8} (hk : KV (vint l.length)) : aLenStr (.string ⟨⟨l⟩⟩) KV := hk
end
structure Pas where
  grass : Int
  bears : Int
  dry : Int
  wet : Int
  stubble : Int
  sleep : Int
  deriving DecidableEq
structure SkyR where
  days : Int
  drought : Int
  flood : Int
  deriving DecidableEq
def Pas.cells (p : Pas) : List Value := [vint p.grass, vint p.bears, vint p.dry, vint p.wet, vint p.stubble, vint p.sleep]
def SkyR.cells (s : SkyR) : List Value := [vint s.days, vint s.drought, vint s.flood]
def pasOk (p : Pas) : Prop := (1 ≤ p.bears ∧ p.bears ≤ 99) ∧ (0 ≤ p.grass ∧ p.grass ≤ p.bears) ∧ (0 ≤ p.dry ∧ p.dry ≤ 9) ∧ (p.dry ≤ p.wet ∧ p.wet ≤ 9) ∧ (0 ≤ p.stubble ∧ p.stubble ≤ p.bears) ∧ (0 ≤ p.sleep ∧ p.sleep ≤ 5)
instance (p : Pas) : Decidable (pasOk p) := by unfold pasOk; infer_instance
def pasE (p : Pas) : Int := if pasOk p then 0 else 1
def skyOk (s : SkyR) : Prop := (1 ≤ s.days ∧ s.days ≤ 8) ∧ (1 ≤ s.drought ∧ s.drought ≤ s.days) ∧ (1 ≤ s.flood ∧ s.flood ≤ s.days)
instance (s : SkyR) : Decidable (skyOk s) := by unfold skyOk; infer_instance
def skyE (s : SkyR) : Int := if skyOk s then 0 else 1
def cntE (n lo hi : Int) : Int := if n < lo then 7 else if n > hi then 6 else 0
def hunE (heads : List Int) (days : Int) : Int := if cntE heads.length days days ≠ 0 then cntE heads.length days days else if ∀ n ∈ heads, 0 ≤ n ∧ n ≤ 40 then 0 else 1
def fst2 (a b : Int) : Int := if a ≠ 0 then a else b
abbrev Std := Int × Int
def leftR (x : Std) (heads : Int) : Int := x.1 - min heads x.1
def hungR (x : Std) (heads : Int) : Bool := decide (heads > x.1)
def shortR (p : Pas) (x : Std) (heads : Int) : Bool := decide (heads > 0) && decide (leftR x heads < p.stubble)
def dayR (p : Pas) (x : Std) (heads : Int) (wet : Bool) : Std :=
  if shortR p x heads = true then (leftR x heads, p.sleep) else if x.2 > 0 then (leftR x heads, x.2 - 1) else (min p.bears (leftR x heads + (if wet = true then p.wet else p.dry)), x.2)
def medC (p : Pas) (x : Std) : List Value := p.cells ++ [vint x.1, vint x.2]
structure StdOk (p : Pas) (x : Std) : Prop where
  g : 0 ≤ x.1 ∧ x.1 ≤ p.bears
  a : 0 ≤ x.2 ∧ x.2 ≤ 5
theorem leftR_bd {p : Pas} {x : Std} (o : StdOk p x) {n : Int} (hn : 0 ≤ n) : 0 ≤ leftR x n ∧ leftR x n ≤ x.1 := by
  have := o.g
  unfold leftR
  omega
theorem dayR_ok {p : Pas} {x : Std} (f : pasOk p) (o : StdOk p x) {n : Int} (hn : 0 ≤ n) {w : Bool} : StdOk p (dayR p x n w) := by
  have hl := leftR_bd o hn
  have hg := o.g
  have ha := o.a
  obtain ⟨f1, f2, f3, f4, f5, f6⟩ := f
  unfold dayR
  split
  · exact ⟨by dsimp only; omega, by dsimp only; omega⟩
  · split
    · exact ⟨by dsimp only; omega, by dsimp only; omega⟩
    · refine ⟨?_, by dsimp only; omega⟩
      dsimp only
      split <;> omega
theorem std0_ok {p : Pas} (f : pasOk p) : StdOk p (p.grass, 0) := ⟨f.2.1, by dsimp only; omega⟩
def wetB (b : UInt8) : Bool := decide (b = 119)
def stdR (p : Pas) (heads : List Int) (rain : List UInt8) : Nat → Std
  | 0 => (p.grass, 0)
  | k + 1 => dayR p (stdR p heads rain k) (heads.getD k 0) (wetB (rain.getD k 0))
def hungAt (p : Pas) (heads : List Int) (rain : List UInt8) (k : Nat) : Bool := hungR (stdR p heads rain k) (heads.getD k 0)
def headsOk (heads : List Int) : Prop := ∀ n ∈ heads, 0 ≤ n ∧ n ≤ 40
theorem headsOk_getD {heads : List Int} (hh : headsOk heads) (k : Nat) : 0 ≤ heads.getD k 0 ∧ heads.getD k 0 ≤ 40 := by
  rw [List.getD_eq_getElem?_getD]
  cases e : heads[k]? with
  | none => exact ⟨Int.le_refl _, by decide⟩
  | some n => exact hh n (List.mem_of_getElem? e)
theorem stdR_ok {p : Pas} {heads : List Int} {rain : List UInt8} (f : pasOk p) (hh : headsOk heads) : ∀ k, StdOk p (stdR p heads rain k)
  | 0 => std0_ok f
  | k + 1 => dayR_ok f (stdR_ok f hh k) (headsOk_getD hh k).1
def fstH (q : Nat → Bool) : Nat → Int
  | 0 => -1
  | n + 1 => if fstH q n ≥ 0 then fstH q n else if q n = true then (n : Int) else -1
theorem fstH_none {q : Nat → Bool} : ∀ {n : Nat}, (∀ i, i < n → q i = false) → fstH q n = -1
  | 0, _ => rfl
  | n + 1, h => by
    unfold fstH
    rw [fstH_none fun i hi => h i (by omega), if_neg (by decide), if_neg (by rw [h n (by omega)]; decide)]
theorem fstH_some {q : Nat → Bool} {k : Nat} (hq : q k = true) (hno : ∀ i, i < k → q i = false) : ∀ {n : Nat}, k < n → fstH q n = (k : Int)
  | 0, h => absurd h (Nat.not_lt_zero _)
  | n + 1, h => by
    unfold fstH
    by_cases e : k = n
    · subst e
      rw [fstH_none hno, if_neg (by decide), if_pos hq]
    · rw [fstH_some hq hno (by omega : k < n), if_pos (by omega)]
theorem fstH_pos {q : Nat → Bool} {i : Nat} (hq : q i = true) : ∀ {n : Nat}, i < n → 0 ≤ fstH q n
  | 0, h => absurd h (Nat.not_lt_zero _)
  | n + 1, h => by
    unfold fstH
    by_cases x : fstH q n ≥ 0
    · rw [if_pos x]
      exact x
    · rw [if_neg x]
      by_cases y : i = n
      · subst y
        rw [if_pos hq]
        omega
      · exact absurd (fstH_pos hq (by omega)) x
theorem fstH_iff {q : Nat → Bool} : ∀ {n : Nat}, 0 ≤ fstH q n → (fstH q n).toNat < n ∧ q (fstH q n).toNat = true ∧ ∀ i, i < (fstH q n).toNat → q i = false
  | 0, h => absurd h (by show ¬ (0 : Int) ≤ -1; decide)
  | n + 1, h => by
    by_cases e : fstH q n ≥ 0
    · have e1 : fstH q (n + 1) = fstH q n := by conv => lhs; unfold fstH
                                                rw [if_pos e]
      rw [e1]
      obtain ⟨a, b, c⟩ := fstH_iff e
      exact ⟨by omega, b, c⟩
    · by_cases e2 : q n = true
      · have e1 : fstH q (n + 1) = (n : Int) := by conv => lhs; unfold fstH
                                                   rw [if_neg e, if_pos e2]
        rw [e1]
        refine ⟨by simp, by simpa using e2, fun i hi => ?_⟩
        cases hq : q i with
        | false => rfl
        | true =>
          exact absurd (fstH_pos hq (by simpa using hi)) e
      · have e1 : fstH q (n + 1) = -1 := by conv => lhs; unfold fstH
                                            rw [if_neg e, if_neg e2]
        omega
def starvR (p : Pas) (heads : List Int) (rain : List UInt8) : Int := fstH (hungAt p heads rain) rain.length
abbrev Spl := UInt8 × Int
def spC (x : Spl) : List Value := [.int .u8 x.1.toNat, vint x.2]
def nextX (x : Spl) (c : UInt8) : Spl := if x.1 ≠ c then (c, 1) else (c, x.2 + 1)
def nextOk (s : SkyR) (x : Spl) (c : UInt8) : Bool := if x.1 ≠ c then true else decide (x.2 < if c = 119 then s.flood else s.drought)
def growB (s : SkyR) : Nat → List UInt8 → Spl → List (List UInt8)
  | 0, w, _ => [w]
  | n + 1, w, x => (if nextOk s x 100 = true then growB s n (w ++ [100]) (nextX x 100) else []) ++ (if nextOk s x 119 = true then growB s n (w ++ [119]) (nextX x 119) else [])
def rainsB (s : SkyR) : List (List UInt8) := growB s s.days.toNat [] (0, 0)
theorem growB_len {s : SkyR} : ∀ {n : Nat} {w : List UInt8} {x : Spl}, ∀ u ∈ growB s n w x, u.length = w.length + n
  | 0, w, x, u, hu => by
    rw [List.mem_singleton.1 hu]
    rfl
  | n + 1, w, x, u, hu => by
    unfold growB at hu
    rcases List.mem_append.1 hu with hu | hu
    · split at hu
      · rw [growB_len u hu, List.length_append]
        simp
        omega
      · cases hu
    · split at hu
      · rw [growB_len u hu, List.length_append]
        simp
        omega
      · cases hu
theorem rainsB_len {s : SkyR} {u : List UInt8} (h : u ∈ rainsB s) : u.length = s.days.toNat := by
  have := growB_len u h
  simpa using this
section
variable {main : Bool} {J : JT} {h H : List AObj} {K : Value → List AObj → Prop} {KV : Value → Prop} {HL : List AObj → Prop} {n0 : Nat}
theorem good114 (hJ : Closed prog main J) {n lo hi : Int} (hK : K (.bool (decide (lo ≤ n ∧ n ≤ hi))) h) : Good prog J 114 [vint n, vint lo, vint hi] h K := by
  refine g114 hJ fun ok => ?_
  rw [e114]
  refine leqI (cndI (fun h1 => leqI (retL_same (by simp [unk]) ?_)) fun h1 => retL_same (by simp [unk]) ?_)
  · simpa [pack, h1] using hK
  · simpa [pack, h1] using hK
theorem good139 (hJ : Closed prog main J) {n lo hi : Int} (hK : K (vint (cntE n lo hi)) h) : Good prog J 139 [vint n, vint lo, vint hi] h K := by
  refine g139 hJ fun ok => ?_
  rw [e139]
  refine lssI (cndI (fun h1 => retL_same (by simp [unk]) ?_) fun h1 => gtrI (cndI (fun h2 => retL_same (by simp [unk]) ?_) fun h2 => retL_same (by simp [unk]) ?_))
  · simpa [cntE, h1, pack] using hK
  · simpa [cntE, h1, h2, pack] using hK
  · simpa [cntE, h1, h2, pack] using hK
theorem good112 (hJ : Closed prog main J) {p : Pas} (hK : K (vint (pasE p)) h) : Good prog J 112 [.agg ⟨p.cells⟩] h K := by
  refine g112 hJ fun ok => ?_
  rw [e112]
  refine qBox (l := p.cells) rfl fun H1 p1 e1 S1 c1 l1 => ?_
  have fin : ∀ e : Int, pasE p = e → retL h.length K [] [vint e] H1 := fun e he => by
    subst he
    exact retX ok (Nat.le_refl _) S1 (by simp) (by simp [unk]) (by simp [pack, VOk]) hK
  have no : ∀ {q : Prop}, (pasOk p → q) → ¬ q → retL h.length K [] [vint 1] H1 := fun a b => fin 1 (by unfold pasE; rw [if_neg fun x => b (a x)])
  refine offI (ldI (v := vint p.bears) c1 rfl rfl (good114 hJ (cndI (fun h1 => ?_) fun h1 => hold.2 ?_)))
  rotate_left
  · rw [s112_1]
    exact cnd_false.2 (no (fun x => x.1) h1)
  refine offI (ldI (v := vint p.grass) c1 rfl rfl (offI (ldI (v := vint p.bears) c1 rfl rfl (good114 hJ (cndI (fun h2 => ?_) fun h2 => hold.2 ?_)))))
  rotate_left
  · rw [s112_1]
    exact cnd_false.2 (no (fun x => x.2.1) h2)
  refine offI (ldI (v := vint p.dry) c1 rfl rfl (good114 hJ (cndI (fun h3 => ?_) fun h3 => hold.2 ?_)))
  rotate_left
  · rw [s112_1]
    exact cnd_false.2 (no (fun x => x.2.2.1) h3)
  refine offI (ldI (v := vint p.wet) c1 rfl rfl (offI (ldI (v := vint p.dry) c1 rfl rfl (good114 hJ (cndI (fun h4 => ?_) fun h4 => hold.2 ?_)))))
  rotate_left
  · rw [s112_1]
    exact cnd_false.2 (no (fun x => x.2.2.2.1) h4)
  refine offI (ldI (v := vint p.stubble) c1 rfl rfl (offI (ldI (v := vint p.bears) c1 rfl rfl (good114 hJ (cndI (fun h5 => ?_) fun h5 => hold.2 ?_)))))
  rotate_left
  · rw [s112_1]
    exact cnd_false.2 (no (fun x => x.2.2.2.2.1) h5)
  refine offI (ldI (v := vint p.sleep) c1 rfl rfl (good114 hJ (hold.2 ?_)))
  rw [s112_1]
  refine cndI (fun h6 => fin 0 ?_) fun h6 => no (fun x => x.2.2.2.2.2) h6
  unfold pasE
  rw [if_pos ⟨h1, h2, h3, h4, h5, h6⟩]
theorem good113 (hJ : Closed prog main J) {s : SkyR} (hK : K (vint (skyE s)) h) : Good prog J 113 [.agg ⟨s.cells⟩] h K := by
  refine g113 hJ fun ok => ?_
  rw [e113]
  refine qBox (l := s.cells) rfl fun H1 p1 e1 S1 c1 l1 => ?_
  have fin : ∀ e : Int, skyE s = e → retL h.length K [] [vint e] H1 := fun e he => by
    subst he
    exact retX ok (Nat.le_refl _) S1 (by simp) (by simp [unk]) (by simp [pack, VOk]) hK
  have no : ∀ {q : Prop}, (skyOk s → q) → ¬ q → retL h.length K [] [vint 1] H1 := fun a b => fin 1 (by unfold skyE; rw [if_neg fun x => b (a x)])
  refine offI (ldI (v := vint s.days) c1 rfl rfl (good114 hJ (cndI (fun h1 => ?_) fun h1 => hold.2 ?_)))
  rotate_left
  · rw [s113_1]
    exact cnd_false.2 (no (fun x => x.1) h1)
  refine offI (ldI (v := vint s.drought) c1 rfl rfl (offI (ldI (v := vint s.days) c1 rfl rfl (good114 hJ (cndI (fun h2 => ?_) fun h2 => hold.2 ?_)))))
  rotate_left
  · rw [s113_1]
    exact cnd_false.2 (no (fun x => x.2.1) h2)
  refine offI (ldI (v := vint s.flood) c1 rfl rfl (offI (ldI (v := vint s.days) c1 rfl rfl (good114 hJ (hold.2 ?_)))))
  rw [s113_1]
  refine cndI (fun h3 => fin 0 ?_) fun h3 => no (fun x => x.2.2) h3
  unfold skyE
  rw [if_pos ⟨h1, h2, h3⟩]
theorem good111 (hJ : Closed prog main J) {v : Value} {a b : Int} (hs : Sli H v 1 2 [vint a, vint b]) (hK : K (vint (fst2 a b)) H) : Good prog J 111 [v] H K := by
  refine g111 hJ fun ok => ?_
  rw [e111]
  have hs' : Sli H v 1 ([a, b] : List Int).length (([a, b] : List Int).map vint) := hs
  refine lenI hs ?_
  refine l111_1 hJ (fun i : Nat => 2 - i) (fun i F H' => H' = H ∧ i ≤ 2 ∧ (1 ≤ i → a = 0) ∧ (2 ≤ i → b = 0) ∧ F.ds = [] ∧ F.r 5 = v ∧ F.r 6 = vint (2 : Nat) ∧ F.r 7 = vint (i : Nat)) ?_ (s := 0)
    (.inl ⟨rfl, by omega, by omega, by omega, rfl, rfl, rfl, rfl⟩)
  rintro i F H' ⟨rfl, hi, ha, hb, ds, r5, r6, r7⟩ okc hnc
  rw [s111_1, r5, r6, r7, ds]
  refine lssI (cndI (fun hlt => ?_) fun hge => ?_)
  rotate_left
  · have h1 := ha (by omega)
    have h2 := hb (by omega)
    refine retL_same (by simp [unk]) ?_
    unfold fst2 at hK
    rw [if_neg (by omega), h2] at hK
    exact hK
  have hil : i < 2 := by omega
  by_cases e : i = 0
  · subst e
    refine sliN hs' (i := 0) (x := a) rfl fun q => neqI (cndI (fun hne => retL_same (by simp [unk]) ?_) fun heq => addI (by omega) ⟨1, by decide, .inl ⟨rfl, by omega, fun _ => by omega, by omega, ds, r5, r6, rfl⟩⟩)
    unfold fst2 at hK
    rw [if_pos hne] at hK
    exact hK
  · have : i = 1 := by omega
    subst this
    have h1 := ha (by omega)
    refine sliN hs' (i := 1) (x := b) rfl fun q => neqI (cndI (fun hne => retL_same (by simp [unk]) ?_) fun heq => addI (by omega) ⟨2, by decide, .inl ⟨rfl, by omega, fun _ => h1, fun _ => by omega, ds, r5, r6, rfl⟩⟩)
    unfold fst2 at hK
    rw [if_neg (by omega)] at hK
    exact hK
theorem good133 (hJ : Closed prog main J) {v : Value} {hs : List Int} {n : Int} (sh : Sli H v 1 hs.length (hs.map vint)) (hl : hs.length < 1000000) (hK : K (vint (hunE hs n)) H) : Good prog J 133 [v, vint n] H K := by
  refine g133 hJ fun ok => ?_
  rw [e133]
  refine lenI sh (good139 hJ (neqI (cndI (fun h1 => retL_same (by simp [unk]) ?_) fun h1 => lenI sh ?_)))
  · unfold hunE at hK
    rw [if_pos h1] at hK
    exact hK
  refine l133_1 hJ (fun i : Nat => hs.length - i) (fun i F H' => H' = H ∧ i ≤ hs.length ∧ (∀ n ∈ hs.take i, 0 ≤ n ∧ n ≤ 40) ∧ F.ds = [] ∧ F.r 16 = v ∧ F.r 17 = vint (hs.length : Nat) ∧ F.r 18 = vint (i : Nat)) ?_ (s := 0)
    (.inl ⟨rfl, by omega, by simp, rfl, rfl, rfl, rfl⟩)
  rintro i F H' ⟨rfl, hi, hd, ds, r16, r17, r18⟩ okc hnc
  rw [s133_1, r16, r17, r18, ds]
  refine lssI (cndI (fun hlt => ?_) fun hge => ?_)
  · have hil : i < hs.length := by omega
    have hx : hs[i]? = some hs[i] := List.getElem?_eq_getElem hil
    refine sliN sh hx fun q => good114 hJ (notI (cndN (fun hno => retL_same (by simp [unk]) ?_) fun hyes => addI (by omega) ⟨i + 1, by dsimp only; omega, .inl ⟨rfl, by omega, fun n hn => ?_, ds, r16, r17, by show vint _ = vint _; congr 1⟩⟩))
    · unfold hunE at hK
      rw [if_neg h1, if_neg fun x => hno (x _ (List.getElem_mem hil))] at hK
      exact hK
    · rw [List.take_add_one, hx] at hn
      rcases List.mem_append.1 hn with hn | hn
      · exact hd n hn
      · have : n = hs[i] := by simpa using hn
        rw [this]
        exact hyes
  · have : i = hs.length := by omega
    subst this
    refine retL_same (by simp [unk]) ?_
    unfold hunE at hK
    rw [if_neg h1, if_pos (by simpa using hd)] at hK
    exact hK
theorem fillM {p : Pas} {a b : Int} {KL : List Value → Prop} (hk : KL (medC p (a, b))) : aFill [(vint 0), (vint 0), (vint 0), (vint 0), (vint 0), (vint 0), (vint 0), (vint 0)] [(0, 6, .agg ⟨p.cells⟩), (6, 2, .agg ⟨[vint a, vint b]⟩)] KL := by
  refine fillO (l := p.cells) rfl rfl rfl (by decide) (fillO (l := [vint a, vint b]) rfl rfl rfl (by rw [wrAt_length]; decide) (fillI hk))
theorem good128 (hJ : Closed prog main J) {p : Pas} (hK : ∀ H' m, m = H'.length - 1 → SameX [] H H' → H'[m]? = some (.cells (medC p (p.grass, 0)) true 0) → H.length ≤ m → K (ptr m 0) H') : Good prog J 128 [.agg ⟨p.cells⟩] H K := by
  refine g128 hJ fun ok => ?_
  rw [e128]
  refine qBox (l := p.cells) rfl fun H1 p1 e1 S1 c1 l1 => load_part (c := p.cells) c1 (by simp [Pas.cells]) rfl rfl (offI (ldI (v := vint p.grass) c1 rfl rfl ?_))
  refine fillO (l := [vint p.grass]) rfl rfl rfl (by decide) (fillI (fillM (qBox (l := medC p (p.grass, 0)) rfl fun H2 p2 e2 S2 c2 l2 => retL_same (by simp [unk]) (hK H2 p2 (by omega) (S1.trans S2) c2 (by omega)))))
theorem good129 (hJ : Closed prog main J) {p : Pas} {x : Std} {n : Int} {w : Bool} {m : Nat} (hm : H[m]? = some (.cells (medC p x) true 0)) (f : pasOk p) (o : StdOk p x) (hn : 0 ≤ n ∧ n ≤ 1000000)
    (hK : ∀ H', SameX [m] H H' → H'[m]? = some (.cells (medC p (dayR p x n w)) true 0) → K (.tuple ⟨[.bool (hungR x n), .bool (shortR p x n)]⟩) H') : Good prog J 129 [ptr m 0, vint n, .bool w] H K := by
  refine g129 hJ fun ok => ?_
  rw [e129]
  have og := o.g
  have oa := o.a
  have hb := leftR_bd o hn.1
  obtain ⟨f1, f2, f3, f4, f5, f6⟩ := f
  have mc : ∀ (a b : Int), medC p (a, b) = [vint p.grass, vint p.bears, vint p.dry, vint p.wet, vint p.stubble, vint p.sleep, vint a, vint b] := fun a b => rfl
  obtain ⟨xa, xb⟩ := x
  dsimp only at og oa
  rw [mc] at hm
  refine nilI (offI (offI (ldI (v := vint xa) hm rfl rfl (gtrI ?_))))
  refine nilI (offI (offI (ldI (v := vint xa) hm rfl rfl ?_)))
  refine nilI (offI (offI (ldI (v := vint xa) hm rfl rfl (minI (subI (by omega) ?_)))))
  refine nilI (offI (offI (qSt hm (by simp) rfl rfl fun H1 S1 c1 l1 => ?_)))
  have el : xa - min n xa = leftR (xa, xb) n := rfl
  rw [el] at c1 ⊢
  have c1 : H1[m]? = some (.cells (medC p (leftR (xa, xb) n, xb)) true 0) := c1
  -- behind the eating
  have post : ∀ {F : RG}, F.ds = [] → F.r 0 = ptr m 0 → F.r 2 = .bool w → F.r 6 = .bool (hungR (xa, xb) n) → F.r 7 = .bool (shortR p (xa, xb) n) →
      W prog J 119 H.length 129 (subC [1, 1, 1, 1] (codeOf f129)) F H1 (contX pl129 prog J 119 H.length 129 ct129 [1, 1, 1, 1] (codeOf f129) [] (RetQ prog [.tmp 6, .tmp 7] H.length K)) := by
    intro F ds r0 r2 r6 r7
    rw [s129_1, r0, r2, r6, r7, ds]
    have fin : ∀ {y : Std} {H2 : List AObj}, dayR p (xa, xb) n w = y → SameX [m] H1 H2 → H2[m]? = some (.cells (medC p y) true 0) → retL H.length K [] [.bool (hungR (xa, xb) n), .bool (shortR p (xa, xb) n)] H2 := fun hy S2 c2 => by
      subst hy
      exact retL_same (by simp [unk]) (hK _ (S1.trans S2) c2)
    rw [mc] at c1
    refine cndB (fun hs => ?_) fun hs => ?_
    · refine nilI (offI (offI (ldI (v := vint p.sleep) c1 rfl rfl (nilI (offI (offI (qSt c1 (by simp) rfl rfl fun H2 S2 c2 l2 => ?_)))))))
      refine fin (y := (leftR (xa, xb) n, p.sleep)) ?_ S2 c2
      unfold dayR
      rw [if_pos hs]
    · have hs' : ¬ shortR p (xa, xb) n = true := by rw [hs]; decide
      refine nilI (offI (offI (ldI (v := vint xb) c1 rfl rfl (gtrI (cndI (fun h0 => ?_) fun h0 => ?_)))))
      · refine nilI (offI (offI (ldI (v := vint xb) c1 rfl rfl (subI (by omega) (nilI (offI (offI (qSt c1 (by simp) rfl rfl fun H2 S2 c2 l2 => ?_))))))))
        refine fin (y := (leftR (xa, xb) n, xb - 1)) ?_ S2 c2
        unfold dayR
        rw [if_neg hs', if_pos h0]
      · refine cndB (fun hw => ?_) fun hw => ?_
        · refine nilI (offI (offI (ldI (v := vint p.bears) c1 rfl rfl (nilI (offI (offI (ldI (v := vint (leftR (xa, xb) n)) c1 rfl rfl (nilI (offI (offI (ldI (v := vint p.wet) c1 rfl rfl (addI (by omega) (minI (nilI (offI (offI (qSt c1 (by simp) rfl rfl fun H2 S2 c2 l2 => ?_)))))))))))))))))
          refine fin (y := (min p.bears (leftR (xa, xb) n + p.wet), xb)) ?_ S2 c2
          unfold dayR
          rw [if_neg hs', if_neg h0, if_pos hw]
        · refine nilI (offI (offI (ldI (v := vint p.bears) c1 rfl rfl (nilI (offI (offI (ldI (v := vint (leftR (xa, xb) n)) c1 rfl rfl (nilI (offI (offI (ldI (v := vint p.dry) c1 rfl rfl (addI (by omega) (minI (nilI (offI (offI (qSt c1 (by simp) rfl rfl fun H2 S2 c2 l2 => ?_)))))))))))))))))
          refine fin (y := (min p.bears (leftR (xa, xb) n + p.dry), xb)) ?_ S2 c2
          unfold dayR
          rw [if_neg hs', if_neg h0, if_neg (by rw [hw]; decide)]
  refine gtrI (cndI (fun h0 => ?_) fun h0 => hold.2 ?_)
  · rw [mc] at c1
    refine nilI (offI (offI (ldI (v := vint (leftR (xa, xb) n)) c1 rfl rfl (nilI (offI (offI (ldI (v := vint p.stubble) c1 rfl rfl (lssI (hold.2 ?_)))))))))
    refine post rfl rfl rfl rfl ?_
    show Value.bool _ = Value.bool _
    unfold shortR
    rw [decide_eq_true h0]
    rfl
  · refine post rfl rfl rfl rfl ?_
    show Value.bool _ = Value.bool _
    unfold shortR
    rw [decide_eq_false h0]
    rfl
theorem good136 (hJ : Closed prog main J) {s : SkyR} {x : Spl} {c : UInt8} (hx : -1 ≤ x.2 ∧ x.2 ≤ 1000000) (hK : ∀ H', SameX [] H H' → K (.tuple ⟨[.agg ⟨spC (nextX x c)⟩, .bool (nextOk s x c)]⟩) H') : Good prog J 136 [.agg ⟨spC x⟩, .agg ⟨s.cells⟩, .int .u8 c.toNat] H K := by
  refine g136 hJ fun ok => ?_
  rw [e136]
  refine qBox (l := spC x) rfl fun H1 p1 e1 S1 c1 l1 => qBox (l := s.cells) rfl fun H2 p2 e2 S2 c2 l2 => qAl fun H3 p3 e3 S3 c3 l3 => ?_
  have c13 := S3.get (S2.get c1 (by simp)) (by simp)
  have c23 := S3.get c2 (by simp)
  have T3 := (S1.trans S2).trans S3
  refine offI (ldI (v := .int .u8 x.1.toNat) c13 rfl rfl (neqU (cndI (fun hne => ?_) fun heq => ?_)))
  · refine fillO (l := [.int .u8 c.toNat]) rfl rfl rfl (by decide) (fillO (l := [vint 1]) rfl rfl rfl (by rw [wrAt_length]; decide) (fillI ?_))
    refine qStA (c := spC (c, 1)) c3 rfl rfl rfl fun H4 S4 c4 l4 => ?_
    refine retQs rfl (resW_cell (gg := true) (s := 2) (by kernel_rfl) (load_part (c := spC (c, 1)) c4 (by simp [spC]) rfl rfl (resW_tmp (by simp [unk, RG.p]) (resW_nil ?_))))
    have := hK H4 (T3.thru S4 (by simp; omega))
    unfold nextX nextOk at this
    rw [if_pos hne, if_pos hne] at this
    exact this
  · have heq : x.1 = c := Classical.not_not.1 heq
    have post : ∀ {F : RG} {most : Int}, most = (if c = 119 then s.flood else s.drought) → F.ds = [] → F.r 2 = .int .u8 c.toNat → F.r 3 = ptr p1 0 → F.r 6 = ptr p3 0 → F.r 8 = vint most →
        W prog J 30 H.length 136 (subC [1, 1, 1, 1] (codeOf f136)) F H3 (contX pl136 prog J 30 H.length 136 ct136 [1, 1, 1, 1] (codeOf f136) [] (RetQ prog [.cell 6 158, .tmp 7] H.length K)) := by
      intro F most hm ds r2 r3 r6 r8
      rw [s136_1, r2, r3, r6, r8]
      refine ⟨[p1], offI (ldI (v := vint x.2) c13 rfl rfl ⟨by simp [RdOk, ptr, ptrBlk], addI (by omega) ?_⟩)⟩
      refine fillO (l := [.int .u8 c.toNat]) rfl rfl rfl (by decide) (fillO (l := [vint (x.2 + 1)]) rfl rfl rfl (by rw [wrAt_length]; decide) (fillI ?_))
      refine offI (ldI (v := vint x.2) c13 rfl rfl ⟨by simp [RdOk, ptr, ptrBlk], lssI ?_⟩)
      refine qStA (c := spC (c, x.2 + 1)) c3 rfl rfl rfl fun H4 S4 c4 l4 => ⟨sbOne S4 (lt_of_get c13) (by simp; omega), ?_⟩
      refine retQs ds (resW_cell (gg := true) (s := 2) (by kernel_rfl) ?_)
      show aLoad true 2 (F.r 6) H4 _
      rw [r6]
      refine load_part (c := spC (c, x.2 + 1)) c4 (by simp [spC]) rfl rfl (resW_tmp (by simp [unk, RG.p]) (resW_nil ?_))
      have := hK H4 (T3.thru S4 (by simp; omega))
      unfold nextX nextOk at this
      rw [if_neg (not_not_intro heq), if_neg (not_not_intro heq), ← hm] at this
      exact this
    refine offI (ldI (v := vint s.drought) c23 rfl rfl ?_)
    have e119 : (Value.int .u8 119) = .int .u8 (119 : UInt8).toNat := rfl
    rw [e119]
    refine eqlU (cndI (fun hw => ?_) fun hw => hold.2 ?_)
    · exact offI (ldI (v := vint s.flood) c23 rfl rfl (hold.2 (post (most := s.flood) (by rw [if_pos hw]) rfl rfl rfl rfl rfl)))
    · exact post (most := s.drought) (by rw [if_neg hw]) rfl rfl rfl rfl rfl
end
def bV (b : UInt8) : Value := .int .u8 b.toNat
def strV (w : List UInt8) : Value := .string ⟨⟨w⟩⟩
theorem kn_bV (w : List UInt8) : kn (w.map bV) = true := by
  simp [kn, kn1, bV]
theorem bytes_bV : ∀ w : List UInt8, bytesOf (w.map bV) = some w
  | [] => rfl
  | b :: w => by
    show (match byteOf (bV b), bytesOf (w.map bV) with
      | some b, some bs => some (b :: bs)
      | _, _ => none) = _
    rw [bytes_bV w]
    have : byteOf (bV b) = some b := by
      show some (UInt8.ofNat ((b.toNat : Nat) : Int).toNat) = some b
      rw [Int.toNat_natCast, UInt8.ofNat_toNat]
    rw [this]
def growF (ps py pg : Nat) : Value := .func (.func 135) ⟨[]⟩ ⟨[ptr ps 0, ptr py 0, ptr pg 0]⟩
def TillZ (n : Nat) (O : List Nat) (h H : List AObj) : Prop := h.length ≤ H.length ∧ ∀ i, i < n ∨ i ∈ O → H[i]? = h[i]?
structure Rnd (J : JT) (L : List (List UInt8)) (y : Value) (X : List Nat) (Hs : List AObj) (I : Nat → List Nat → List AObj → Prop) (St : List AObj → Prop) : Prop where
  hX : ∀ x ∈ X, x < Hs.length
  hO : ∀ {k O H'}, I k O H' → ∀ x ∈ O, x < H'.length
  hI : ∀ {k O H1 H2}, TillZ Hs.length O H1 H2 → I k O H1 → I k O H2
  round : ∀ (k : Nat) (w : List UInt8) (O : List Nat) (H1 : List AObj) (Q : Value → List AObj → Prop), L[k]? = some w → SameX X Hs H1 → (∀ x ∈ O, Hs.length ≤ x) → I k O H1 → (∀ O' H2, SameX (X ++ O) H1 H2 → (∀ x ∈ O', x ∈ O ∨ H1.length ≤ x) → I (k + 1) O' H2 → Q (.bool true) H2) → (∀ H2, SameX (X ++ O) H1 H2 → St H2 → Q (.bool false) H2) → callV prog (Good prog J) y [strV w] H1 Q
section
variable {main : Bool} {J : JT} {h H : List AObj} {K : Value → List AObj → Prop} {KV : Value → Prop} {HL : List AObj → Prop} {n0 : Nat}
theorem strI {b n m : Nat} {cs : List Value} {wr : Bool} {sz : Nat} {w : List UInt8} (hb : H[b]? = some (.cells cs wr sz)) (hn : w.length = n) (ht : cs.take n = w.map bV) (hk : KV (strV w)) : aB2S (.slice (some ⟨b, 0, none⟩) n m) H KV := by
  unfold aB2S
  simp only [hb]
  have hl : n ≤ cs.length := by
    have := congrArg List.length ht
    simp at this
    omega
  refine ⟨by omega, ?_⟩
  rw [List.drop_zero, ht, bytes_bV]
  exact hk
theorem appB {b k m : Nat} {cs : List Value} {v y : Value} (hb : H[b]? = some (.cells cs true 0)) (hl : cs.length = m) (hk : k < m) (hm : m < 1000) (hc : kn (cs.take k) = true) (hy : Sli H y 1 1 [v])
    (hK : ∀ H', SameX [b] H H' → H'[b]? = some (.cells (cs.set k v) true 0) → H'.length = H.length → K (.slice (some ⟨b, 0, none⟩) (k + 1) m) H') : aApp 1 (.slice (some ⟨b, 0, none⟩) k m) y H K := appIn hb hl hk hm hc hy hK
theorem good135 (hJ : Closed prog main J) {s : SkyR} {L : List (List UInt8)} {y : Value} {X : List Nat} {Hs : List AObj} {I : Nat → List Nat → List AObj → Prop} {St : List AObj → Prop} (R : Rnd J L y X Hs I St) (ky : y.cells = #[y] ∧ one y = true ∧ kn1 y = true)
    {ps py pg pb m : Nat} (hm : m ≤ 8) (hdays : s.days = (m : Int)) (cs0 : Hs[ps]? = some (.cells s.cells true 0)) (nX : ps ∉ X) (n1 : Hs.length ≤ py) (n2 : Hs.length ≤ pg) (n3 : Hs.length ≤ pb) (d1 : pb ≠ py) (d2 : pb ≠ pg) :
    ∀ (left : Nat) (w : List UInt8) (x : Spl) (k : Nat) (O : List Nat) (cs : List Value) {H : List AObj} {K : Value → List AObj → Prop},
    w.length + left = m → 0 ≤ x.2 ∧ x.2 ≤ 100 + w.length → (∀ j, j < (growB s left w x).length → L[k + j]? = (growB s left w x)[j]?) →
    SameX X Hs H → H[py]? = some (.cells [y] true 0) → H[pg]? = some (.cells [growF ps py pg] true 0) → H[pb]? = some (.cells cs true 0) → cs.length = m → cs.take w.length = w.map bV →
    I k O H → (∀ z ∈ O, Hs.length ≤ z ∧ z ≠ py ∧ z ≠ pg ∧ z ≠ pb) →
    (∀ H' O' cs', SameX (pb :: (X ++ O)) H H' → (∀ z ∈ O', z ∈ O ∨ H.length ≤ z) → H'[pb]? = some (.cells cs' true 0) → cs'.length = m → cs'.take w.length = w.map bV → I (k + (growB s left w x).length) O' H' → K (.bool true) H') →
    (∀ H', SameX (pb :: (X ++ O)) H H' → St H' → K (.bool false) H') →
    Good prog J 135 [.slice (some ⟨pb, 0, none⟩) w.length m, .agg ⟨spC x⟩, ptr ps 0, ptr py 0, ptr pg 0] H K
  | 0, w, x, k, O, cs, H, K, hwl, hx, hL, S0, cy, cg, cb, hcl, htk, ik, hO, hK1, hK2 => by
    refine g135 hJ fun ok => ?_
    rw [e135]
    refine qBox (l := spC x) rfl fun H1 p1 e1 S1 c1 l1 => ?_
    have lps := lt_of_get cs0
    have cps := S0.get cs0 nX
    have hs : Sli H1 (.slice (some ⟨pb, 0, none⟩) w.length m) 1 w.length (w.map bV) := ⟨_, _, rfl, ⟨by simp, kn_bV w⟩, .inr ⟨pb, 0, rfl, .inr ⟨cs, true, 0, S1.get cb (by simp), by simpa using htk⟩⟩⟩
    refine lenI hs (offI (ldI (v := vint s.days) (S1.get cps (by simp)) rfl rfl (eqlI (cndI (fun _ => ?_) fun hne => absurd (by rw [hdays]; congr 1) hne))))
    refine ldI (v := y) (S1.get cy (by simp)) rfl ky.2.2 (strI (S1.get cb (by simp)) rfl htk ?_)
    have hS0 := S0.1
    have hlH := lt_of_get cb
    have u : ∀ {H2 : List AObj}, SameX (X ++ O) H1 H2 → SameX (pb :: (X ++ O)) H H2 := fun S => (S1.weak0.trans (S.weak fun x hx => List.mem_cons_of_mem _ hx))
    have n4 : pb ∉ X ++ O := by
      intro hz
      rcases List.mem_append.1 hz with hz | hz
      · have := R.hX _ hz
        omega
      · exact (hO _ hz).2.2.2 rfl
    refine R.round k w O H1 _ (by have := hL 0 (by simp [growB]); simpa [growB] using this) (S0.thru S1.weak0 (Y := X) fun _ h => .inl h) (fun z hz => (hO z hz).1) (R.hI ⟨S1.1, fun i hi => S1.2 i (by rcases hi with hi | hi; omega; exact R.hO ik i hi) (by simp)⟩ ik) (fun O' H2 S2 hO' i2 => ?_) fun H2 S2 st => ?_
    · exact retL_same (by simp [unk]) (hK1 H2 O' cs (u S2) (fun z hz => (hO' z hz).imp id fun h => by have := S1.1; omega) (S2.get (S1.get cb (by simp)) n4) hcl htk i2)
    · exact retL_same (by simp [unk]) (hK2 H2 (u S2) st)
  | left + 1, w, x, k, O, cs, H, K, hwl, hx, hL, S0, cy, cg, cb, hcl, htk, ik, hO, hK1, hK2 => by
    refine g135 hJ fun ok => ?_
    rw [e135]
    have hfz : (1000 : Nat) < fz := by decide
    refine qBox (l := spC x) rfl fun Ha p1 e1 S1 c1 l1 => ?_
    have lps := lt_of_get cs0
    have hs : Sli Ha (.slice (some ⟨pb, 0, none⟩) w.length m) 1 w.length (w.map bV) := ⟨_, _, rfl, ⟨by simp, kn_bV w⟩, .inr ⟨pb, 0, rfl, .inr ⟨cs, true, 0, S1.get cb (by simp), by simpa using htk⟩⟩⟩
    have hS0 := S0.1
    have lpb := lt_of_get cb
    have lpy := lt_of_get cy
    have lpg := lt_of_get cg
    refine lenI hs (offI (ldI (v := vint s.days) (S1.get (S0.get cs0 nX) (by simp)) rfl rfl (eqlI (cndI (fun he => absurd he (by rw [hdays]; omega)) fun _ => ?_))))
    refine fillO (l := [bV 100]) rfl rfl rfl (by decide) (fillO (l := [bV 119]) rfl rfl rfl (by rw [wrAt_length]; decide) (fillI ?_))
    -- what both letters come to
    let A : List (List UInt8) := if nextOk s x 100 = true then growB s left (w ++ [100]) (nextX x 100) else []
    let B : List (List UInt8) := if nextOk s x 119 = true then growB s left (w ++ [119]) (nextX x 119) else []
    have hAB : growB s (left + 1) w x = A ++ B := rfl
    let off : Nat → Nat := fun i => if i = 0 then 0 else if i = 1 then A.length else A.length + B.length
    refine l135_1 hJ (fun i : Nat => 2 - i) (fun i F H' => ∃ O' cs', i ≤ 2 ∧ SameX (pb :: (X ++ O)) Ha H' ∧ (∀ z ∈ O', z ∈ O ∨ Ha.length ≤ z) ∧ H'[pb]? = some (.cells cs' true 0) ∧ cs'.length = m ∧ cs'.take w.length = w.map bV ∧ I (k + off i) O' H' ∧
        F.ds = [] ∧ F.r 0 = .slice (some ⟨pb, 0, none⟩) w.length m ∧ F.r 2 = ptr ps 0 ∧ F.r 4 = ptr pg 0 ∧ F.r 6 = ptr p1 0 ∧ F.r 21 = .agg ⟨[bV 100, bV 119]⟩ ∧ F.r 22 = vint (i : Nat)) ?_ (s := 0)
      (.inl ⟨O, cs, by omega, SameX.refl, fun z hz => .inl hz, S1.get cb (by simp), hcl, htk, R.hI ⟨S1.1, fun i hi => S1.2 i (by rcases hi with hi | hi; omega; exact R.hO ik i hi) (by simp)⟩ ik, rfl, rfl, rfl, rfl, rfl, rfl, rfl⟩)
    rintro i F Hc ⟨O1, cs1, hi, Sc, hO1, cb1, hcl1, htk1, ik1, ds, r0, r2, r4, r6, r21, r22⟩ okc hnc
    rw [s135_1, r0, r2, r4, r6, r21, r22, ds]
    have hSc := Sc.1
    have hOo : ∀ z ∈ O1, Hs.length ≤ z ∧ z ≠ py ∧ z ≠ pg ∧ z ≠ pb ∧ z ≠ p1 := fun z hz => by
      rcases hO1 z hz with h | h
      · have := hO z h
        have := R.hO ik z h
        omega
      · omega
    have notin : ∀ q, q < Hs.length → q ∉ X → q ∉ pb :: (X ++ O) := fun q h1 h2 hm' => by
      rcases List.mem_cons.1 hm' with hz | hz
      · omega
      · rcases List.mem_append.1 hz with hz | hz
        · exact h2 hz
        · have := (hO _ hz).1
          omega
    have notin2 : ∀ q, Hs.length ≤ q → q ≠ pb → q ∉ O → q ∉ pb :: (X ++ O) := fun q h1 h2 h3 hm' => by
      rcases List.mem_cons.1 hm' with hz | hz
      · exact h2 hz
      · rcases List.mem_append.1 hz with hz | hz
        · have := R.hX _ hz
          omega
        · exact h3 hz
    have cpsc := Sc.get (S1.get (S0.get cs0 nX) (by simp)) (notin ps lps nX)
    have cyc := Sc.get (S1.get cy (by simp)) (notin2 py n1 (by omega) (fun hz => (hO _ hz).2.1 rfl))
    have cgc := Sc.get (S1.get cg (by simp)) (notin2 pg n2 (by omega) (fun hz => (hO _ hz).2.2.1 rfl))
    have c1c := Sc.get c1 (notin2 p1 (by omega) (by omega) (fun hz => by have := R.hO ik _ hz; omega))
    have T1 : SameX (pb :: (X ++ O)) H Hc := (S1.weak0).trans Sc
    refine lssI (cndI (fun hlt => ?_) fun hge => ?_)
    rotate_left
    · have : i = 2 := by omega
      subst this
      refine retL_same (by simp [unk]) (hK1 Hc O1 cs1 T1 (fun z hz => (hO1 z hz).imp id fun h => by have := S1.1; omega) cb1 hcl1 htk1 ?_)
      rw [hAB, List.length_append]
      exact ik1
    have hi2 : i < 2 := by omega
    obtain ⟨c, hc, hcv⟩ : ∃ c : UInt8, (c = 100 ∧ i = 0 ∨ c = 119 ∧ i = 1) ∧ [bV 100, bV 119][i]? = some (bV c) := by
      rcases (by omega : i = 0 ∨ i = 1) with h | h
      · exact ⟨100, .inl ⟨rfl, h⟩, by rw [h]; rfl⟩
      · exact ⟨119, .inr ⟨rfl, h⟩, by rw [h]; rfl⟩
    -- the part of this letter
    let P : List (List UInt8) := if nextOk s x c = true then growB s left (w ++ [c]) (nextX x c) else []
    have hP : off (i + 1) = off i + P.length ∧ ∀ j, j < P.length → L[k + off i + j]? = P[j]? := by
      rcases hc with ⟨h1, h2⟩ | ⟨h1, h2⟩
      · subst h1 h2
        refine ⟨by show A.length = 0 + A.length; omega, fun j hj => ?_⟩
        have hj : j < A.length := hj
        have := hL j (by rw [hAB, List.length_append]; omega)
        rw [hAB, List.getElem?_append_left hj] at this
        exact this
      · subst h1 h2
        refine ⟨rfl, fun j hj => ?_⟩
        have hj : j < B.length := hj
        have := hL (A.length + j) (by rw [hAB, List.length_append]; omega)
        rw [hAB, List.getElem?_append_right (by omega), Nat.add_sub_cancel_left] at this
        show L[k + A.length + j]? = B[j]?
        rw [Nat.add_assoc]
        exact this
    have hidx : aIdxV 2 1 false (.agg ⟨[bV 100, bV 119]⟩) (vint (i : Nat)) = fun KI => KI (bV c) := by
      funext KI
      rcases hc with ⟨h1, h2⟩ | ⟨h1, h2⟩ <;> subst h1 h2 <;> exact propext ⟨fun h => h.2, fun h => ⟨⟨by decide, by decide⟩, h⟩⟩
    rw [hidx]
    refine load_part (c := spC x) c1c (by simp [spC]) rfl rfl (load_part (c := s.cells) cpsc (by simp [SkyR.cells]) rfl rfl ?_)
    refine good136 hJ (by omega) fun H2 S2 => ext0 (ext1 (qAl fun H3 p9 e3 S3 c3 l3 => qStA (c := spC (nextX x c)) c3 rfl rfl rfl fun H4 S4 c4 l4 => ?_))
    have hS2 := S2.1
    have T4 : SameX [] Hc H4 := (S2.trans S3).thru S4 (by simp; omega)
    have hT4 := T4.1
    have ik4 : I (k + off i) O1 H4 := R.hI ⟨T4.1, fun j hj => T4.2 j (by rcases hj with hj | hj; omega; exact R.hO ik1 j hj) (by simp)⟩ ik1
    -- behind this letter
    have next : ∀ {F' : RG} {H5 : List AObj} {O5 : List Nat} {cs5 : List Value}, F'.ds = [] → F'.r 0 = .slice (some ⟨pb, 0, none⟩) w.length m → F'.r 2 = ptr ps 0 → F'.r 4 = ptr pg 0 → F'.r 6 = ptr p1 0 → F'.r 21 = .agg ⟨[bV 100, bV 119]⟩ → F'.r 22 = vint (i : Nat) → F'.r 42 = .bool false →
        SameX (pb :: (X ++ O1)) H4 H5 → (∀ z ∈ O5, z ∈ O1 ∨ H4.length ≤ z) → H5[pb]? = some (.cells cs5 true 0) → cs5.length = m → cs5.take w.length = w.map bV → I (k + off (i + 1)) O5 H5 →
        W prog J 44 H.length 135 (subC [1, 1, 0, 1, 0, 0, 1, 1, 0, 0, 1, 1, 1] (codeOf f135)) F' H5 (contX pl135 prog J 44 H.length 135 ct135 [1, 1, 0, 1, 0, 0, 1, 1, 0, 0, 1, 1, 1] (codeOf f135) [Nx H.length (fun i : Nat => 2 - i) (fun i F H' => ∃ O' cs', i ≤ 2 ∧ SameX (pb :: (X ++ O)) Ha H' ∧ (∀ z ∈ O', z ∈ O ∨ Ha.length ≤ z) ∧ H'[pb]? = some (.cells cs' true 0) ∧ cs'.length = m ∧ cs'.take w.length = w.map bV ∧ I (k + off i) O' H' ∧
        F.ds = [] ∧ F.r 0 = .slice (some ⟨pb, 0, none⟩) w.length m ∧ F.r 2 = ptr ps 0 ∧ F.r 4 = ptr pg 0 ∧ F.r 6 = ptr p1 0 ∧ F.r 21 = .agg ⟨[bV 100, bV 119]⟩ ∧ F.r 22 = vint (i : Nat)) i] (RetQ prog [.tmp 7] H.length K)) := by
      intro F' H5 O5 cs5 ds r0 r2 r4 r6 r21 r22 r42 S5 hO5 cb5 hcl5 htk5 ik5
      rw [s135_2, r42, r22]
      refine cnd_false.2 (addI (by omega) ⟨i + 1, by dsimp only; omega, .inl ⟨O5, cs5, by omega, ?_, fun z hz => ?_, cb5, hcl5, htk5, ik5, ds, r0, r2, r4, r6, r21, by show vint _ = vint _; congr 1⟩⟩)
      · refine (Sc.thru (T4.weak0 (Y := pb :: (X ++ O))) fun _ h => .inl h).thru S5 fun z hz => ?_
        rcases List.mem_cons.1 hz with hz | hz
        · exact .inl (by rw [hz]; exact List.mem_cons_self)
        · rcases List.mem_append.1 hz with hz | hz
          · exact .inl (List.mem_cons_of_mem _ (List.mem_append_left _ hz))
          · rcases hO1 z hz with h | h
            · exact .inl (List.mem_cons_of_mem _ (List.mem_append_right _ h))
            · exact .inr h
      · rcases hO5 z hz with h | h
        · exact hO1 z h
        · exact .inr (by omega)
    have cb4 := T4.get cb1 (by simp)
    have cg4 := T4.get cgc (by simp)
    have lg4 := lt_of_get cg4
    have l9 : p9 < H4.length := lt_of_get c4
    refine ⟨[pg, p9], cndB (fun hyes => ?_) fun hno => hold.2 ?_⟩
    rotate_left
    · have hP0 : P.length = 0 := by show (if nextOk s x c = true then _ else []).length = 0; rw [hno]; rfl
      refine next ds r0 r2 r4 r6 r21 r22 rfl SameX.refl (fun z hz => .inl hz) cb4 hcl1 htk1 ?_
      rw [hP.1, hP0]
      exact ik4
    have hPe : P = growB s left (w ++ [c]) (nextX x c) := by show (if nextOk s x c = true then _ else []) = _; rw [if_pos hyes]
    refine ldI (v := growF ps py pg) cg4 rfl rfl ⟨by simp [RdOk, ptr, ptrBlk], load_part (c := spC (nextX x c)) c4 (by simp [spC]) rfl rfl ⟨by simp [RdOk, ptr, ptrBlk], ?_⟩⟩
    refine ⟨by decide, fillO (l := [bV c]) rfl rfl rfl (by decide) (fillI (qNew fun H5 p5 e5 S5 c5 l5 => ⟨sbTwo S5 lg4 l9 (by simp) (by simp), by decide, ?_⟩))⟩
    have c5 : H5[p5]? = some (.cells [bV c] true 0) := c5
    have y5 := ownX_sli (ownX_new (s := 1) (n := 1) (l := [bV c]) c5 rfl rfl)
    refine appB (S5.get cb4 (by simp)) hcl1 (by omega) (by omega) (by rw [htk1]; exact kn_bV w) y5 fun H6 S6 c6 l6 => ?_
    have T6 : SameX [pb] H4 H6 := S5.weak0.trans S6
    have hT6 := T6.1
    refine ⟨sbTwo T6 lg4 l9 (by simp; omega) (by simp; omega), callCz (by kernel_rfl) ?_⟩
    have hset : (cs1.set w.length (bV c)).take (w.length + 1) = (w ++ [c]).map bV := by
      rw [List.take_add_one, List.take_set_of_le (Nat.le_refl _), htk1, List.getElem?_set_self (by omega)]
      simp
    have hlen : (w ++ [c]).length = w.length + 1 := by simp
    have U6 : SameX [pb] Hc H6 := (T4.weak0).trans T6
    have nx2 : 0 ≤ (nextX x c).2 ∧ (nextX x c).2 ≤ 100 + (w.length + 1 : Nat) := by
      unfold nextX
      split
      · exact ⟨by dsimp only; omega, by dsimp only; omega⟩
      · exact ⟨by dsimp only; omega, by dsimp only; omega⟩
    rw [← hlen]
    refine good135 hJ R ky hm hdays cs0 nX n1 n2 n3 d1 d2 left (w ++ [c]) (nextX x c) (k + off i) O1 (cs1.set w.length (bV c)) (by rw [hlen]; omega) (by rw [hlen]; exact nx2) (by rw [← hPe]; exact hP.2)
      ?_ (U6.get cyc (by simp; omega)) (U6.get cgc (by simp; omega)) c6 (by rw [List.length_set, hcl1]) (by rw [hlen]; exact hset)
      (R.hI ⟨by omega, fun j hj => T6.2 j (by rcases hj with hj | hj; omega; exact R.hO ik4 j hj) (by
        rcases hj with hj | hj
        · simp
          omega
        · have := hOo j hj
          simp
          omega)⟩ ik4) (fun z hz => by have := hOo z hz; omega) (fun H7 O7 cs7 S7 hO7 c7 hc7 ht7 i7 => ?_) fun H7 S7 st => ?_
    · refine (S0.thru T1 fun z hz => ?_).thru U6 (by simp; omega)
      rcases List.mem_cons.1 hz with hz | hz
      · exact .inr (by omega)
      · rcases List.mem_append.1 hz with hz | hz
        · exact .inl hz
        · exact .inr (hO z hz).1
    · have S47 : SameX (pb :: (X ++ O1)) H4 H7 := (T6.weak (by simp)).trans S7
      have tk7 : cs7.take w.length = w.map bV := by
        have : (cs7.take (w.length + 1)).take w.length = cs7.take w.length := by rw [List.take_take, Nat.min_eq_left (by omega)]
        rw [← this, ← hlen, ht7, List.map_append]
        simp
      refine notI (hold.2 (next ds r0 r2 r4 r6 r21 r22 rfl S47 (fun z hz => (hO7 z hz).imp id fun h => by omega) c7 hc7 tk7 ?_))
      rw [hP.1, hPe, ← Nat.add_assoc]
      exact i7
    · refine notI (hold.2 ?_)
      rw [s135_2]
      show cnd (.bool true) _ _
      refine cnd_true.2 ?_
      show retL H.length K F.ds [.bool false] H7
      rw [ds]
      have S47 : SameX (pb :: (X ++ O1)) Hc H7 := (U6.weak (by simp)).trans S7
      refine retL_same (by simp [unk]) (hK2 H7 (T1.thru S47 fun z hz => ?_) st)
      rcases List.mem_cons.1 hz with hz | hz
      · exact .inl (by rw [hz]; exact List.mem_cons_self)
      · rcases List.mem_append.1 hz with hz | hz
        · exact .inl (List.mem_cons_of_mem _ (List.mem_append_left _ hz))
        · rcases hO1 z hz with h | h
          · exact .inl (List.mem_cons_of_mem _ (List.mem_append_right _ h))
          · exact .inr (by have := S1.1; omega)
theorem good125 (hJ : Closed prog main J) {s : SkyR} (hK : ∀ H' ps, SameX [] H H' → H'[ps]? = some (.cells s.cells true 0) → H.length ≤ ps → K (.func (.func 134) ⟨[]⟩ ⟨[ptr ps 0]⟩) H') : Good prog J 125 [.agg ⟨s.cells⟩] H K := by
  refine g125 hJ fun ok => ?_
  rw [e125]
  exact qBox (l := s.cells) rfl fun H1 p1 e1 S1 c1 l1 => ⟨rfl, retL_same (by simp [unk]) (hK H1 p1 S1 c1 (by omega))⟩
theorem good134 (hJ : Closed prog main J) {s : SkyR} (f : skyOk s) {y : Value} {X : List Nat} {ps : Nat} {I : Nat → List Nat → List AObj → Prop} {St : List AObj → Prop} (R : Rnd J (rainsB s) y X H I St) (ky : y.cells = #[y] ∧ one y = true ∧ kn1 y = true)
    (cs0 : H[ps]? = some (.cells s.cells true 0)) (nX : ps ∉ X) (h0 : I 0 [] H)
    (hK1 : ∀ H2 O, SameX X H H2 → (∀ z ∈ O, H.length ≤ z) → I (rainsB s).length O H2 → K (.tuple ⟨[]⟩) H2) (hK2 : ∀ H2, SameX X H H2 → St H2 → K (.tuple ⟨[]⟩) H2) : Good prog J 134 [y, ptr ps 0] H K := by
  refine g134 hJ fun ok => ?_
  rw [e134]
  obtain ⟨f1, f2, f3⟩ := f
  have lps := lt_of_get cs0
  refine qBox1 ky.1 ky.2.1 fun H1 py e1 S1 c1 l1 => qAl fun H2 pg e2 S2 c2 l2 => ⟨rfl, qSt c2 (by simp) rfl rfl fun H3 S3 c3 l3 => ?_⟩
  have c3 : H3[pg]? = some (.cells [growF ps py pg] true 0) := c3
  have T3 : SameX [] H H3 := (S1.trans S2).thru S3 (by simp; omega)
  have cy3 := S3.get (S2.get c1 (by simp)) (by simp; omega)
  have cs3 := T3.get cs0 (by simp)
  have lg := lt_of_get c3
  have ls3 := lt_of_get cs3
  refine ⟨[pg, ps], ldI (v := growF ps py pg) c3 rfl rfl ⟨by simp [RdOk, ptr, ptrBlk], offI (ldI (v := vint s.days) cs3 rfl rfl ⟨by simp [RdOk, ptr, ptrBlk], fillI ⟨by decide, ?_⟩⟩)⟩⟩
  have hrm : (2000 : Nat) < room := by decide
  refine ⟨by omega, by omega, by omega, ?_⟩
  obtain ⟨m, hm⟩ := Int.eq_ofNat_of_zero_le (by omega : (0 : Int) ≤ s.days)
  have em : s.days.toNat = m := by omega
  rw [em]
  generalize hH4 : H3 ++ [AObj.cells (zrep [Value.int .u8 0] m) true 0] = H4
  have c4 : H4[H3.length]? = some (.cells (zrep [Value.int .u8 0] m) true 0) := by rw [← hH4]; simp
  have S4 : SameX [] H3 H4 := by rw [← hH4]; exact SameX.refl.app
  have zl : ∀ n, (zrep [Value.int .u8 0] n).length = n := by
    intro n
    induction n with
    | zero => rfl
    | succ n ih => show ([Value.int .u8 0] ++ zrep [Value.int .u8 0] n).length = n + 1; rw [List.length_append, ih]; simp; omega
  have T4 : SameX [] H H4 := T3.trans S4
  refine ⟨sbTwo S4 lg ls3 (by simp) (by simp), callCz (by kernel_rfl) ?_⟩
  have hT3 := T3.1
  have hr : rainsB s = growB s m [] (0, 0) := by unfold rainsB; rw [em]
  have fin : ∀ {H5 : List AObj} {O : List Nat}, SameX (H3.length :: (X ++ ([] : List Nat))) H4 H5 → SameX X H H5 := fun S5 => by
    refine (T4.weak0 (Y := X)).thru S5 fun z hz => ?_
    rcases List.mem_cons.1 hz with hz | hz
    · exact .inr (by omega)
    · exact .inl (by simpa using hz)
  refine good135 hJ R ky (ps := ps) (py := py) (pg := pg) (pb := H3.length) (m := m) (by omega) hm cs0 nX (by omega) (by omega) (by omega) (by omega) (by omega) m [] (0, 0) 0 [] (zrep [Value.int .u8 0] m) (by simp) ⟨by decide, by decide⟩ (fun j _ => by rw [hr, Nat.zero_add]) (T4.weak0 (Y := X)) (S4.get cy3 (by simp)) (S4.get c3 (by simp)) c4 (zl m) rfl
    (R.hI ⟨T4.1, fun i hi => T4.2 i (by rcases hi with hi | hi; exact hi; cases hi) (by simp)⟩ h0) (by simp) (fun H5 O5 cs5 S5 hO5 c5 hc5 ht5 i5 => ?_) fun H5 S5 st => ?_
  · refine ⟨?_, retL_same (by simp) (hK1 H5 O5 (fin (O := O5) S5) (fun z hz => by rcases hO5 z hz with h | h; cases h; have := S4.1; omega) ?_)⟩
    · exact sbTwo (X := H3.length :: (X ++ [])) ((S4.weak0).trans S5) lg ls3 (by simp; exact ⟨by omega, fun hz => by have := R.hX _ hz; omega⟩) (by simp; exact ⟨by omega, nX⟩)
    · rw [hr]
      simpa using i5
  · refine ⟨?_, retL_same (by simp) (hK2 H5 (fin (O := []) S5) st)⟩
    exact sbTwo (X := H3.length :: (X ++ [])) ((S4.weak0).trans S5) lg ls3 (by simp; exact ⟨by omega, fun hz => by have := R.hX _ hz; omega⟩) (by simp; exact ⟨by omega, nX⟩)
end
def stayH (all from_ days : Nat) (n : Int) : List Int := (List.range all).map fun i => if from_ ≤ i ∧ i < from_ + days then n else 0
def fedB (p : Pas) (heads : List Int) (s : SkyR) : Bool := (rainsB s).all fun w => decide (starvR p heads w < 0)
def stayB (p : Pas) (s : SkyR) (n from_ days : Int) : Bool := fedB p (stayH s.days.toNat from_.toNat days.toNat n) s
def topH (q : Int → Bool) : Nat → Int
  | 0 => 0
  | n + 1 => if q ((n + 1 : Nat) : Int) = true then ((n + 1 : Nat) : Int) else topH q n
def headE (p : Pas) (s : SkyR) (from_ days : Int) : Int :=
  if fst2 (pasE p) (skyE s) ≠ 0 then fst2 (pasE p) (skyE s) else if ¬ (0 ≤ from_ ∧ from_ ≤ s.days - 1) then 3 else if ¬ (1 ≤ days ∧ days ≤ s.days - from_) then 1 else 0
def headN (p : Pas) (s : SkyR) (from_ days : Int) : Int := if headE p s from_ days = 0 then topH (fun n => stayB p s n from_ days) 40 else 0
theorem stayH_len {a f d : Nat} {n : Int} : (stayH a f d n).length = a := by simp [stayH]
theorem stayH_get {a f d i : Nat} {n : Int} (h : i < a) : (stayH a f d n)[i]? = some (if f ≤ i ∧ i < f + d then n else 0) := by
  unfold stayH
  rw [List.getElem?_map, List.getElem?_range h]
  rfl
theorem stayH_getD {a f d i : Nat} {n : Int} (h : i < a) : (stayH a f d n).getD i 0 = if f ≤ i ∧ i < f + d then n else 0 := by
  rw [List.getD_eq_getElem?_getD, stayH_get h]
  rfl
theorem stayH_out {a f d i : Nat} {n : Int} (h : f + d ≤ i) : (stayH a f d n).getD i 0 = 0 := by
  by_cases e : i < a
  · rw [stayH_getD e, if_neg (by omega)]
  · rw [List.getD_eq_getElem?_getD, List.getElem?_eq_none (by rw [stayH_len]; omega)]
    rfl
theorem stayH_zero {a f : Nat} {n : Int} : stayH a f 0 n = List.replicate a 0 := by
  apply List.ext_getElem?
  intro i
  by_cases h : i < a
  · rw [stayH_get h, if_neg (by omega), List.getElem?_replicate, if_pos h]
  · rw [List.getElem?_eq_none (by rw [stayH_len]; omega), List.getElem?_eq_none (by simp; omega)]
theorem stayH_set {a f d : Nat} {n : Int} (h : f + d < a) : (stayH a f d n).set (f + d) n = stayH a f (d + 1) n := by
  apply List.ext_getElem?
  intro i
  rw [List.getElem?_set]
  by_cases e : f + d = i
  · subst e
    rw [if_pos rfl, stayH_len, if_pos h, stayH_get h, if_pos (by omega)]
  · rw [if_neg e]
    by_cases hi : i < a
    · rw [stayH_get hi, stayH_get hi]
      congr 1
      by_cases x : f ≤ i ∧ i < f + d
      · rw [if_pos x, if_pos (by omega)]
      · rw [if_neg x, if_neg (by omega)]
    · rw [List.getElem?_eq_none (by rw [stayH_len]; omega), List.getElem?_eq_none (by rw [stayH_len]; omega)]
theorem stayH_ok {a f d : Nat} {n : Int} (h : 0 ≤ n ∧ n ≤ 40) : headsOk (stayH a f d n) := by
  intro x hx
  unfold stayH at hx
  obtain ⟨i, _, rfl⟩ := List.mem_map.1 hx
  split
  · exact h
  · exact ⟨Int.le_refl _, by decide⟩
theorem stay_after {p : Pas} {a f d : Nat} {n : Int} {w : List UInt8} (fp : pasOk p) (hn : 0 ≤ n ∧ n ≤ 40) {i : Nat} (h : f + d ≤ i) : hungAt p (stayH a f d n) w i = false := by
  unfold hungAt hungR
  rw [stayH_out h]
  have := (stdR_ok (rain := w) fp (stayH_ok (a := a) (f := f) (d := d) hn) i).g
  exact decide_eq_false (by omega)
theorem starv_none {p : Pas} {a f d : Nat} {n : Int} {w : List UInt8} (fp : pasOk p) (hn : 0 ≤ n ∧ n ≤ 40) (h : ∀ i, i < f + d → hungAt p (stayH a f d n) w i = false) : starvR p (stayH a f d n) w < 0 := by
  have : starvR p (stayH a f d n) w = -1 := fstH_none fun i _ => by
    by_cases e : i < f + d
    · exact h i e
    · exact stay_after fp hn (by omega)
  rw [this]
  decide
theorem starv_some {p : Pas} {heads : List Int} {w : List UInt8} {i : Nat} (hi : i < w.length) (h : hungAt p heads w i = true) : ¬ starvR p heads w < 0 := by
  have := fstH_pos (q := hungAt p heads w) h hi
  unfold starvR
  omega
section
variable {main : Bool} {J : JT} {h H : List AObj} {K : Value → List AObj → Prop} {KV : Value → Prop} {HL : List AObj → Prop} {n0 : Nat}
theorem eqlW {t : TypeId} {b : UInt8} (hk : KV (.bool (wetB b))) : aBin prog .eql t (.int .u8 b.toNat) (.int .u8 119) KV := by
  have e119 : (Value.int .u8 119) = .int .u8 (119 : UInt8).toNat := rfl
  rw [e119]
  exact eqlU hk
theorem good126 (hJ : Closed prog main J) {p : Pas} {heads : List Int} {w : List UInt8} {hv : Value} (f : pasOk p) (hh : headsOk heads) (sh : Sli H hv 1 heads.length (heads.map vint)) (hl : w.length ≤ heads.length) (hw : w.length ≤ 1000)
    (hK : ∀ H', SameX [] H H' → K (vint (starvR p heads w)) H') : Good prog J 126 [.agg ⟨p.cells⟩, hv, strV w] H K := by
  refine g126 hJ fun ok => ?_
  rw [e126]
  refine qBox (l := p.cells) rfl fun H1 p1 e1 S1 c1 l1 => load_part (c := p.cells) c1 (by simp [Pas.cells]) rfl rfl ?_
  refine good128 hJ fun H2 m em S2 c2 hm => lenStrI ?_
  refine l126_1 hJ (fun k : Nat => w.length - k) (fun k F H' => k ≤ w.length ∧ SameX [] H H' ∧ H'[m]? = some (.cells (medC p (stdR p heads w k)) true 0) ∧ (∀ i, i < k → hungAt p heads w i = false) ∧ F.ds = [] ∧ F.r 1 = hv ∧ F.r 2 = strV w ∧ F.r 7 = ptr m 0 ∧ F.r 14 = vint (w.length : Nat) ∧ F.r 15 = vint (k : Nat)) ?_ (s := 0)
    (.inl ⟨by omega, S1.trans S2, c2, fun i hi => absurd hi (Nat.not_lt_zero _), rfl, rfl, rfl, rfl, rfl, rfl⟩)
  rintro k F H' ⟨hk, S, cm, hno, ds, r1, r2, r7, r14, r15⟩ okc hnc
  rw [s126_1, r1, r2, r7, r14, r15, ds]
  refine lssI (cndI (fun hlt => ?_) fun hge => ?_)
  rotate_left
  · have : k = w.length := by omega
    subst this
    have := hK H' S
    unfold starvR at this
    rw [fstH_none hno] at this
    exact retL_same (by simp [unk]) this
  have hkl : k < w.length := by omega
  have hx : heads[k]? = some (heads.getD k 0) := by
    rw [List.getD_eq_getElem?_getD, List.getElem?_eq_getElem (by omega)]
    rfl
  have hb : w[k]? = some (w.getD k 0) := by
    rw [List.getD_eq_getElem?_getD, List.getElem?_eq_getElem hkl]
    rfl
  have hbd := headsOk_getD hh k
  refine sliN (S.sli sh (by simp)) hx fun q => byteI hb (eqlW ?_)
  refine good129 hJ cm f (stdR_ok f hh k) ⟨hbd.1, by omega⟩ fun H3 S3 c3 => ext0 (ext1 (cndB (fun hy => ?_) fun hn => ?_))
  · have e : starvR p heads w = (k : Int) := fstH_some hy hno hkl
    have := hK H3 (S.thru S3 (by simp; omega))
    rw [e] at this
    exact retL_same (by simp [unk]) this
  · refine addI (by omega) ⟨k + 1, by dsimp only; omega, .inl ⟨by omega, S.thru S3 (by simp; omega), c3, fun i hi => ?_, ds, r1, r2, r7, r14, by show vint _ = vint _; congr 1⟩⟩
    by_cases e : i = k
    · rw [e]
      exact hn
    · exact hno i (by omega)
noncomputable abbrev lpS (st : LoopState) (pend : Option Code) (r : Nat → Value) (d : Nat) : AObj := .loop st pend 115 r 60 #[35] (subC [1, 0, 1, 1, 1, 1, 0, 1, 0, 0] (codeOf f115)) (subC [1, 0, 1, 1, 1, 1, 0, 1, 0, 1] (codeOf f115)) d
theorem roundS (hJ : Closed prog main J) {l d p5 p8 p9 p11 p13 pl a fr dy : Nat} {R : Nat → Value} {p : Pas} {n : Int} {w : List UInt8} {Q : Value → List AObj → Prop} (f : pasOk p) (hn : 0 ≤ n ∧ n ≤ 40) (ha : a ≤ 8) (hfd : fr + dy ≤ a) (hw : w.length = a)
    (hl : H[l]? = some (lpS .ready none R d)) (r5 : R 5 = ptr p5 0) (r8 : R 8 = ptr p8 0) (r9 : R 9 = ptr p9 0) (r11 : R 11 = ptr p11 0) (r13 : R 13 = ptr p13 0)
    (c5 : H[p5]? = some (.cells p.cells true 0)) (c8 : H[p8]? = some (.cells [vint (fr : Nat)] true 0)) (c9 : H[p9]? = some (.cells [vint (dy : Nat)] true 0)) (c11 : H[p11]? = some (.cells [.slice (some ⟨pl, 0, none⟩) a a] true 0)) (cl : H[pl]? = some (.cells ((stayH a fr dy n).map vint) true 0)) (c13 : H[p13]? = some (.cells [.bool true] true 0))
    (n5 : p5 ≠ l) (n8 : p8 ≠ l) (n9 : p9 ≠ l) (n11 : p11 ≠ l) (n13 : p13 ≠ l) (nl : pl ≠ l)
    (k1 : ∀ H', starvR p (stayH a fr dy n) w < 0 → SameX [l] H H' → H'[l]? = some (lpS .ready none R d) → Q (.bool true) H')
    (k2 : ∀ H', ¬ starvR p (stayH a fr dy n) w < 0 → SameX [l, p13] H H' → H'[l]? = some (lpS .done (some (.exit 2)) R d) → H'[p13]? = some (.cells [.bool false] true 0) → Q (.bool false) H') :
    callV prog (Good prog J) (.func (.yield l) ⟨[]⟩ ⟨[]⟩) [strV w] H Q := by
  show Good prog J (yid prog l) [strV w] H Q
  refine good_round hJ hl rfl (by decide) fun ok => W_sound hJ mixed _ ?_
  rw [a115_2]
  refine ⟨rfl, none, _, _, _, _, _, _, _, hl, W_sound hJ mixed _ ?_⟩
  rw [b115_2]
  have hll := lt_of_get hl
  have hl3 : (H.set l (lpS .busy none R d))[l]? = some (lpS .busy none R d) := List.getElem?_set_self hll
  have S3 : SameX [l] H (H.set l (lpS .busy none R d)) := SameX.refl.set (.inl (by simp))
  generalize H.set l (lpS .busy none R d) = H3 at hl3 S3
  have hsl := S3.1
  show aLoad true 6 (R 5) _ _
  rw [r5]
  refine load_part (c := p.cells) (S3.get c5 (by simpa using n5)) (by simp [Pas.cells]) rfl rfl ?_
  refine good128 hJ fun H4 m em S4 c4 hm => ?_
  have S04 : SameX [l] H H4 := S3.trans S4.weak0
  show aLoad false 1 (R 8) _ _
  rw [r8]
  refine ldI (v := vint (fr : Nat)) (S04.get c8 (by simpa using n8)) rfl rfl ?_
  show aLoad false 1 (R 9) _ _
  rw [r9]
  refine ldI (v := vint (dy : Nat)) (S04.get c9 (by simpa using n9)) rfl rfl (addI (by omega) ?_)
  have hho := stayH_ok (a := a) (f := fr) (d := dy) hn
  have e5 : ((fr : Nat) : Int) + ((dy : Nat) : Int) = ((fr + dy : Nat) : Int) := by omega
  rw [e5]
  have h3 : H.length ≤ m := by omega
  have hl4 := S4.get hl3 (by simp)
  refine l115_3 hJ (fun k : Nat => fr + dy - k) (fun k F H' => k ≤ fr + dy ∧ SameX [m] H4 H' ∧ H'[m]? = some (.cells (medC p (stdR p (stayH a fr dy n) w k)) true 0) ∧ (∀ i, i < k → hungAt p (stayH a fr dy n) w i = false) ∧ F.r 11 = ptr p11 0 ∧ F.r 13 = ptr p13 0 ∧ F.r 14 = strV w ∧ F.r 15 = ptr m 0 ∧ F.r 40 = vint ((fr + dy : Nat) : Int) ∧ F.r 41 = vint (k : Nat)) ?_ (s := 0)
    (.inl ⟨by omega, SameX.refl, c4, fun i hi => absurd hi (Nat.not_lt_zero _), r11, r13, rfl, rfl, rfl, rfl⟩)
  rintro k F H' ⟨hk, S, cm, hno, q11, q13, q14, q15, q40, q41⟩ okc hnc
  rw [s115_3, q11, q13, q14, q15, q40, q41]
  have T : SameX [l] H H' := S04.thru S (by simp; omega)
  have hlH : H'[l]? = some (lpS .busy none R d) := S.get hl4 (by simp; omega)
  have hll' := lt_of_get hlH
  have d11 := T.get c11 (by simpa using n11)
  have dl := T.get cl (by simpa using nl)
  have l11 := lt_of_get c11
  have ll := lt_of_get cl
  have hT := T.1
  refine lssI (cndI (fun hlt => ?_) fun hge => ?_)
  rotate_left
  · have : k = fr + dy := by omega
    subst this
    refine ⟨.busy, none, _, _, _, _, _, _, _, hlH, .inl (k1 _ (starv_none f hn hno) (T.set (.inl (by simp))) (List.getElem?_set_self hll'))⟩
  have hka : k < a := by omega
  have hb : w[k]? = some (w.getD k 0) := by
    rw [List.getD_eq_getElem?_getD, List.getElem?_eq_getElem (by omega)]
    rfl
  have hbd := headsOk_getD hho k
  refine ⟨[p11, pl], ldI (v := .slice (some ⟨pl, 0, none⟩) a a) d11 rfl rfl ⟨by simp [RdOk, ptr, ptrBlk], idxI ⟨by omega, by omega⟩ ?_⟩⟩
  have hx : ((stayH a fr dy n).map vint)[0 + ((k : Nat) : Int).toNat * 1]? = some (vint ((stayH a fr dy n).getD k 0)) := by
    rw [Int.toNat_natCast, Nat.mul_one, Nat.zero_add, List.getElem?_map, stayH_get hka, stayH_getD hka]
    rfl
  refine ldI (v := vint ((stayH a fr dy n).getD k 0)) dl hx rfl ⟨by simp [RdOk, ptr, ptrBlk], byteI hb (eqlW ?_)⟩
  refine good129 hJ cm f (stdR_ok f hho k) ⟨hbd.1, by omega⟩ fun H8 S8 c8' => ⟨sbTwo S8 (by omega) (by omega) (by simp; omega) (by simp; omega), ext0 (ext1 (cndB (fun hy => ?_) fun hno' => ?_))⟩
  · have T8 : SameX [l] H H8 := T.thru S8 (by simp; omega)
    refine qSt (T8.get c13 (by simpa using n13)) (by simp) rfl rfl fun H9 S9 c9' l9 => ?_
    have hl8 := S8.get hlH (by simp; omega)
    have hl9 := S9.get hl8 (by simpa using n13.symm)
    have hll9 := lt_of_get hl9
    refine ⟨.busy, none, _, _, _, _, _, _, _, hl9, .inl (k2 _ (starv_some (i := k) (by omega) hy) ?_ (List.getElem?_set_self hll9) (get_set c9' n13))⟩
    exact ((T8.weak (by simp)).trans (S9.weak (by simp))).set (.inl (by simp))
  · refine addI (by omega) ⟨k + 1, by dsimp only; omega, .inl ⟨by omega, S.trans S8, c8', fun i hi => ?_, q11, q13, q14, q15, q40, by show vint _ = vint _; congr 1⟩⟩
    by_cases e : i = k
    · rw [e]
      exact hno'
    · exact hno i (by omega)
theorem good115 (hJ : Closed prog main J) {p : Pas} {s : SkyR} {n : Int} {fr dy : Nat} (f : pasOk p) (g : skyOk s) (hn : 0 ≤ n ∧ n ≤ 40) (hfd : ((fr + dy : Nat) : Int) ≤ s.days)
    (hK : ∀ H', SameX [] H H' → K (.bool (stayB p s n fr dy)) H') : Good prog J 115 [.agg ⟨p.cells⟩, .agg ⟨s.cells⟩, vint n, vint (fr : Nat), vint (dy : Nat)] H K := by
  refine g115 hJ fun ok => ?_
  rw [e115]
  obtain ⟨g1, g2, g3⟩ := id g
  obtain ⟨a, ha⟩ := Int.eq_ofNat_of_zero_le (by omega : (0 : Int) ≤ s.days)
  have ea : s.days.toNat = a := by omega
  refine qBox (l := p.cells) rfl fun H1 p5 e1 S1 c5 l1 => qBox (l := s.cells) rfl fun H2 p6 e2 S2 c6 l2 => qBox1 rfl rfl fun H3 p8 e3 S3 c8 l3 => qBox1 rfl rfl fun H4 p9 e4 S4 c9 l4 => ?_
  have c64 := S4.get (S3.get c6 (by simp)) (by simp)
  refine offI (ldI (v := vint s.days) c64 rfl rfl ⟨by decide, ?_⟩)
  have hrm : (2000 : Nat) < room := by decide
  refine ⟨by omega, Int.le_refl _, by omega, ?_⟩
  rw [ea]
  have zl : ∀ k, zrep [vint 0] k = (List.replicate k (0 : Int)).map vint := by
    intro k
    induction k with
    | zero => rfl
    | succ k ih =>
      show [vint 0] ++ zrep [vint 0] k = _
      rw [ih, List.replicate_succ]
      rfl
  generalize hH5 : H4 ++ [AObj.cells (zrep [vint 0] a) true 0] = H5
  have c4l : H5[H4.length]? = some (.cells ((stayH a fr 0 n).map vint) true 0) := by rw [← hH5, zl, stayH_zero]; simp
  have S5 : SameX [] H4 H5 := by rw [← hH5]; exact SameX.refl.app
  have hl5 : H5.length = H4.length + 1 := by rw [← hH5]; simp
  generalize hpl : H4.length = pl at c4l hl5
  refine qAl fun H6 p11 e6 S6 c11 l6 => qSt c11 (by simp) rfl rfl fun H7 S7 c11' l7 => ?_
  have c11' : H7[p11]? = some (.cells [.slice (some ⟨pl, 0, none⟩) a a] true 0) := c11'
  have S57 : SameX [] H5 H7 := S6.thru S7 (by simp; omega)
  have S47 : SameX [] H4 H7 := S5.trans S57
  have T7 : SameX [] H H7 := (((S1.trans S2).trans S3).trans S4).trans S47
  have d9 := S47.get c9 (by simp)
  have d8 := S47.get (S4.get c8 (by simp)) (by simp)
  have d6 := S47.get c64 (by simp)
  have d5 := S47.get (S4.get (S3.get (S2.get c5 (by simp)) (by simp)) (by simp)) (by simp)
  have dl := S57.get c4l (by simp)
  refine ldI (v := vint (dy : Nat)) d9 rfl rfl ?_
  refine l115_1 hJ (fun i : Nat => dy - i) (fun i F H' => i ≤ dy ∧ SameX [pl] H7 H' ∧ H'[pl]? = some (.cells ((stayH a fr i n).map vint) true 0) ∧ F.ds = [] ∧ F.r 2 = vint n ∧ F.r 5 = ptr p5 0 ∧ F.r 6 = ptr p6 0 ∧ F.r 8 = ptr p8 0 ∧ F.r 9 = ptr p9 0 ∧ F.r 11 = ptr p11 0 ∧ F.r 22 = vint (dy : Nat) ∧ F.r 23 = vint (i : Nat)) ?_ (s := 0)
    (.inl ⟨by omega, SameX.refl, dl, rfl, rfl, rfl, rfl, rfl, rfl, rfl, rfl, rfl⟩)
  rintro i F H' ⟨hi, S, cl, ds, r2, r5, r6, r8, r9, r11, r22, r23⟩ okc hnc
  rw [s115_1, r2, r6, r8, r11, r22, r23]
  have n8 : p8 ≠ pl := by omega
  have x11 := S.get c11' (by simp; omega)
  have x8 := S.get d8 (by simp; omega)
  refine lssI (cndI (fun hlt => ?_) fun hge => ?_)
  · refine ldI (v := .slice (some ⟨pl, 0, none⟩) a a) x11 rfl rfl (ldI (v := vint (fr : Nat)) x8 rfl rfl (addI (by omega) (idxI ⟨by omega, by omega⟩ ?_)))
    have e1 : 0 + (((fr : Nat) : Int) + ((i : Nat) : Int)).toNat * 1 = fr + i := by omega
    rw [e1]
    refine qSt cl (by simp [stayH_len]; omega) rfl rfl fun H8 S8 c8' l8 => addI (by omega) ⟨i + 1, by dsimp only; omega, .inl ⟨by omega, S.trans S8, ?_, ds, r2, r5, r6, r8, r9, r11, r22, by show vint _ = vint _; congr 1⟩⟩
    rw [c8', ← List.map_set, stayH_set (by omega)]
  have hid : i = dy := by omega
  subst hid
  -- the rains
  have hS := S.1
  refine qAl fun H8 p13 e8 S8 c13 l8 => qSt c13 (by simp) rfl rfl fun H9 S9 c13' l9 => ?_
  have c13' : H9[p13]? = some (.cells [.bool true] true 0) := c13'
  have S79 : SameX [] H' H9 := S8.thru S9 (by simp; omega)
  have S69 : SameX [pl] H7 H9 := S.trans S79.weak0
  refine load_part (c := s.cells) (S69.get d6 (by simp; omega)) (by simp [SkyR.cells]) rfl rfl ?_
  refine good125 hJ fun H10 ps S10 cs10 gs => ?_
  have T10 : SameX [pl] H7 H10 := S69.trans S10.weak0
  have TH : SameX [] H H10 := T7.thru T10 (by simp; omega)
  refine l115_2 hJ (first := []) (cap := [ptr ps 0]) rfl (by decide) ?_
  obtain ⟨R, hRe⟩ : ∃ R : RG, R = RG.p (RG.p (RG.p (RG.p F 24 (.bool (decide (((i : Nat) : Int) < ((i : Nat) : Int))))) 13 (ptr p13 0)) 33 (.agg ⟨s.cells⟩)) 34 (.func (.func 134) ⟨[]⟩ ⟨[ptr ps 0]⟩) := ⟨_, rfl⟩
  rw [← hRe]
  have R5 : R.r 5 = ptr p5 0 := by subst hRe; exact r5
  have R8 : R.r 8 = ptr p8 0 := by subst hRe; exact r8
  have R9 : R.r 9 = ptr p9 0 := by subst hRe; exact r9
  have R11 : R.r 11 = ptr p11 0 := by subst hRe; exact r11
  have R13 : R.r 13 = ptr p13 0 := by subst hRe; rfl
  have Rds : R.ds = [] := by subst hRe; exact ds
  clear hRe
  have hl11 : (H10 ++ [AObj.deferred] ++ [lpS .ready none R.r H10.length])[H10.length + 1]? = some (lpS .ready none R.r H10.length) := by
    rw [List.append_assoc]
    simp
  have hd11 : (H10 ++ [AObj.deferred] ++ [lpS .ready none R.r H10.length])[H10.length]? = some .deferred := by
    rw [List.append_assoc]
    simp
  have hln : (H10 ++ [AObj.deferred] ++ [lpS .ready none R.r H10.length]).length = H10.length + 2 := by simp
  have S11 : SameX [] H10 (H10 ++ [AObj.deferred] ++ [lpS .ready none R.r H10.length]) := SameX.refl.app.app
  generalize hH11 : H10 ++ [AObj.deferred] ++ [lpS .ready none R.r H10.length] = H11 at hl11 hd11 hln S11
  have U : SameX [pl] H7 H11 := T10.trans S11.weak0
  have UH : SameX [] H H11 := TH.trans S11
  have w13 : H11[p13]? = some (.cells [.bool true] true 0) := S11.get (S10.get c13' (by simp)) (by simp)
  have wl : H11[pl]? = some (.cells ((stayH a fr i n).map vint) true 0) := S11.get (S10.get (S79.get cl (by simp)) (by simp)) (by simp)
  have w5 := U.get d5 (by simp; omega)
  have w8 := U.get d8 (by simp; omega)
  have w9 := U.get d9 (by simp; omega)
  have w11 := U.get c11' (by simp; omega)
  have ws : H11[ps]? = some (.cells s.cells true 0) := S11.get cs10 (by simp)
  have b5 := lt_of_get d5
  have b8 := lt_of_get d8
  have b9 := lt_of_get d9
  have b11 := lt_of_get c11'
  have bl := lt_of_get dl
  have b13 := lt_of_get c13'
  have bs := lt_of_get cs10
  have h10 := S10.1
  have fin : ∀ {b : Bool} {H' : List AObj} {pend : Option Code}, b = stayB p s n fr i → SameX [H10.length + 1, p13] H11 H' → H'[p13]? = some (.cells [.bool b] true 0) → (H'[H10.length + 1]? = some (lpS .ready none R.r H10.length) ∨ H'[H10.length + 1]? = some (lpS .done (some (.exit 2)) R.r H10.length)) →
      ∀ v, endQ H10.length R (contX pl115 prog J 60 H.length 115 ct115 [1, 0, 1, 1, 1, 1, 0, 1, 0] (codeOf f115) [] (RetQ prog [.tmp 10] H.length K)) v H' := by
    intro b H' pend hb S h13 hl v
    have hd' := S.get hd11 (by simp; omega)
    have hfin : retL H.length K [H10.length] [.bool b] (H'.set (H10.length + 1) .dead) := by
      refine retLdef (get_set hd' (by omega)) (by simp [unk]) ?_
      rw [hb]
      exact hK _ (((UH.thru S (by simp; omega)).set (.inr (by omega))).set (.inr (by omega)))
    rcases hl with hl | hl
    · refine endQnorm hl (by simp) ?_
      rw [c115_2]
      show aLoad false 1 (R.r 13) _ _
      rw [R13, Rds]
      exact ldI (v := .bool b) (get_set h13 (by omega)) rfl rfl hfin
    · refine endQexit hl (by simp) ?_
      rw [c115_2x2]
      show aLoad false 1 (R.r 13) _ _
      rw [R13, Rds]
      exact ldI (v := .bool b) (get_set h13 (by omega)) rfl rfl hfin
  have es : stayB p s n fr i = (rainsB s).all fun w => decide (starvR p (stayH a fr i n) w < 0) := by
    unfold stayB fedB
    rw [ea, Int.toNat_natCast, Int.toNat_natCast]
  have RD : Rnd J (rainsB s) (.func (.yield (H10.length + 1)) ⟨[]⟩ ⟨[]⟩) [H10.length + 1, p13] H11
      (fun k O H' => O = [] ∧ H'[H10.length + 1]? = some (lpS .ready none R.r H10.length) ∧ H'[p13]? = some (.cells [.bool true] true 0) ∧ ∀ j w, j < k → (rainsB s)[j]? = some w → starvR p (stayH a fr i n) w < 0)
      (fun H' => H'[H10.length + 1]? = some (lpS .done (some (.exit 2)) R.r H10.length) ∧ H'[p13]? = some (.cells [.bool false] true 0) ∧ ∃ w ∈ rainsB s, ¬ starvR p (stayH a fr i n) w < 0) := by
    refine ⟨by simp; omega, fun h => by rw [h.1]; simp, fun T hi => ⟨hi.1, by rw [T.2 _ (.inl (by omega))]; exact hi.2.1, by rw [T.2 _ (.inl (by omega))]; exact hi.2.2.1, hi.2.2.2⟩, ?_⟩
    rintro k w O Ha Q hw Sa _ ⟨rfl, i1, i2, i3⟩ q1 q2
    have hwl := rainsB_len (List.mem_of_getElem? hw)
    have ga : ∀ {q : Nat} {o : AObj}, H11[q]? = some o → q ≠ H10.length + 1 → q ≠ p13 → Ha[q]? = some o := fun hq h1 h2 => Sa.get hq (by simp; exact ⟨h1, h2⟩)
    refine roundS hJ (a := a) (fr := fr) (dy := i) (pl := pl) f hn (by omega) (by omega) (by rw [hwl, ea]) i1 R5 R8 R9 R11 R13 (ga w5 (by omega) (by omega)) (ga w8 (by omega) (by omega)) (ga w9 (by omega) (by omega)) (ga w11 (by omega) (by omega)) (ga wl (by omega) (by omega)) i2 (by omega) (by omega) (by omega) (by omega) (by omega) (by omega) (fun Hb hs Sb hlb => ?_) fun Hb hs Sb hlb h13 => ?_
    · refine q1 [] Hb (Sb.weak (by simp)) (by simp) ⟨rfl, hlb, Sb.get i2 (by simp; omega), fun j u hj hu => ?_⟩
      by_cases e : j = k
      · rw [e, hw] at hu
        injection hu with hu
        rw [← hu]
        exact hs
      · exact i3 j u (by omega) hu
    · exact q2 Hb (Sb.weak (by simp)) ⟨hlb, h13, w, List.mem_of_getElem? hw, hs⟩
  refine good134 hJ g RD ⟨rfl, rfl, rfl⟩ ws (by simp; omega) ⟨rfl, hl11, w13, fun j w hj => absurd hj (Nat.not_lt_zero _)⟩ (fun Hb O Sb _ hi => ?_) fun Hb Sb st => ?_
  · obtain ⟨_, i1, i2, i3⟩ := hi
    refine fin (b := true) (pend := none) ?_ Sb i2 (.inl i1) _
    rw [es, eq_comm, List.all_eq_true]
    intro w hw
    obtain ⟨j, hj, e⟩ := List.mem_iff_getElem.1 hw
    exact decide_eq_true (i3 j w hj (by rw [List.getElem?_eq_getElem hj, e]))
  · obtain ⟨i1, i2, w, hw, hs⟩ := st
    refine fin (b := false) (pend := none) ?_ Sb i2 (.inr i1) _
    rw [es, eq_comm, List.all_eq_false]
    exact ⟨w, hw, by rw [decide_eq_false hs]; decide⟩
theorem topH_yes {q : Int → Bool} {m : Nat} (h : q m = true) : ∀ {N : Nat}, m ≤ N → (∀ k : Nat, m < k → k ≤ N → q k = false) → topH q N = m
  | 0, hm, _ => by
    have : m = 0 := by omega
    subst this
    rfl
  | N + 1, hm, hno => by
    unfold topH
    by_cases e : m = N + 1
    · subst e
      rw [if_pos h]
    · rw [if_neg (by rw [hno (N + 1) (by omega) (Nat.le_refl _)]; decide)]
      exact topH_yes h (by omega) fun k h1 h2 => hno k h1 (by omega)
theorem topH_none {q : Int → Bool} : ∀ {N : Nat}, (∀ k : Nat, 0 < k → k ≤ N → q k = false) → topH q N = 0
  | 0, _ => rfl
  | N + 1, hno => by
    unfold topH
    rw [if_neg (by rw [hno (N + 1) (by omega) (Nat.le_refl _)]; decide)]
    exact topH_none fun k h1 h2 => hno k h1 (by omega)
theorem good78 (hJ : Closed prog main J) {p : Pas} {s : SkyR} {fr dy : Int} (hK : ∀ H', SameX [] H H' → K (.tuple ⟨[vint (headN p s fr dy), vint (headE p s fr dy)]⟩) H') : Good prog J 78 [.agg ⟨p.cells⟩, .agg ⟨s.cells⟩, vint fr, vint dy] H K := by
  refine g78 hJ fun ok => ?_
  rw [e78]
  refine qBox (l := p.cells) rfl fun H1 p4 e1 S1 c4 l1 => qBox (l := s.cells) rfl fun H2 p5 e2 S2 c5 l2 => ?_
  have c42 := S2.get c4 (by simp)
  have T2 := S1.trans S2
  have b4 := lt_of_get c42
  have b5 := lt_of_get c5
  refine ⟨[p4, p5], load_part (c := p.cells) c42 (by simp [Pas.cells]) rfl rfl ⟨by simp [RdOk, ptr, ptrBlk], load_part (c := s.cells) c5 (by simp [SkyR.cells]) rfl rfl ⟨by simp [RdOk, ptr, ptrBlk], ?_⟩⟩⟩
  have sb : ∀ {H'}, SameX [] H2 H' → SameB (some [p4, p5]) H2 H' := fun S => sbTwo S b4 b5 (by simp) (by simp)
  refine good112 hJ ⟨sb SameX.refl, good113 hJ ⟨sb SameX.refl, by decide, fillP2 ⟨rfl, rfl⟩ ⟨rfl, rfl⟩ (qNew fun H3 p3 e3 S3 c3 l3 => ⟨sb S3, ?_⟩)⟩⟩
  refine good111 hJ (ownX_sli (ownX_new (s := 1) (n := 2) c3 rfl rfl)) ⟨sb S3, ?_⟩
  have T3 := T2.trans S3
  have c43 := S3.get c42 (by simp)
  have c53 := S3.get c5 (by simp)
  have fin : ∀ {e : Int} {H' : List AObj}, headE p s fr dy = e → e ≠ 0 → SameX [] H H' → retL H.length K [] [vint 0, vint e] H' := fun he h0 S => by
    have := hK _ S
    unfold headN at this
    rw [if_neg (by omega), he] at this
    exact retL_same (nu2 (by simp [unk]) (by simp [unk])) this
  refine neqI (cndI (fun h1 => fin ?_ h1 T3) fun h1 => ?_)
  · unfold headE; rw [if_pos h1]
  have hf : fst2 (pasE p) (skyE s) = 0 := by omega
  have f : pasOk p := by
    unfold fst2 at hf
    by_cases x : pasE p ≠ 0
    · rw [if_pos x] at hf
      exact absurd hf x
    · unfold pasE at x
      split at x
      · assumption
      · exact absurd (by decide) x
  have g : skyOk s := by
    unfold fst2 at hf
    by_cases x : pasE p ≠ 0
    · rw [if_pos x] at hf
      exact absurd hf x
    · rw [if_neg x] at hf
      unfold skyE at hf
      split at hf
      · assumption
      · cases hf
  obtain ⟨g1, g2, g3⟩ := id g
  refine offI (ldI (v := vint s.days) c53 rfl rfl (subI (by omega) (good114 hJ (notI (cndN (fun h2 => fin ?_ (by decide) T3) fun h2 => ?_)))))
  · unfold headE; rw [if_neg h1, if_pos h2]
  refine offI (ldI (v := vint s.days) c53 rfl rfl (subI (by omega) (good114 hJ (notI (cndN (fun h3 => fin ?_ (by decide) T3) fun h3 => ?_)))))
  · unfold headE; rw [if_neg h1, if_neg (not_not_intro h2), if_pos h3]
  have h0 : headE p s fr dy = 0 := by unfold headE; rw [if_neg h1, if_neg (not_not_intro h2), if_neg (not_not_intro h3)]
  obtain ⟨a, rfl⟩ := Int.eq_ofNat_of_zero_le (by omega : (0 : Int) ≤ fr)
  obtain ⟨b, rfl⟩ := Int.eq_ofNat_of_zero_le (by omega : (0 : Int) ≤ dy)
  refine l78_1 hJ (fun m : Nat => m) (fun m F H' => m ≤ 40 ∧ SameX [] H3 H' ∧ (∀ k : Nat, m < k → k ≤ 40 → stayB p s k (a : Nat) (b : Nat) = false) ∧ F.ds = [] ∧ F.r 2 = vint (a : Nat) ∧ F.r 3 = vint (b : Nat) ∧ F.r 4 = ptr p4 0 ∧ F.r 5 = ptr p5 0 ∧ F.r 11 = vint (m : Nat)) ?_ (s := 40)
    (.inl ⟨by omega, SameX.refl, fun k h1 h2 => absurd h1 (by omega), rfl, rfl, rfl, rfl, rfl, rfl⟩)
  rintro m F H' ⟨hm, S, hno, ds, r2, r3, r4, r5, r11⟩ okc hnc
  rw [s78_1, r2, r3, r4, r5, r11]
  have last : headN p s (a : Nat) (b : Nat) = m → retL H.length K [] [vint (m : Nat), vint 0] H' := fun he => by
    have := hK H' (T3.trans S)
    rw [he, h0] at this
    exact retL_same (nu2 (by simp [unk]) (by simp [unk])) this
  refine gtrI (cndI (fun hpos => ?_) fun hz => hold.2 ?_)
  · refine load_part (c := p.cells) (S.get c43 (by simp)) (by simp [Pas.cells]) rfl rfl (load_part (c := s.cells) (S.get c53 (by simp)) (by simp [SkyR.cells]) rfl rfl ?_)
    refine good115 hJ f g (by omega) (by omega) fun H4 S4 => notI (hold.2 ?_)
    rw [s78_2]
    show cnd (.bool (!stayB p s m (a : Nat) (b : Nat))) _ _
    refine cndB (fun hst => ?_) fun hst => ?_
    · have hst : stayB p s m (a : Nat) (b : Nat) = false := by simpa using hst
      show aBin prog .sub 3 (F.r 11) (vint 1) _
      rw [r11]
      refine subI (by omega) ⟨m - 1, by dsimp only; omega, .inl ⟨by omega, S.trans S4, fun k h1 h2 => ?_, ds, r2, r3, r4, r5, by show vint _ = vint _; congr 1; omega⟩⟩
      by_cases e : k = m
      · rw [e]
        exact hst
      · exact hno k (by omega) h2
    · have hst : stayB p s m (a : Nat) (b : Nat) = true := by simpa using hst
      show retL H.length K F.ds [F.r 11, vint 0] H4
      rw [ds, r11]
      have := hK H4 ((T3.trans S).trans S4)
      unfold headN at this
      rw [if_pos h0, topH_yes (q := fun n => stayB p s n (a : Nat) (b : Nat)) hst hm hno, h0] at this
      exact retL_same (nu2 (by simp [unk]) (by simp [unk])) this
  · have : m = 0 := by omega
    subst this
    rw [s78_2]
    show cnd (.bool false) _ _
    refine cnd_false.2 ?_
    show retL H.length K F.ds [F.r 11, vint 0] H'
    rw [ds, r11]
    refine last ?_
    unfold headN
    rw [if_pos h0]
    exact topH_none fun k h1 h2 => hno k (by omega) h2
end
def ckdE (p : Pas) (heads : List Int) (s : SkyR) : Int := if fst2 (pasE p) (skyE s) ≠ 0 then fst2 (pasE p) (skyE s) else hunE heads s.days
theorem fst2_zero {p : Pas} {s : SkyR} (h : fst2 (pasE p) (skyE s) = 0) : pasOk p ∧ skyOk s := by
  unfold fst2 at h
  by_cases x : pasE p ≠ 0
  · rw [if_pos x] at h
    exact absurd h x
  · rw [if_neg x] at h
    refine ⟨?_, ?_⟩
    · unfold pasE at x
      split at x
      · assumption
      · exact absurd (by decide) x
    · unfold skyE at h
      split at h
      · assumption
      · cases h
theorem ckdE_zero {p : Pas} {heads : List Int} {s : SkyR} (h : ckdE p heads s = 0) : pasOk p ∧ skyOk s ∧ headsOk heads ∧ (heads.length : Int) = s.days := by
  unfold ckdE at h
  split at h
  · rename_i x
    exact absurd h x
  · rename_i x
    obtain ⟨f, g⟩ := fst2_zero (p := p) (s := s) (by omega)
    unfold hunE at h
    split at h
    · rename_i y
      exact absurd h y
    · rename_i y
      split at h
      · rename_i hh
        refine ⟨f, g, hh, ?_⟩
        unfold cntE at y
        split at y
        · exact absurd (by decide) y
        · split at y
          · exact absurd (by decide) y
          · omega
      · cases h
def feedN (p : Pas) (heads : List Int) (s : SkyR) : Int := if ckdE p heads s ≠ 0 then 0 else if fedB p heads s = true then 1 else if (rainsB s).any (fun w => decide (starvR p heads w < 0)) = true then 3 else 2
section
variable {main : Bool} {J : JT} {h H : List AObj} {K : Value → List AObj → Prop} {KV : Value → Prop} {HL : List AObj → Prop} {n0 : Nat}
theorem sliValZ {v : Value} {s n : Nat} {cs : List Value} (hs : Sli h v s n cs) : v.cells = #[v] ∧ one v = true ∧ kn1 v = true := by
  obtain ⟨base, c, rfl, _⟩ := hs
  exact ⟨rfl, rfl, rfl⟩
theorem good124 (hJ : Closed prog main J) {p : Pas} {s : SkyR} {hs : List Int} {hv : Value} (sh : Sli H hv 1 hs.length (hs.map vint)) (hl : hs.length < 1000000) (hK : ∀ H', SameX [] H H' → K (vint (ckdE p hs s)) H') : Good prog J 124 [.agg ⟨p.cells⟩, hv, .agg ⟨s.cells⟩] H K := by
  refine g124 hJ fun ok => ?_
  rw [e124]
  refine qBox (l := p.cells) rfl fun H1 p4 e1 S1 c4 l1 => qBox (l := s.cells) rfl fun H2 p5 e2 S2 c5 l2 => ?_
  have c42 := S2.get c4 (by simp)
  have T2 := S1.trans S2
  have b4 := lt_of_get c42
  have b5 := lt_of_get c5
  refine ⟨[p4, p5], load_part (c := p.cells) c42 (by simp [Pas.cells]) rfl rfl ⟨by simp [RdOk, ptr, ptrBlk], load_part (c := s.cells) c5 (by simp [SkyR.cells]) rfl rfl ⟨by simp [RdOk, ptr, ptrBlk], ?_⟩⟩⟩
  have sb : ∀ {H'}, SameX [] H2 H' → SameB (some [p4, p5]) H2 H' := fun S => sbTwo S b4 b5 (by simp) (by simp)
  refine good112 hJ ⟨sb SameX.refl, good113 hJ ⟨sb SameX.refl, by decide, fillP2 ⟨rfl, rfl⟩ ⟨rfl, rfl⟩ (qNew fun H3 p3 e3 S3 c3 l3 => ⟨sb S3, ?_⟩)⟩⟩
  refine good111 hJ (ownX_sli (ownX_new (s := 1) (n := 2) c3 rfl rfl)) ⟨sb S3, ?_⟩
  have T3 := T2.trans S3
  have c53 := S3.get c5 (by simp)
  have k := hK H3 T3
  refine neqI (cndI (fun h1 => ?_) fun h1 => ?_)
  · unfold ckdE at k
    rw [if_pos h1] at k
    exact retL_same (by simp [unk]) k
  · refine offI (ldI (v := vint s.days) c53 rfl rfl (good133 hJ (T3.sli sh (by simp)) hl ?_))
    unfold ckdE at k
    rw [if_neg h1] at k
    exact retL_same (by simp [unk]) k
noncomputable abbrev lpF (st : LoopState) (pend : Option Code) (r : Nat → Value) (d : Nat) : AObj := .loop st pend 106 r 33 #[21] (subC [1, 1, 1, 0, 1, 0, 0] (codeOf f106)) (subC [1, 1, 1, 0, 1, 0, 1] (codeOf f106)) d
theorem roundF (hJ : Closed prog main J) {l d p3 p4 p9 p10 : Nat} {R : Nat → Value} {p : Pas} {hs : List Int} {hv : Value} {w : List UInt8} {x y : Bool} {Q : Value → List AObj → Prop} (f : pasOk p) (hh : headsOk hs) (hw : w.length ≤ hs.length) (hw2 : w.length ≤ 1000)
    (sh : Sli (H.set l (lpF .busy none R d)) hv 1 hs.length (hs.map vint)) (kv : kn1 hv = true)
    (hl : H[l]? = some (lpF .ready none R d)) (r3 : R 3 = ptr p3 0) (r4 : R 4 = ptr p4 0) (r9 : R 9 = ptr p9 0) (r10 : R 10 = ptr p10 0)
    (c3 : H[p3]? = some (.cells p.cells true 0)) (c4 : H[p4]? = some (.cells [hv] true 0)) (c9 : H[p9]? = some (.cells [.bool x] true 0)) (c10 : H[p10]? = some (.cells [.bool y] true 0))
    (n3 : p3 ≠ l) (n4 : p4 ≠ l) (n9 : p9 ≠ l) (n10 : p10 ≠ l) (n : p9 ≠ p10)
    (k : ∀ H', SameX [l, p9, p10] H H' → H'[l]? = some (lpF .ready none R d) → H'[p9]? = some (.cells [.bool (x || decide (starvR p hs w < 0))] true 0) → H'[p10]? = some (.cells [.bool (y || !decide (starvR p hs w < 0))] true 0) → Q (.bool true) H') :
    callV prog (Good prog J) (.func (.yield l) ⟨[]⟩ ⟨[]⟩) [strV w] H Q := by
  show Good prog J (yid prog l) [strV w] H Q
  refine good_round hJ hl rfl (by decide) fun ok => W_sound hJ mixed _ ?_
  rw [a106_1]
  refine ⟨rfl, none, _, _, _, _, _, _, _, hl, W_sound hJ mixed _ ?_⟩
  rw [b106_1]
  have hll := lt_of_get hl
  have hl3 : (H.set l (lpF .busy none R d))[l]? = some (lpF .busy none R d) := List.getElem?_set_self hll
  have S3 : SameX [l] H (H.set l (lpF .busy none R d)) := SameX.refl.set (.inl (by simp))
  generalize H.set l (lpF .busy none R d) = H3 at hl3 S3 sh
  show aLoad true 6 (R 3) _ _
  rw [r3]
  refine load_part (c := p.cells) (S3.get c3 (by simpa using n3)) (by simp [Pas.cells]) rfl rfl ?_
  show aLoad false 1 (R 4) _ _
  rw [r4]
  refine ldI (v := hv) (S3.get c4 (by simpa using n4)) rfl kv ?_
  refine good126 hJ f hh sh hw hw2 fun H4 S4 => lssI ?_
  have T4 : SameX [l] H H4 := S3.trans S4.weak0
  have hl4 := S4.get hl3 (by simp)
  have d9 := T4.get c9 (by simpa using n9)
  have d10 := T4.get c10 (by simpa using n10)
  have nn : p10 ≠ p9 := fun e => n e.symm
  refine cndI (fun h1 => ?_) fun h1 => ?_
  · show aStore 1 (R 9) _ _ _
    rw [r9]
    refine qSt d9 (by simp) rfl rfl fun H5 S5 c5 l5 => ?_
    have hl5 := S5.get hl4 (by simpa using n9.symm)
    have hll5 := lt_of_get hl5
    refine ⟨.busy, none, _, _, _, _, _, _, _, hl5, .inl (k _ (((T4.weak (by simp)).trans (S5.weak (by simp))).set (.inl (by simp))) (List.getElem?_set_self hll5) (get_set ?_ n9) (get_set ?_ n10))⟩
    · rw [decide_eq_true h1, Bool.or_true]
      exact c5
    · rw [decide_eq_true h1]
      have := S5.get d10 (by simpa using nn)
      simpa using this
  · show aStore 1 (R 10) _ _ _
    rw [r10]
    refine qSt d10 (by simp) rfl rfl fun H5 S5 c5 l5 => ?_
    have hl5 := S5.get hl4 (by simpa using n10.symm)
    have hll5 := lt_of_get hl5
    refine ⟨.busy, none, _, _, _, _, _, _, _, hl5, .inl (k _ (((T4.weak (by simp)).trans (S5.weak (by simp))).set (.inl (by simp))) (List.getElem?_set_self hll5) (get_set ?_ n9) (get_set ?_ n10))⟩
    · rw [decide_eq_false h1, Bool.or_false]
      exact S5.get d9 (by simpa using n)
    · rw [decide_eq_false h1]
      have : (y || !false) = true := by simp
      rw [this]
      exact c5
set_option maxHeartbeats 800000 in
theorem good106 (hJ : Closed prog main J) {p : Pas} {s : SkyR} {hs : List Int} {hv : Value} (sh : Sli H hv 1 hs.length (hs.map vint)) (hl : hs.length < 1000000)
    (hK : ∀ H', SameX [] H H' → K (.tuple ⟨[vint (feedN p hs s), vint (ckdE p hs s)]⟩) H') : Good prog J 106 [.agg ⟨p.cells⟩, hv, .agg ⟨s.cells⟩] H K := by
  refine g106 hJ fun ok => ?_
  rw [e106]
  have vh := sliValZ sh
  refine qBox (l := p.cells) rfl fun H1 p3 e1 S1 c3 l1 => qBox1 vh.1 vh.2.1 fun H2 p4 e2 S2 c4 l2 => qBox (l := s.cells) rfl fun H3 p5 e3 S3 c5 l3 => ?_
  have c33 := S3.get (S2.get c3 (by simp)) (by simp)
  have c43 := S3.get c4 (by simp)
  have T3 := (S1.trans S2).trans S3
  refine load_part (c := p.cells) c33 (by simp [Pas.cells]) rfl rfl (ldI (v := hv) c43 rfl vh.2.2 (load_part (c := s.cells) c5 (by simp [SkyR.cells]) rfl rfl ?_))
  refine good124 hJ (T3.sli sh (by simp)) hl fun H4 S4 => neqI (cndI (fun h1 => ?_) fun h1 => ?_)
  · have k := hK H4 (T3.trans S4)
    unfold feedN at k
    rw [if_pos h1] at k
    exact retL_same (nu2 (by simp [unk]) (by simp [unk])) k
  have h0 : ckdE p hs s = 0 := by omega
  obtain ⟨f, g, hh, hlen⟩ := ckdE_zero h0
  obtain ⟨g1, g2, g3⟩ := id g
  refine qAl fun H5 p9 e5 S5 c9 l5 => qAl fun H6 p10 e6 S6 c10 l6 => ?_
  refine qSt (S6.get c9 (by simp)) (by simp) rfl rfl fun H7 S7 c97 l7 => qSt (S7.get c10 (by simp; omega)) (by simp) rfl rfl fun H8 S8 c108 l8 => ?_
  have c9 : H8[p9]? = some (.cells [.bool false] true 0) := S8.get c97 (by simp; omega)
  have c10 : H8[p10]? = some (.cells [.bool false] true 0) := c108
  have h43 := S4.1
  have S48 : SameX [] H4 H8 := ((S5.trans S6).thru S7 (by simp; omega)).thru S8 (by simp; omega)
  have S38 := S4.trans S48
  have T8 : SameX [] H H8 := T3.trans S38
  refine load_part (c := s.cells) (S38.get c5 (by simp)) (by simp [SkyR.cells]) rfl rfl ?_
  refine good125 hJ fun H10 ps S10 cs10 gs => ?_
  have TH : SameX [] H H10 := T8.trans S10
  refine l106_1 hJ (first := []) (cap := [ptr ps 0]) rfl (by decide) ?_
  obtain ⟨R, hRe⟩ : ∃ R : RG, R = RG.p (RG.p (RG.p (RG.p (RG.p (RG.p (RG.p (RG.p (RG.p (RG.p (RG.p (RG.p (RG.p (RG.p (RG.p (RG.p (RG.mk (regs [.agg ⟨p.cells⟩, hv, .agg ⟨s.cells⟩]) []) 3 (ptr p3 0)) 4 (ptr p4 0)) 5 (ptr p5 0)) 6 (vint 0)) 7 (vint 0)) 12 (.agg ⟨p.cells⟩)) 13 hv) 14 (.agg ⟨s.cells⟩)) 15 (vint (ckdE p hs s))) 8 (vint (ckdE p hs s))) 16 (vint (ckdE p hs s))) 17 (.bool (decide (ckdE p hs s ≠ 0)))) 9 (ptr p9 0)) 10 (ptr p10 0)) 19 (.agg ⟨s.cells⟩)) 20 (.func (.func 134) ⟨[]⟩ ⟨[ptr ps 0]⟩) := ⟨_, rfl⟩
  rw [← hRe]
  have R3 : R.r 3 = ptr p3 0 := by subst hRe; rfl
  have R4 : R.r 4 = ptr p4 0 := by subst hRe; rfl
  have R9 : R.r 9 = ptr p9 0 := by subst hRe; rfl
  have R10 : R.r 10 = ptr p10 0 := by subst hRe; rfl
  have Rds : R.ds = [] := by subst hRe; rfl
  clear hRe
  have hl11 : (H10 ++ [AObj.deferred] ++ [lpF .ready none R.r H10.length])[H10.length + 1]? = some (lpF .ready none R.r H10.length) := by
    rw [List.append_assoc]
    simp
  have hd11 : (H10 ++ [AObj.deferred] ++ [lpF .ready none R.r H10.length])[H10.length]? = some .deferred := by
    rw [List.append_assoc]
    simp
  have hln : (H10 ++ [AObj.deferred] ++ [lpF .ready none R.r H10.length]).length = H10.length + 2 := by simp
  have S11 : SameX [] H10 (H10 ++ [AObj.deferred] ++ [lpF .ready none R.r H10.length]) := SameX.refl.app.app
  generalize hH11 : H10 ++ [AObj.deferred] ++ [lpF .ready none R.r H10.length] = H11 at hl11 hd11 hln S11
  have UH : SameX [] H H11 := TH.trans S11
  have S8' := S10.trans S11
  have S3' := S38.trans S8'
  have w9 := S8'.get c9 (by simp)
  have w10 := S8'.get c10 (by simp)
  have w3 := S3'.get c33 (by simp)
  have w4 := S3'.get c43 (by simp)
  have ws : H11[ps]? = some (.cells s.cells true 0) := S11.get cs10 (by simp)
  have b3 := lt_of_get c33
  have b4 := lt_of_get c43
  have b9 := lt_of_get c9
  have b10 := lt_of_get c10
  have bs := lt_of_get cs10
  have h10 := S10.1
  have h38 := S38.1
  have hTH := TH.1
  have hUH := UH.1
  have hT3 := T3.1
  let fedK : Nat → Bool := fun k => ((rainsB s).take k).any fun w => decide (starvR p hs w < 0)
  let notK : Nat → Bool := fun k => ((rainsB s).take k).any fun w => !decide (starvR p hs w < 0)
  have tk : ∀ (q : List UInt8 → Bool) (k : Nat) (w : List UInt8), (rainsB s)[k]? = some w → ((rainsB s).take (k + 1)).any q = (((rainsB s).take k).any q || q w) := fun q k w hw => by
    rw [List.take_add_one, hw, List.any_append]
    simp
  have RD : Rnd J (rainsB s) (.func (.yield (H10.length + 1)) ⟨[]⟩ ⟨[]⟩) [H10.length + 1, p9, p10] H11
      (fun k O H' => O = [] ∧ H'[H10.length + 1]? = some (lpF .ready none R.r H10.length) ∧ H'[p9]? = some (.cells [.bool (fedK k)] true 0) ∧ H'[p10]? = some (.cells [.bool (notK k)] true 0)) (fun H' => False) := by
    refine ⟨by simp; omega, fun h => by rw [h.1]; simp, fun T hi => ⟨hi.1, by rw [T.2 _ (.inl (by omega))]; exact hi.2.1, by rw [T.2 _ (.inl (by omega))]; exact hi.2.2.1, by rw [T.2 _ (.inl (by omega))]; exact hi.2.2.2⟩, ?_⟩
    rintro k w O Ha Q hw Sa _ ⟨rfl, i1, i2, i3⟩ q1 q2
    have hwl := rainsB_len (List.mem_of_getElem? hw)
    have ga : ∀ {q : Nat} {o : AObj}, H11[q]? = some o → q ≠ H10.length + 1 → q ≠ p9 → q ≠ p10 → Ha[q]? = some o := fun hq h1 h2 h3 => Sa.get hq (by simp; exact ⟨h1, h2, h3⟩)
    have Sx : SameX [H10.length + 1, p9, p10] H11 (Ha.set (H10.length + 1) (lpF .busy none R.r H10.length)) := Sa.set (.inl (by simp))
    have Sy : SameX [] H (Ha.set (H10.length + 1) (lpF .busy none R.r H10.length)) := UH.thru Sx (by simp; omega)
    refine roundF hJ f hh (by omega) (by omega) (Sy.sli sh (by simp)) vh.2.2 i1 R3 R4 R9 R10 (ga w3 (by omega) (by omega) (by omega)) (ga w4 (by omega) (by omega) (by omega)) i2 i3 (by omega) (by omega) (by omega) (by omega) (by omega) fun Hb Sb hlb h9 h10' => ?_
    refine q1 [] Hb (Sb.weak (by simp)) (by simp) ⟨rfl, hlb, ?_, ?_⟩
    · rw [h9]
      dsimp only [fedK]
      rw [tk _ k w hw]
    · rw [h10']
      dsimp only [notK]
      rw [tk _ k w hw]
  refine good134 hJ g RD ⟨rfl, rfl, rfl⟩ ws (by simp; omega) ⟨rfl, hl11, w9, w10⟩ (fun Hb O Sb _ hi => ?_) fun Hb Sb st => st.elim
  obtain ⟨_, i1, i2, i3⟩ := hi
  dsimp only [fedK, notK] at i2 i3
  rw [List.take_of_length_le (Nat.le_refl _)] at i2 i3
  refine endQnorm i1 (by simp) ?_
  rw [c106_1]
  show aLoad false 1 (R.r 10) _ _
  rw [R10, R9, Rds]
  have hd' := Sb.get hd11 (by simp; omega)
  have kk := hK ((Hb.set (H10.length + 1) .dead).set H10.length .dead) (((UH.thru Sb (by simp; omega)).set (.inr (by omega))).set (.inr (by omega)))
  have ret : ∀ {a : Int}, feedN p hs s = a → retL H.length K [H10.length] [vint a, vint 0] (Hb.set (H10.length + 1) .dead) := fun he => by
    refine retLdef (get_set hd' (by omega)) (nu2 (by simp [unk]) (by simp [unk])) ?_
    rw [he, h0] at kk
    exact kk
  have hfed : fedB p hs s = !((rainsB s).any fun w => !decide (starvR p hs w < 0)) := by
    unfold fedB
    rw [List.not_any_eq_all_not]
    simp
  refine ldI (get_set i3 (by omega)) rfl rfl (notI (cndB (fun hx => ?_) fun hx => ?_))
  · refine ret ?_
    unfold feedN
    rw [if_neg (by omega), if_pos (by rw [hfed]; exact hx)]
  · refine ldI (get_set i2 (by omega)) rfl rfl (notI (cndB (fun hy => ?_) fun hy => ?_))
    · refine ret ?_
      unfold feedN
      rw [if_neg (by omega), if_neg (by rw [hfed, hx]; decide), if_neg (by simpa using hy)]
    · refine ret ?_
      unfold feedN
      rw [if_neg (by omega), if_neg (by rw [hfed, hx]; decide), if_pos (by simpa using hy)]
end
def better (a b : Std) : Prop := b.1 ≤ a.1 ∧ a.2 ≤ b.2
structure MoreG (q p : Pas) : Prop where
  grass : p.grass ≤ q.grass
  bears : q.bears = p.bears
  dry : q.dry = p.dry
  wet : q.wet = p.wet
  stubble : q.stubble = p.stubble
  sleep : q.sleep = p.sleep
theorem MoreG.refl {p : Pas} : MoreG p p := ⟨Int.le_refl _, rfl, rfl, rfl, rfl, rfl⟩
theorem stdR_sleep {p : Pas} {heads : List Int} {w : List UInt8} (f : pasOk p) : ∀ k, (stdR p heads w k).2 ≤ p.sleep
  | 0 => by
    show (0 : Int) ≤ p.sleep
    exact f.2.2.2.2.2.1
  | k + 1 => by
    have ih := stdR_sleep (heads := heads) (w := w) f k
    have := f.2.2.2.2.2.1
    show (dayR p (stdR p heads w k) (heads.getD k 0) (wetB (w.getD k 0))).2 ≤ p.sleep
    unfold dayR
    split
    · exact Int.le_refl _
    · split
      · dsimp only; omega
      · dsimp only; omega
theorem dayR_better {q p : Pas} (G : MoreG q p) (fp : pasOk p) {a b : Std} {m n : Int} {w : Bool} (h : better a b) (o : StdOk p b) (hs : a.2 ≤ p.sleep) (hm : 0 ≤ m) (hmn : m ≤ n) : better (dayR q a m w) (dayR p b n w) := by
  obtain ⟨h1, h2⟩ := h
  obtain ⟨g1, g2, g3, g4, g5, g6⟩ := G
  obtain ⟨f1, f2, f3, f4, f5, f6⟩ := fp
  have hl : leftR b n ≤ leftR a m := by unfold leftR; omega
  have hb := leftR_bd o (by omega : 0 ≤ n)
  have ho := o.g
  have hsh : shortR q a m = true → shortR p b n = true := by
    unfold shortR
    rw [Bool.and_eq_true, Bool.and_eq_true, decide_eq_true_eq, decide_eq_true_eq, decide_eq_true_eq, decide_eq_true_eq]
    rintro ⟨x, y⟩
    exact ⟨by omega, by omega⟩
  have hg : 0 ≤ (if w = true then p.wet else p.dry) := by split <;> omega
  have hgq : (if w = true then q.wet else q.dry) = (if w = true then p.wet else p.dry) := by rw [g4, g3]
  unfold better dayR
  rw [hgq, g2]
  generalize (if w = true then p.wet else p.dry) = gr at *
  by_cases s1 : shortR q a m = true
  · rw [if_pos s1, if_pos (hsh s1)]
    dsimp only
    omega
  · rw [if_neg s1]
    by_cases s2 : shortR p b n = true
    · rw [if_pos s2]
      split
      · dsimp only; exact ⟨hl, by omega⟩
      · dsimp only
        exact ⟨by omega, hs⟩
    · rw [if_neg s2]
      by_cases ha : a.2 > 0
      · rw [if_pos ha, if_pos (by omega)]
        exact ⟨hl, by dsimp only; omega⟩
      · rw [if_neg ha]
        split
        · exact ⟨by dsimp only; omega, by dsimp only; omega⟩
        · exact ⟨by dsimp only; omega, h2⟩
theorem pasOk_more {q p : Pas} (G : MoreG q p) (f : pasOk p) (h : q.grass ≤ p.bears) : pasOk q := by
  obtain ⟨g1, g2, g3, g4, g5, g6⟩ := G
  obtain ⟨f1, f2, f3, f4, f5, f6⟩ := f
  unfold pasOk
  rw [g2, g3, g4, g5, g6]
  exact ⟨f1, by omega, f3, f4, f5, f6⟩
theorem stdR_better {q p : Pas} (G : MoreG q p) (fp : pasOk p) (fq : pasOk q) {hs' hs : List Int} {w : List UInt8} (hh : headsOk hs) (h : ∀ i, 0 ≤ hs'.getD i 0 ∧ hs'.getD i 0 ≤ hs.getD i 0) : ∀ k, better (stdR q hs' w k) (stdR p hs w k)
  | 0 => ⟨G.grass, Int.le_refl _⟩
  | k + 1 => dayR_better G fp (stdR_better G fp fq hh h k) (stdR_ok fp hh k) (by rw [← G.sleep]; exact stdR_sleep fq k) (h k).1 (h k).2
theorem hung_less {q p : Pas} (G : MoreG q p) (fp : pasOk p) (fq : pasOk q) {hs' hs : List Int} {w : List UInt8} (hh : headsOk hs) (h : ∀ i, 0 ≤ hs'.getD i 0 ∧ hs'.getD i 0 ≤ hs.getD i 0) (k : Nat) (hx : hungAt q hs' w k = true) : hungAt p hs w k = true := by
  have b := (stdR_better G fp fq (w := w) hh h k).1
  have := (h k).2
  unfold hungAt hungR at *
  rw [decide_eq_true_eq] at *
  omega
theorem starv_less {q p : Pas} (G : MoreG q p) (fp : pasOk p) (fq : pasOk q) {hs' hs : List Int} {w : List UInt8} (hh : headsOk hs) (h : ∀ i, 0 ≤ hs'.getD i 0 ∧ hs'.getD i 0 ≤ hs.getD i 0) (hx : starvR p hs w < 0) : starvR q hs' w < 0 := by
  by_cases e : starvR q hs' w < 0
  · exact e
  · unfold starvR at *
    obtain ⟨h1, h2, _⟩ := fstH_iff (show 0 ≤ fstH (hungAt q hs' w) w.length by omega)
    have := fstH_pos (hung_less G fp fq hh h _ h2) h1
    omega
theorem fed_less {q p : Pas} (G : MoreG q p) (fp : pasOk p) (fq : pasOk q) {hs' hs : List Int} {s : SkyR} (hh : headsOk hs) (h : ∀ i, 0 ≤ hs'.getD i 0 ∧ hs'.getD i 0 ≤ hs.getD i 0) (hx : fedB p hs s = true) : fedB q hs' s = true := by
  unfold fedB at *
  rw [List.all_eq_true] at *
  intro w hw
  have := hx w hw
  rw [decide_eq_true_eq] at *
  exact starv_less G fp fq hh h this
theorem stayH_le {a f d d' : Nat} {n n' : Int} (hn : 0 ≤ n') (hnn : n' ≤ n) (hd : d' ≤ d) (i : Nat) : 0 ≤ (stayH a f d' n').getD i 0 ∧ (stayH a f d' n').getD i 0 ≤ (stayH a f d n).getD i 0 := by
  by_cases hi : i < a
  · rw [stayH_getD hi, stayH_getD hi]
    split
    · split
      · omega
      · omega
    · split
      · omega
      · omega
  · rw [List.getD_eq_getElem?_getD, List.getD_eq_getElem?_getD, List.getElem?_eq_none (by rw [stayH_len]; omega), List.getElem?_eq_none (by rw [stayH_len]; omega)]
    exact ⟨Int.le_refl _, Int.le_refl _⟩
theorem stay_less {q p : Pas} (G : MoreG q p) (fp : pasOk p) (fq : pasOk q) {s : SkyR} {n n' : Int} {fr dy dy' : Int} (h0 : 0 ≤ n') (hnn : n' ≤ n) (hn : n ≤ 40) (hd : dy' ≤ dy) (hx : stayB p s n fr dy = true) : stayB q s n' fr dy' = true :=
  fed_less G fp fq (stayH_ok ⟨by omega, hn⟩) (fun i => stayH_le h0 hnn (by omega) i) hx
theorem stay_zero {p : Pas} (fp : pasOk p) {s : SkyR} {fr dy : Int} : stayB p s 0 fr dy = true := by
  unfold stayB fedB
  rw [List.all_eq_true]
  intro w _
  rw [decide_eq_true_eq]
  unfold starvR
  rw [fstH_none fun i _ => ?_]
  · decide
  · have z : (stayH s.days.toNat fr.toNat dy.toNat 0).getD i 0 = 0 := by
      by_cases hi : i < s.days.toNat
      · rw [stayH_getD hi]
        split <;> rfl
      · rw [List.getD_eq_getElem?_getD, List.getElem?_eq_none (by rw [stayH_len]; omega)]
        rfl
    have o := (stdR_ok (rain := w) fp (stayH_ok (a := s.days.toNat) (f := fr.toNat) (d := dy.toNat) (n := 0) (by decide)) i).g
    unfold hungAt hungR
    rw [z]
    exact decide_eq_false (by omega)
theorem topH_mono {q q' : Int → Bool} : ∀ {N : Nat}, (∀ k : Nat, k ≤ N → q k = true → q' k = true) → topH q N ≤ topH q' N
  | 0, _ => Int.le_refl _
  | N + 1, h => by
    have b : ∀ {q : Int → Bool} {N : Nat}, topH q N ≤ N := by
      intro q N
      induction N with
      | zero => exact Int.le_refl _
      | succ N ih => unfold topH; split <;> omega
    unfold topH
    split
    · rename_i x
      rw [if_pos (h _ (Nat.le_refl _) x)]
      exact Int.le_refl _
    · split
      · have := b (q := q) (N := N)
        omega
      · exact topH_mono fun k hk => h k (by omega)
end Go.Proofs.Ytindillghipjjaa
namespace Go.Proofs.Ytindillghipjjaa
open Go.Conc Go.Proofs.Try
set_option maxRecDepth 100000
set_option maxHeartbeats 4000000
set_option linter.unusedVariables false
section
variable {main : Bool} {J : JT} {n0 : Nat} {h : List AObj} {K : Value → List AObj → Prop}
theorem at81 : prog.funcs[81]? = some f81 := by kernel_rfl
theorem body81 : f81.body = some (codeOf f81) := by kernel_rfl
def pl81 : Plans := []
def ct81 : Cuts := .go
theorem pok81 : plansOk prog pl81 (codeOf f81) = true := by kernel_rfl
theorem e81 {a0 a1 a2 : Value} : W prog J 22 h.length 81 (codeOf f81) (RG.mk (regs [a0, a1, a2]) []) h (RetQ prog [.tmp 4] h.length K) =
(aLoad true 3 a1 h fun v1 =>
aAlloc [(vint 0), (vint 0), (vint 0)] h fun v2 h3 =>
aStore 3 v2 v1 h3 fun h4 =>
aLoad false 1 a2 h4 fun v5 =>
Sem J 22 h.length 81 (subC [1, 1, 0, 1, 0] (codeOf f81)) (RG.p (RG.p (RG.p (RG.p (RG.p (RG.p (RG.mk (regs [a0, a1, a2]) []) 4 (Value.bool false)) 7 v1) 5 v2) 6 (Value.bool false)) 8 v5) 9 (vint 0)) h4 (contX pl81 prog J 22 h.length 81 ct81 [1, 1, 0, 1, 0] (codeOf f81) [] (RetQ prog [.tmp 4] h.length K))) := top_eq pok81 ct81 (by kernel_rfl)
theorem g81 (hJ : Closed prog main J) {a0 a1 a2 : Value} (hs : heapOk h → W prog J 22 h.length 81 (codeOf f81) (RG.mk (regs [a0, a1, a2]) []) h (RetQ prog [.tmp 4] h.length K)) : Good prog J 81 [a0, a1, a2] h K :=
  good_of_W hJ mixed at81 body81 (by kernel_rfl) (Nat.le_of_ble_eq_true rfl) hs
theorem s81_1 {f : RG} {nx0 : RG → List AObj → Prop} : W prog J 22 n0 81 (subC [1, 1, 0, 1, 0, 0] (codeOf f81)) f h (thenK nx0 (contX pl81 prog J 22 n0 81 ct81 [1, 1, 0, 1, 0] (codeOf f81) [] (RetQ prog [.tmp 4] n0 K))) =
(aBin prog .lss 3 (f.r 9) (f.r 8) fun v1 =>
cnd v1
(aLoad true 3 (f.r 5) h fun v2 =>
aBin prog .sub 3 (vint 40) (f.r 0) fun v3 =>
Good prog J 82 [v2, v3] h fun v4 h5 =>
aExt v4 0 fun v6 =>
aExt v4 1 fun v7 =>
aStore 3 (f.r 5) v6 h5 fun h8 =>
cnd v7
(retL n0 K f.ds [(Value.bool false)] h8)
(aLoad true 3 (f.r 5) h8 fun v9 =>
Good prog J 79 [v9] h8 fun v10 h11 =>
aStore 3 (f.r 5) v10 h11 fun h12 =>
aBin prog .add 3 (f.r 9) (vint 1) fun v13 =>
nx0 (RG.p (RG.p (RG.p (RG.p (RG.p (RG.p (RG.p (RG.p (RG.p (RG.p (RG.p (RG.p (RG.p (RG.p f 10 v1) 12 v2) 13 (f.r 0)) 14 v3) 15 v4) 11 v4) 16 v6) 17 v7) 6 v7) 18 v7) 19 v9) 20 v10) 21 v13) 9 v13) h12))
(retL n0 K f.ds [(Value.bool true)] h)) := sub_eq pok81 ct81 (by kernel_rfl)
theorem l81_1 (hJ : Closed prog main J) {S : Type} (μ : S → Nat) (I : S → RG → List AObj → Prop) (hI : ∀ s f h, I s f h → heapOk h → n0 ≤ h.length → W prog J 22 n0 81 (subC [1, 1, 0, 1, 0, 0] (codeOf f81)) f h (thenK (Nx n0 μ I s) (contX pl81 prog J 22 n0 81 ct81 [1, 1, 0, 1, 0] (codeOf f81) [] (RetQ prog [.tmp 4] n0 K))))
  {s : S} {f : RG} (hi : Gets n0 I s f h) : Sem J 22 n0 81 (subC [1, 1, 0, 1, 0] (codeOf f81)) f h (contX pl81 prog J 22 n0 81 ct81 [1, 1, 0, 1, 0] (codeOf f81) [] (RetQ prog [.tmp 4] n0 K)) :=
  loop_rule hJ mixed (b := subC [1, 1, 0, 1, 0, 0] (codeOf f81)) (by kernel_rfl) μ I hI hi
end
section
variable {main : Bool} {J : JT} {n0 : Nat} {h : List AObj} {K : Value → List AObj → Prop}
theorem at34 : prog.funcs[34]? = some f34 := by kernel_rfl
theorem body34 : f34.body = some (codeOf f34) := by kernel_rfl
def pl34 : Plans := []
def ct34 : Cuts := .go
theorem pok34 : plansOk prog pl34 (codeOf f34) = true := by kernel_rfl
theorem e34 {a0 a1 a2 a3 a4 : Value} : W prog J 51 h.length 34 (codeOf f34) (RG.mk (regs [a0, a1, a2, a3, a4]) []) h (RetQ prog [.tmp 10, .tmp 11] h.length K) =
(aBox a0 h fun v1 h2 =>
aBox a1 h2 fun v3 h4 =>
aBox a2 h4 fun v5 h6 =>
aBox a4 h6 fun v7 h8 =>
aLoad true 3 v1 h8 fun v9 =>
Good prog J 77 [v9] h8 fun v10 h11 =>
aBin prog .neq 39 v10 (vint 0) fun v12 =>
cnd v12
(retL h.length K [] [(vint 0), v10] h11)
(aLoad true 6 v3 h11 fun v13 =>
aLoad true 3 v5 h11 fun v14 =>
aLoad false 1 v7 h11 fun v15 =>
Good prog J 78 [v13, v14, a3, v15] h11 fun v16 h17 =>
aExt v16 0 fun v18 =>
aExt v16 1 fun v19 =>
aBin prog .neq 39 v19 (vint 0) fun v20 =>
cnd v20
(retL h.length K [] [(vint 0), v19] h17)
(aLoad true 3 v1 h17 fun v21 =>
aFill [(vint 0), (vint 0), (vint 0)] [(0, 3, v21)] fun c22 =>
aAlloc [(vint 0), (vint 0), (vint 0)] h17 fun v23 h24 =>
aStore 3 v23 (Value.agg ⟨c22⟩) h24 fun h25 =>
Sem J 51 h.length 34 (subC [1, 1, 1, 1, 1, 0, 1, 0] (codeOf f34)) (RG.p (RG.p (RG.p (RG.p (RG.p (RG.p (RG.p (RG.p (RG.p (RG.p (RG.p (RG.p (RG.p (RG.p (RG.p (RG.p (RG.p (RG.p (RG.p (RG.p (RG.p (RG.p (RG.p (RG.p (RG.p (RG.p (RG.p (RG.p (RG.mk (regs [a0, a1, a2, a3, a4]) []) 5 v1) 6 v3) 7 v5) 9 v7) 10 (vint 0)) 11 (vint 0)) 18 v9) 19 v10) 12 v10) 20 v10) 21 v12) 24 v13) 25 v14) 26 a3) 27 v15) 28 v16) 23 v16) 29 v18) 30 v19) 13 v18) 14 v19) 31 v19) 32 v20) 34 v21) 35 (Value.agg ⟨c22⟩)) 15 v23) 36 a3) 37 (vint 0)) h25 (contX pl34 prog J 51 h.length 34 ct34 [1, 1, 1, 1, 1, 0, 1, 0] (codeOf f34) [] (RetQ prog [.tmp 10, .tmp 11] h.length K))))) := top_eq pok34 ct34 (by kernel_rfl)
theorem g34 (hJ : Closed prog main J) {a0 a1 a2 a3 a4 : Value} (hs : heapOk h → W prog J 51 h.length 34 (codeOf f34) (RG.mk (regs [a0, a1, a2, a3, a4]) []) h (RetQ prog [.tmp 10, .tmp 11] h.length K)) : Good prog J 34 [a0, a1, a2, a3, a4] h K :=
  good_of_W hJ mixed at34 body34 (by kernel_rfl) (Nat.le_of_ble_eq_true rfl) hs
theorem s34_1 {f : RG} {nx0 : RG → List AObj → Prop} : W prog J 51 n0 34 (subC [1, 1, 1, 1, 1, 0, 1, 0, 0] (codeOf f34)) f h (thenK nx0 (contX pl34 prog J 51 n0 34 ct34 [1, 1, 1, 1, 1, 0, 1, 0] (codeOf f34) [] (RetQ prog [.tmp 10, .tmp 11] n0 K))) =
(aBin prog .lss 3 (f.r 37) (f.r 36) fun v1 =>
cnd v1
(aLoad true 3 (f.r 15) h fun v2 =>
Good prog J 79 [v2] h fun v3 h4 =>
aStore 3 (f.r 15) v3 h4 fun h5 =>
aBin prog .add 3 (f.r 37) (vint 1) fun v6 =>
nx0 (RG.p (RG.p (RG.p (RG.p (RG.p f 38 v1) 39 v2) 40 v3) 41 v6) 37 v6) h5)
(aMkF 81 [] [(f.r 15), (f.r 9)] fun v7 =>
Good prog J 80 [(vint 0), (vint 40), v7] h fun v8 h9 =>
aExt v8 0 fun v10 =>
aExt v8 1 fun v11 =>
aBin prog .sub 3 (vint 40) v10 fun v12 =>
aMin (f.r 13) [v12] fun v13 =>
retL n0 K f.ds [v13, (vint 0)] h9)) := sub_eq pok34 ct34 (by kernel_rfl)
theorem l34_1 (hJ : Closed prog main J) {S : Type} (μ : S → Nat) (I : S → RG → List AObj → Prop) (hI : ∀ s f h, I s f h → heapOk h → n0 ≤ h.length → W prog J 51 n0 34 (subC [1, 1, 1, 1, 1, 0, 1, 0, 0] (codeOf f34)) f h (thenK (Nx n0 μ I s) (contX pl34 prog J 51 n0 34 ct34 [1, 1, 1, 1, 1, 0, 1, 0] (codeOf f34) [] (RetQ prog [.tmp 10, .tmp 11] n0 K))))
  {s : S} {f : RG} (hi : Gets n0 I s f h) : Sem J 51 n0 34 (subC [1, 1, 1, 1, 1, 0, 1, 0] (codeOf f34)) f h (contX pl34 prog J 51 n0 34 ct34 [1, 1, 1, 1, 1, 0, 1, 0] (codeOf f34) [] (RetQ prog [.tmp 10, .tmp 11] n0 K)) :=
  loop_rule hJ mixed (b := subC [1, 1, 1, 1, 1, 0, 1, 0, 0] (codeOf f34)) (by kernel_rfl) μ I hI hi
end
section
variable {main : Bool} {J : JT} {n0 : Nat} {h : List AObj} {K : Value → List AObj → Prop}
theorem at107 : prog.funcs[107]? = some f107 := by kernel_rfl
theorem body107 : f107.body = some (codeOf f107) := by kernel_rfl
def pl107 : Plans := []
def ct107 : Cuts := .go
theorem pok107 : plansOk prog pl107 (codeOf f107) = true := by kernel_rfl
theorem e107 {a0 a1 a2 a3 : Value} : W prog J 26 h.length 107 (codeOf f107) (RG.mk (regs [a0, a1, a2, a3]) []) h (RetQ prog [.tmp 8] h.length K) =
(((List.length [(vint 0)] = 1 ∧ (8 : Nat) ≤ 1024) ∧ aMkS [(vint 0)] a0 a0 h fun v1 h2 =>
Sem J 26 h.length 107 (subC [1, 1, 0, 1, 0] (codeOf f107)) (RG.p (RG.p (RG.p (RG.p (RG.p (RG.p (RG.mk (regs [a0, a1, a2, a3]) []) 8 (Value.slice none 0 0)) 11 a0) 12 v1) 9 v1) 13 a2) 10 a2) h2 (contX pl107 prog J 26 h.length 107 ct107 [1, 1, 0, 1, 0] (codeOf f107) [] (RetQ prog [.tmp 8] h.length K)))) := top_eq pok107 ct107 (by kernel_rfl)
theorem g107 (hJ : Closed prog main J) {a0 a1 a2 a3 : Value} (hs : heapOk h → W prog J 26 h.length 107 (codeOf f107) (RG.mk (regs [a0, a1, a2, a3]) []) h (RetQ prog [.tmp 8] h.length K)) : Good prog J 107 [a0, a1, a2, a3] h K :=
  good_of_W hJ mixed at107 body107 (by kernel_rfl) (Nat.le_of_ble_eq_true rfl) hs
theorem s107_1 {f : RG} {nx0 : RG → List AObj → Prop} : W prog J 26 n0 107 (subC [1, 1, 0, 1, 0, 0] (codeOf f107)) f h (thenK nx0 (contX pl107 prog J 26 n0 107 ct107 [1, 1, 0, 1, 0] (codeOf f107) [] (RetQ prog [.tmp 8] n0 K))) =
(aBin prog .add 3 (f.r 2) (f.r 3) fun v1 =>
aBin prog .lss 3 (f.r 10) v1 fun v2 =>
cnd v2
(aIdx 1 (f.r 9) (f.r 10) fun v3 =>
aStore 1 v3 (f.r 1) h fun h4 =>
aBin prog .add 3 (f.r 10) (vint 1) fun v5 =>
nx0 (RG.p (RG.p (RG.p (RG.p (RG.p (RG.p (RG.p (RG.p (RG.p (RG.p (RG.p (RG.p f 14 (f.r 10)) 15 (f.r 2)) 16 (f.r 3)) 17 v1) 18 v2) 21 (f.r 9)) 22 (f.r 10)) 23 (f.r 1)) 24 v3) 19 (f.r 10)) 20 v5) 10 v5) h4)
(retL n0 K f.ds [(f.r 9)] h)) := sub_eq pok107 ct107 (by kernel_rfl)
theorem l107_1 (hJ : Closed prog main J) {S : Type} (μ : S → Nat) (I : S → RG → List AObj → Prop) (hI : ∀ s f h, I s f h → heapOk h → n0 ≤ h.length → W prog J 26 n0 107 (subC [1, 1, 0, 1, 0, 0] (codeOf f107)) f h (thenK (Nx n0 μ I s) (contX pl107 prog J 26 n0 107 ct107 [1, 1, 0, 1, 0] (codeOf f107) [] (RetQ prog [.tmp 8] n0 K))))
  {s : S} {f : RG} (hi : Gets n0 I s f h) : Sem J 26 n0 107 (subC [1, 1, 0, 1, 0] (codeOf f107)) f h (contX pl107 prog J 26 n0 107 ct107 [1, 1, 0, 1, 0] (codeOf f107) [] (RetQ prog [.tmp 8] n0 K)) :=
  loop_rule hJ mixed (b := subC [1, 1, 0, 1, 0, 0] (codeOf f107)) (by kernel_rfl) μ I hI hi
def pl119 : Plans := [(1, false, .take 0 (.take 1 (.take 2 (.take 3 (.take 4 (.take 5 (.take 7 (.last 6 true (.last 8 true (.take 9 (.take 10 (.take 11 (.take 12 (.take 13 (.fin)))))))))))))))]
def ct119 : Cuts := .go
theorem pok119 : plansOk prog pl119 (codeOf f119) = true := by kernel_rfl
theorem e119 {a0 a1 a2 a3 a4 : Value} : W prog J 28 h.length 119 (codeOf f119) (RG.mk (regs [a0, a1, a2, a3, a4]) []) h (RetQ prog [.tmp 10] h.length K) =
(aBox a0 h fun v1 h2 =>
aBox a1 h2 fun v3 h4 =>
(∃ B, aLoad true 6 v1 h4 fun v5 =>
RdOk (some B) (ptrBlk v1) ∧ (aOff v3 0 fun v6 =>
aLoad false 1 v6 h4 fun v7 =>
RdOk (some B) (ptrBlk v6) ∧ (aLoad true 3 v3 h4 fun v8 =>
RdOk (some B) (ptrBlk v3) ∧ (Good prog J 107 [v7, a2, a3, a4] h4 fun v9 h10 =>
SameB (some B) h4 h10 ∧ (Good prog J 130 [v5, v9, v8] h10 fun v11 h12 =>
SameB (some B) h4 h12 ∧ (aExt v11 0 fun v13 =>
aExt v11 1 fun v14 =>
aBin prog .eql 3 v13 v14 fun v15 =>
retL h.length K [] [v15] h12))))))) := top_eq pok119 ct119 (by kernel_rfl)
end
end Go.Proofs.Ytindillghipjjaa
namespace Go.Proofs.Ytindillghipjjaa
open Go.Conc Go.Proofs.Try
set_option maxRecDepth 100000
section
variable {main : Bool} {J : JT} {h H Hb : List AObj} {K : Value → List AObj → Prop} {KV : Value → Prop} {HL : List AObj → Prop} {n0 : Nat}
def TillN (n : Nat) (H H' : List AObj) : Prop := H.length ≤ H'.length ∧ ∀ i, i < n → H'[i]? = H[i]?
theorem TillN.same {X : List Nat} (T : TillN Hb.length H h) (S : SameX X Hb H) : SameX X Hb h := ⟨Nat.le_trans S.1 T.1, fun i hi hx => by rw [T.2 i hi]; exact S.2 i hi hx⟩
theorem TillN.trans {n : Nat} {H1 H2 H3 : List AObj} (a : TillN n H1 H2) (b : TillN n H2 H3) : TillN n H1 H3 := ⟨Nat.le_trans a.1 b.1, fun i hi => (b.2 i hi).trans (a.2 i hi)⟩
theorem tillN_of {n : Nat} {X : List Nat} {H1 H2 : List AObj} (S : SameX X H1 H2) (hn : n ≤ H1.length) (hX : ∀ x ∈ X, n ≤ x) : TillN n H1 H2 := ⟨S.1, fun i hi => S.2 i (by omega) fun hx => by have := hX i hx; omega⟩
def Own3 (n : Nat) (H : List AObj) (a b c : List Int) (va vb vc : Value) : Prop :=
  ∃ oa ob oc, OwnX H 1 (a.map vint) a.length va oa ∧ OwnX H 1 (b.map vint) b.length vb ob ∧ OwnX H 1 (c.map vint) c.length vc oc ∧ (∀ j, oa = some j → n ≤ j ∧ ob ≠ some j ∧ oc ≠ some j) ∧ (∀ j, ob = some j → n ≤ j ∧ oc ≠ some j) ∧ (∀ j, oc = some j → n ≤ j)
theorem Own3.keep {n : Nat} {a b c : List Int} {va vb vc : Value} {X : List Nat} {H' : List AObj} (O : Own3 n H a b c va vb vc) (S : SameX X H H') (hX : ∀ x ∈ X, x < n) : Own3 n H' a b c va vb vc := by
  obtain ⟨oa, ob, oc, A, B, C, h1, h2, h3⟩ := O
  refine ⟨oa, ob, oc, ownX_keep A S fun i hi hx => ?_, ownX_keep B S fun i hi hx => ?_, ownX_keep C S fun i hi hx => ?_, h1, h2, h3⟩
  · have := h1 i hi; have := hX i hx; omega
  · have := h2 i hi; have := hX i hx; omega
  · have := h3 i hi; have := hX i hx; omega
theorem Own3.nil {n : Nat} : Own3 n H [] [] [] (.slice none 0 0) (.slice none 0 0) (.slice none 0 0) := ⟨none, none, none, ⟨rfl, rfl, .inl ⟨rfl, rfl, rfl⟩⟩, ⟨rfl, rfl, .inl ⟨rfl, rfl, rfl⟩⟩, ⟨rfl, rfl, .inl ⟨rfl, rfl, rfl⟩⟩, by simp, by simp, by simp⟩
theorem Own3.add {n : Nat} {a b c : List Int} {va vb vc : Value} {x : Int} {K : Value → Value → List AObj → Prop} (O : Own3 n H a b c va vb vc) (hl : a.length < 90000) (hn : n ≤ H.length)
    (hK : ∀ y v' H', TillN n H H' → Own3 n H' (a ++ [x]) b c v' vb vc → K y v' H') :
    (((1 * 1 : Nat) ≤ 16777216 ∧ (1 : Nat) ≤ 16777216 ∧ List.length [(vint 0)] = 1) ∧ aFill (zrep [(vint 0)] 1) [(0, 1, vint x)] fun c6 => aNewS 1 c6 H fun v7 h8 =>
      ((List.length [(vint 0)] = 1 ∧ 0 < (1 : Nat) ∧ 0 < (8 : Nat) ∧ (8 : Nat) ≤ 1024) ∧ aApp 1 va v7 h8 (K v7))) := by
  obtain ⟨oa, ob, oc, A, B, C, h1, h2, h3⟩ := O
  refine ⟨by decide, fillO (l := [vint x]) rfl rfl rfl (by decide) (fillI (qNew fun H1 p1 e1 S1 c1 l1 => ⟨by decide, ?_⟩))⟩
  have c1 : H1[p1]? = some (.cells [vint x] true 0) := c1
  have hS := S1.1
  refine ownX_more (ownX_keep A S1 (by simp)) (by omega) (by omega) (ownX_sli (ownX_new (s := 1) (n := 1) c1 rfl rfl)) fun v' H' p' e' O' S' => ?_
  have hb1 := ownX_lt B
  have hc1 := ownX_lt C
  have na : ∀ z ∈ oa.toList, n ≤ z := fun z hz => (h1 z (Option.mem_toList.1 hz)).1
  refine hK _ v' H' ((tillN_of S1 hn (by simp)).trans (tillN_of S' (by omega) na)) ⟨some p', ob, oc, ?_, ownX_keep (ownX_keep B S1 (by simp)) S' fun j hj hm => (h1 j (Option.mem_toList.1 hm)).2.1 hj, ownX_keep (ownX_keep C S1 (by simp)) S' fun j hj hm => (h1 j (Option.mem_toList.1 hm)).2.2 hj, fun j hj => ?_, h2, h3⟩
  · rw [List.map_append, List.length_append]
    exact O'
  · cases hj
    exact ⟨by omega, fun e => by have := hb1 _ e; omega, fun e => by have := hc1 _ e; omega⟩
set_option maxHeartbeats 800000 in
/-- A rain, day by day. -/
theorem good107 (hJ : Closed prog main J) {a fr dy : Nat} {n : Int} (ha : a ≤ 8) (hfd : fr + dy ≤ a) (hK : ∀ H' v o, SameX [] H H' → OwnX H' 1 ((stayH a fr dy n).map vint) (stayH a fr dy n).length v (some o) → H.length ≤ o → K v H') : Good prog J 107 [vint (a : Nat), vint n, vint (fr : Nat), vint (dy : Nat)] H K := by
  refine g107 hJ fun ok => ?_
  rw [e107]
  have hrm : (2000 : Nat) < room := by decide
  refine ⟨by decide, by omega, Int.le_refl _, by omega, ?_⟩
  rw [Int.toNat_natCast]
  have zl : ∀ k, zrep [vint 0] k = (List.replicate k (0 : Int)).map vint := by
    intro k
    induction k with
    | zero => rfl
    | succ k ih =>
      show [vint 0] ++ zrep [vint 0] k = _
      rw [ih, List.replicate_succ]
      rfl
  generalize hH5 : H ++ [AObj.cells (zrep [vint 0] a) true 0] = H5
  have c5 : H5[H.length]? = some (.cells ((stayH a fr 0 n).map vint) true 0) := by rw [← hH5, zl, stayH_zero]; simp
  have S5 : SameX [] H H5 := by rw [← hH5]; exact SameX.refl.app
  generalize hpl : H.length = pl at c5
  refine l107_1 hJ (fun i : Nat => dy - i) (fun i F H' => i ≤ dy ∧ SameX [pl] H5 H' ∧ H'[pl]? = some (.cells ((stayH a fr i n).map vint) true 0) ∧ F.ds = [] ∧ F.r 1 = vint n ∧ F.r 2 = vint (fr : Nat) ∧ F.r 3 = vint (dy : Nat) ∧ F.r 9 = .slice (some ⟨pl, 0, none⟩) a a ∧ F.r 10 = vint ((fr + i : Nat) : Int)) ?_ (s := 0)
    (.inl ⟨by omega, SameX.refl, c5, rfl, rfl, rfl, rfl, rfl, rfl⟩)
  rintro i F H' ⟨hi, S, cl, ds, r1, r2, r3, r9, r10⟩ okc hnc
  rw [s107_1, r1, r2, r3, r9, r10, ds]
  refine addI (by omega) (lssI (cndI (fun hlt => ?_) fun hge => ?_))
  · refine idxI ⟨by omega, by omega⟩ ?_
    have e1 : 0 + ((fr + i : Nat) : Int).toNat * 1 = fr + i := by omega
    rw [e1]
    refine qSt cl (by simp [stayH_len]; omega) rfl rfl fun H8 S8 c8' l8 => addI (by omega) ⟨i + 1, by dsimp only; omega, .inl ⟨by omega, S.trans S8, ?_, ds, r1, r2, r3, r9, by show vint _ = vint _; congr 1⟩⟩
    rw [c8', ← List.map_set, stayH_set (by omega)]
  · have hid : i = dy := by omega
    subst hid
    refine retL_same (by simp [unk]) (hK H' (.slice (some ⟨pl, 0, none⟩) a a) pl (S5.thru S (by simp; omega)) ⟨by simp, knV _, .inr ⟨pl, a, 0, rfl, by rw [stayH_len], cl, .inr (by rw [stayH_len])⟩⟩ (by omega))
end
end Go.Proofs.Ytindillghipjjaa
namespace Go.Proofs.Ytindillghipjjaa
open Go.Conc Go.Proofs.Try
set_option maxRecDepth 100000
set_option maxHeartbeats 4000000
set_option linter.unusedVariables false
section
variable {main : Bool} {J : JT} {n0 : Nat} {h : List AObj} {K : Value → List AObj → Prop}
def pl51 : Plans := []
def ct51 : Cuts := .go
theorem pok51 : plansOk prog pl51 (codeOf f51) = true := by kernel_rfl
theorem e51 {a0 a1 a2 : Value} : W prog J 38 h.length 51 (codeOf f51) (RG.mk (regs [a0, a1, a2]) []) h (RetQ prog [.tmp 6, .tmp 7] h.length K) =
(aBox a0 h fun v1 h2 =>
aBin prog .geq 3 a2 (vint 0) fun v3 =>
cnd v3
(aOff v1 3 fun v4 =>
aLoad false 1 v4 h2 fun v5 =>
aIdx 2 v5 a2 fun v6 =>
aOff v6 0 fun v7 =>
aLoad false 1 v7 h2 fun v8 =>
aBin prog .lss 3 a1 v8 fun v9 =>
aOff v1 3 fun v10 =>
aLoad false 1 v10 h2 fun v11 =>
aIdx 2 v11 a2 fun v12 =>
aOff v12 0 fun v13 =>
aLoad false 1 v13 h2 fun v14 =>
aBin prog .sub 3 a1 v14 fun v15 =>
aMax (vint 0) [v15] fun v16 =>
aOff v1 0 fun v17 =>
aOff v17 1 fun v18 =>
aLoad false 1 v18 h2 fun v19 =>
aOff v1 0 fun v20 =>
aOff v20 2 fun v21 =>
aLoad false 1 v21 h2 fun v22 =>
aBin prog .add 3 v16 v22 fun v23 =>
aMin v19 [v23] fun v24 =>
retL h.length K [] [v24, v9] h2)
(aOff v1 0 fun v25 =>
aOff v25 1 fun v26 =>
aLoad false 1 v26 h2 fun v27 =>
aOff v1 0 fun v28 =>
aOff v28 2 fun v29 =>
aLoad false 1 v29 h2 fun v30 =>
aBin prog .add 3 a1 v30 fun v31 =>
aMin v27 [v31] fun v32 =>
retL h.length K [] [v32, (Value.bool false)] h2)) := top_eq pok51 ct51 (by kernel_rfl)
def pl10 : Plans := []
def ct10 : Cuts := .bin (.go) (.bin (.go) (.bin (.go) (.bin (.go) (.bin (.go) (.bin (.go) (.bin (.bin (.go) (.cut (.go))) (.bin (.bin (.go) (.cut (.go))) (.bin (.go) (.bin (.bin (.go) (.un (.un (.bin (.go) (.bin (.un (.bin (.go) (.bin (.go) (.bin (.go) (.bin (.go) (.bin (.go) (.cut (.go)))))))) (.go)))))) (.go))))))))))
theorem pok10 : plansOk prog pl10 (codeOf f10) = true := by kernel_rfl
theorem e10 {a0 : Value} : W prog J 132 h.length 10 (codeOf f10) (RG.mk (regs [a0]) []) h (RetQ prog [.tmp 2] h.length K) =
(Good prog J 20 [a0] h fun v1 h2 =>
Good prog J 21 [v1, (vint 3), (vint 14)] h2 fun v3 h4 =>
aAlloc [(vint 0), (vint 0), (vint 0), (Value.slice none 0 0)] h4 fun v5 h6 =>
aStore 4 v5 v3 h6 fun h7 =>
aLoad true 4 v5 h7 fun v8 =>
Good prog J 36 [v1, v8, (vint 4)] h7 fun v9 h10 =>
aLoad true 4 v5 h10 fun v11 =>
Good prog J 38 [v11, v9] h10 fun v12 h13 =>
aExt v12 0 fun v14 =>
aExt v12 1 fun v15 =>
aLoad true 4 v5 h13 fun v16 =>
Good prog J 46 [v16, v9, (vint 48)] h13 fun v17 h18 =>
aExt v17 0 fun v19 =>
aExt v17 1 fun v20 =>
aBin prog .neq 39 v20 (vint 0) fun v21 =>
cnd v21
(Hold (W prog J 132 h.length 10 (subC [1, 1, 1, 1, 1, 1, 0, 1] (codeOf f10)) (RG.p (RG.p (RG.p (RG.p (RG.p (RG.p (RG.p (RG.p (RG.p (RG.p (RG.p (RG.p (RG.p (RG.p (RG.p (RG.p (RG.p (RG.p (RG.p (RG.p (RG.p (RG.p (RG.p (RG.p (RG.p (RG.p (RG.p (RG.p (RG.p (RG.p (RG.p (RG.p (RG.p (RG.p (RG.p (RG.p (RG.p (RG.p (RG.mk (regs [a0]) []) 2 (Value.bool false)) 16 a0) 17 v1) 3 v1) 18 v1) 19 v3) 4 v5) 20 v1) 21 v8) 22 v9) 5 v9) 24 v11) 25 v9) 26 v12) 23 v12) 27 v14) 28 v15) 6 v14) 7 v15) 30 v16) 31 v9) 32 v17) 29 v17) 33 v19) 34 v20) 8 v19) 9 v20) 35 v20) 36 v21) 37 v21) 37 (Value.bool true)) 38 undef) 39 undef) 40 undef) 41 undef) 42 undef) 43 undef) 44 (Value.bool true)) h18 (contX pl10 prog J 132 h.length 10 ct10 [1, 1, 1, 1, 1, 1, 0, 1] (codeOf f10) [] (RetQ prog [.tmp 2] h.length K))))
(aBin prog .neq 39 v15 (vint 0) fun v22 =>
cnd v22
(aBin prog .neq 39 v15 (vint 11) fun v23 =>
Hold (W prog J 132 h.length 10 (subC [1, 1, 1, 1, 1, 1, 0, 1] (codeOf f10)) (RG.p (RG.p (RG.p (RG.p (RG.p (RG.p (RG.p (RG.p (RG.p (RG.p (RG.p (RG.p (RG.p (RG.p (RG.p (RG.p (RG.p (RG.p (RG.p (RG.p (RG.p (RG.p (RG.p (RG.p (RG.p (RG.p (RG.p (RG.p (RG.p (RG.p (RG.p (RG.p (RG.p (RG.p (RG.p (RG.p (RG.p (RG.p (RG.p (RG.mk (regs [a0]) []) 2 (Value.bool false)) 16 a0) 17 v1) 3 v1) 18 v1) 19 v3) 4 v5) 20 v1) 21 v8) 22 v9) 5 v9) 24 v11) 25 v9) 26 v12) 23 v12) 27 v14) 28 v15) 6 v14) 7 v15) 30 v16) 31 v9) 32 v17) 29 v17) 33 v19) 34 v20) 8 v19) 9 v20) 35 v20) 36 v21) 37 v21) 37 (Value.bool false)) 38 v15) 39 v22) 40 v22) 40 (Value.bool true)) 41 v15) 42 v23) 43 v23) 44 v23) h18 (contX pl10 prog J 132 h.length 10 ct10 [1, 1, 1, 1, 1, 1, 0, 1] (codeOf f10) [] (RetQ prog [.tmp 2] h.length K))))
(Hold (W prog J 132 h.length 10 (subC [1, 1, 1, 1, 1, 1, 0, 1] (codeOf f10)) (RG.p (RG.p (RG.p (RG.p (RG.p (RG.p (RG.p (RG.p (RG.p (RG.p (RG.p (RG.p (RG.p (RG.p (RG.p (RG.p (RG.p (RG.p (RG.p (RG.p (RG.p (RG.p (RG.p (RG.p (RG.p (RG.p (RG.p (RG.p (RG.p (RG.p (RG.p (RG.p (RG.p (RG.p (RG.p (RG.p (RG.p (RG.p (RG.p (RG.mk (regs [a0]) []) 2 (Value.bool false)) 16 a0) 17 v1) 3 v1) 18 v1) 19 v3) 4 v5) 20 v1) 21 v8) 22 v9) 5 v9) 24 v11) 25 v9) 26 v12) 23 v12) 27 v14) 28 v15) 6 v14) 7 v15) 30 v16) 31 v9) 32 v17) 29 v17) 33 v19) 34 v20) 8 v19) 9 v20) 35 v20) 36 v21) 37 v21) 37 (Value.bool false)) 38 v15) 39 v22) 40 v22) 40 (Value.bool false)) 41 undef) 42 undef) 43 (Value.bool false)) 44 (Value.bool false)) h18 (contX pl10 prog J 132 h.length 10 ct10 [1, 1, 1, 1, 1, 1, 0, 1] (codeOf f10) [] (RetQ prog [.tmp 2] h.length K)))))) := top_eq pok10 ct10 (by kernel_rfl)
end
section
variable {main : Bool} {J : JT} {n0 : Nat} {h : List AObj} {K : Value → List AObj → Prop}
def pl9 : Plans := []
def ct9 : Cuts := .bin (.go) (.bin (.go) (.bin (.go) (.bin (.go) (.bin (.go) (.bin (.go) (.bin (.bin (.go) (.cut (.go))) (.bin (.go) (.bin (.bin (.go) (.un (.un (.bin (.go) (.bin (.un (.bin (.go) (.bin (.go) (.cut (.bin (.bin (.go) (.bin (.bin (.bin (.go) (.cut (.go))) (.go)) (.go))) (.bin (.go) (.bin (.go) (.cut (.go))))))))) (.go)))))) (.go)))))))))
theorem pok9 : plansOk prog pl9 (codeOf f9) = true := by kernel_rfl
theorem e9 {a0 : Value} : W prog J 109 h.length 9 (codeOf f9) (RG.mk (regs [a0]) []) h (RetQ prog [.tmp 2] h.length K) =
(Good prog J 20 [a0] h fun v1 h2 =>
Good prog J 21 [v1, (vint 3), (vint 20)] h2 fun v3 h4 =>
aAlloc [(vint 0), (vint 0), (vint 0), (Value.slice none 0 0)] h4 fun v5 h6 =>
aStore 4 v5 v3 h6 fun h7 =>
aLoad true 4 v5 h7 fun v8 =>
Good prog J 36 [v1, v8, (vint 5)] h7 fun v9 h10 =>
aLoad true 4 v5 h10 fun v11 =>
Good prog J 37 [v11, v9, (vint 40)] h10 fun v12 h13 =>
aExt v12 0 fun v14 =>
aExt v12 1 fun v15 =>
aLoad true 4 v5 h13 fun v16 =>
Good prog J 46 [v16, v9, (vint 40)] h13 fun v17 h18 =>
aExt v17 0 fun v19 =>
aExt v17 1 fun v20 =>
aBin prog .neq 39 v15 (vint 0) fun v21 =>
cnd v21
(Hold (W prog J 109 h.length 9 (subC [1, 1, 1, 1, 1, 1, 0, 1] (codeOf f9)) (RG.p (RG.p (RG.p (RG.p (RG.p (RG.p (RG.p (RG.p (RG.p (RG.p (RG.p (RG.p (RG.p (RG.p (RG.p (RG.p (RG.p (RG.p (RG.p (RG.p (RG.p (RG.p (RG.p (RG.p (RG.p (RG.p (RG.p (RG.p (RG.p (RG.p (RG.p (RG.p (RG.p (RG.p (RG.p (RG.p (RG.p (RG.p (RG.p (RG.p (RG.mk (regs [a0]) []) 2 (Value.bool false)) 15 a0) 16 v1) 3 v1) 17 v1) 18 v3) 4 v5) 19 v1) 20 v8) 21 v9) 5 v9) 23 v11) 24 v9) 25 v12) 22 v12) 26 v14) 27 v15) 6 v14) 7 v15) 29 v16) 30 v9) 31 v17) 28 v17) 32 v19) 33 v20) 8 v19) 9 v20) 34 v15) 35 v21) 36 v21) 36 (Value.bool true)) 37 undef) 38 undef) 39 (Value.bool true)) 40 (Value.bool true)) 40 (Value.bool true)) 41 undef) 42 undef) 43 undef) 44 (Value.bool true)) h18 (contX pl9 prog J 109 h.length 9 ct9 [1, 1, 1, 1, 1, 1, 0, 1] (codeOf f9) [] (RetQ prog [.tmp 2] h.length K))))
(aBin prog .neq 39 v20 (vint 0) fun v22 =>
cnd v22
(Hold (W prog J 109 h.length 9 (subC [1, 1, 1, 1, 1, 1, 0, 1] (codeOf f9)) (RG.p (RG.p (RG.p (RG.p (RG.p (RG.p (RG.p (RG.p (RG.p (RG.p (RG.p (RG.p (RG.p (RG.p (RG.p (RG.p (RG.p (RG.p (RG.p (RG.p (RG.p (RG.p (RG.p (RG.p (RG.p (RG.p (RG.p (RG.p (RG.p (RG.p (RG.p (RG.p (RG.p (RG.p (RG.p (RG.p (RG.p (RG.p (RG.p (RG.p (RG.mk (regs [a0]) []) 2 (Value.bool false)) 15 a0) 16 v1) 3 v1) 17 v1) 18 v3) 4 v5) 19 v1) 20 v8) 21 v9) 5 v9) 23 v11) 24 v9) 25 v12) 22 v12) 26 v14) 27 v15) 6 v14) 7 v15) 29 v16) 30 v9) 31 v17) 28 v17) 32 v19) 33 v20) 8 v19) 9 v20) 34 v15) 35 v21) 36 v21) 36 (Value.bool false)) 37 v20) 38 v22) 39 v22) 40 v22) 40 (Value.bool true)) 41 undef) 42 undef) 43 undef) 44 (Value.bool true)) h18 (contX pl9 prog J 109 h.length 9 ct9 [1, 1, 1, 1, 1, 1, 0, 1] (codeOf f9) [] (RetQ prog [.tmp 2] h.length K))))
(aLenS v14 fun v23 =>
aBin prog .neq 3 v23 (vint 40) fun v24 =>
Hold (W prog J 109 h.length 9 (subC [1, 1, 1, 1, 1, 1, 0, 1] (codeOf f9)) (RG.p (RG.p (RG.p (RG.p (RG.p (RG.p (RG.p (RG.p (RG.p (RG.p (RG.p (RG.p (RG.p (RG.p (RG.p (RG.p (RG.p (RG.p (RG.p (RG.p (RG.p (RG.p (RG.p (RG.p (RG.p (RG.p (RG.p (RG.p (RG.p (RG.p (RG.p (RG.p (RG.p (RG.p (RG.p (RG.p (RG.p (RG.p (RG.p (RG.p (RG.mk (regs [a0]) []) 2 (Value.bool false)) 15 a0) 16 v1) 3 v1) 17 v1) 18 v3) 4 v5) 19 v1) 20 v8) 21 v9) 5 v9) 23 v11) 24 v9) 25 v12) 22 v12) 26 v14) 27 v15) 6 v14) 7 v15) 29 v16) 30 v9) 31 v17) 28 v17) 32 v19) 33 v20) 8 v19) 9 v20) 34 v15) 35 v21) 36 v21) 36 (Value.bool false)) 37 v20) 38 v22) 39 v22) 40 v22) 40 (Value.bool false)) 41 v14) 42 v23) 43 v24) 44 v24) h18 (contX pl9 prog J 109 h.length 9 ct9 [1, 1, 1, 1, 1, 1, 0, 1] (codeOf f9) [] (RetQ prog [.tmp 2] h.length K)))))) := top_eq pok9 ct9 (by kernel_rfl)
end
section
variable {main : Bool} {J : JT} {n0 : Nat} {h : List AObj} {K : Value → List AObj → Prop}
theorem at67 : prog.funcs[67]? = some f67 := by kernel_rfl
theorem body67 : f67.body = some (codeOf f67) := by kernel_rfl
def pl67 : Plans := []
def ct67 : Cuts := .go
theorem pok67 : plansOk prog pl67 (codeOf f67) = true := by kernel_rfl
theorem e67 : W prog J 2 h.length 67 (codeOf f67) (RG.mk (regs []) []) h (RetQ prog [.cell 0 46] h.length K) =
(aAlloc [(vint 0), (vint 0), (vint 0), (vint 0), (vint 0), (vint 0)] h fun v1 h2 =>
aFill [(vint 0), (vint 0), (vint 0), (vint 0), (vint 0), (vint 0)] [(0, 1, (vint 12)), (1, 1, (vint 20)), (2, 1, (vint 1)), (3, 1, (vint 4)), (4, 1, (vint 3)), (5, 1, (vint 2))] fun c3 =>
aStore 6 v1 (Value.agg ⟨c3⟩) h2 fun h4 =>
RetQ prog [.cell 0 46] h.length K .ret (RG.p (RG.p (RG.mk (regs []) []) 0 v1) 1 (Value.agg ⟨c3⟩)) h4) := top_eq pok67 ct67 (by kernel_rfl)
theorem g67 (hJ : Closed prog main J) (hs : heapOk h → W prog J 2 h.length 67 (codeOf f67) (RG.mk (regs []) []) h (RetQ prog [.cell 0 46] h.length K)) : Good prog J 67 [] h K :=
  good_of_W hJ mixed at67 body67 (by kernel_rfl) (Nat.le_of_ble_eq_true rfl) hs
theorem at68 : prog.funcs[68]? = some f68 := by kernel_rfl
theorem body68 : f68.body = some (codeOf f68) := by kernel_rfl
def pl68 : Plans := []
def ct68 : Cuts := .go
theorem pok68 : plansOk prog pl68 (codeOf f68) = true := by kernel_rfl
theorem e68 : W prog J 2 h.length 68 (codeOf f68) (RG.mk (regs []) []) h (RetQ prog [.cell 0 48] h.length K) =
(aAlloc [(vint 0), (vint 0), (vint 0)] h fun v1 h2 =>
aFill [(vint 0), (vint 0), (vint 0)] [(0, 1, (vint 3)), (1, 1, (vint 2)), (2, 1, (vint 2))] fun c3 =>
aStore 3 v1 (Value.agg ⟨c3⟩) h2 fun h4 =>
RetQ prog [.cell 0 48] h.length K .ret (RG.p (RG.p (RG.mk (regs []) []) 0 v1) 1 (Value.agg ⟨c3⟩)) h4) := top_eq pok68 ct68 (by kernel_rfl)
theorem g68 (hJ : Closed prog main J) (hs : heapOk h → W prog J 2 h.length 68 (codeOf f68) (RG.mk (regs []) []) h (RetQ prog [.cell 0 48] h.length K)) : Good prog J 68 [] h K :=
  good_of_W hJ mixed at68 body68 (by kernel_rfl) (Nat.le_of_ble_eq_true rfl) hs
end
section
variable {main : Bool} {J : JT} {n0 : Nat} {h : List AObj} {K : Value → List AObj → Prop}
theorem at66 : prog.funcs[66]? = some f66 := by kernel_rfl
theorem body66 : f66.body = some (codeOf f66) := by kernel_rfl
def pl66 : Plans := []
def ct66 : Cuts := .go
theorem pok66 : plansOk prog pl66 (codeOf f66) = true := by kernel_rfl
theorem e66 : W prog J 6 h.length 66 (codeOf f66) (RG.mk (regs []) []) h (RetQ prog [.cell 0 26] h.length K) =
(aAlloc [(vint 0), (vint 0), (vint 0), (Value.slice none 0 0)] h fun v1 h2 =>
aFill [(vint 0), (vint 0), (vint 0)] [(0, 1, (vint 6)), (1, 1, (vint 10)), (2, 1, (vint 3))] fun c3 =>
aFill [(vint 0), (vint 0)] [(0, 1, (vint 4)), (1, 1, (vint 3))] fun c4 =>
aFill [(vint 0), (vint 0)] [(0, 1, (vint 5)), (1, 1, (vint 4))] fun c5 =>
(((2 * 2 : Nat) ≤ 16777216 ∧ (2 : Nat) ≤ 16777216 ∧ List.length [(vint 0), (vint 0)] = 2) ∧ aFill (zrep [(vint 0), (vint 0)] 2) [(0, 2, (Value.agg ⟨c4⟩)), (2, 2, (Value.agg ⟨c5⟩))] fun c6 =>
aNewS 2 c6 h2 fun v7 h8 =>
aFill [(vint 0), (vint 0), (vint 0), (Value.slice none 0 0)] [(0, 3, (Value.agg ⟨c3⟩)), (3, 1, v7)] fun c9 =>
aStore 4 v1 (Value.agg ⟨c9⟩) h8 fun h10 =>
RetQ prog [.cell 0 26] h.length K .ret (RG.p (RG.p (RG.p (RG.p (RG.p (RG.p (RG.mk (regs []) []) 0 v1) 1 (Value.agg ⟨c3⟩)) 2 (Value.agg ⟨c4⟩)) 3 (Value.agg ⟨c5⟩)) 4 v7) 5 (Value.agg ⟨c9⟩)) h10)) := top_eq pok66 ct66 (by kernel_rfl)
theorem g66 (hJ : Closed prog main J) (hs : heapOk h → W prog J 6 h.length 66 (codeOf f66) (RG.mk (regs []) []) h (RetQ prog [.cell 0 26] h.length K)) : Good prog J 66 [] h K :=
  good_of_W hJ mixed at66 body66 (by kernel_rfl) (Nat.le_of_ble_eq_true rfl) hs
theorem at19 : prog.funcs[19]? = some f19 := by kernel_rfl
theorem body19 : f19.body = some (codeOf f19) := by kernel_rfl
def pl19 : Plans := []
def ct19 : Cuts := .go
theorem pok19 : plansOk prog pl19 (codeOf f19) = true := by kernel_rfl
theorem e19 : W prog J 89 h.length 19 (codeOf f19) (RG.mk (regs []) []) h (RetQ prog [.tmp 0] h.length K) =
(Good prog J 66 [] h fun v1 h2 =>
(((3 * 1 : Nat) ≤ 16777216 ∧ (3 : Nat) ≤ 16777216 ∧ List.length [(vint 0)] = 1) ∧ aFill (zrep [(vint 0)] 3) [(0, 1, (vint 0)), (1, 1, (vint 1)), (2, 1, (vint (-1)))] fun c3 =>
aNewS 3 c3 h2 fun v4 h5 =>
Good prog J 37 [v1, v4, (vint 4)] h5 fun v6 h7 =>
aExt v6 0 fun v8 =>
aExt v6 1 fun v9 =>
Good prog J 66 [] h7 fun v10 h11 =>
(((2 * 1 : Nat) ≤ 16777216 ∧ (2 : Nat) ≤ 16777216 ∧ List.length [(vint 0)] = 1) ∧ aFill (zrep [(vint 0)] 2) [(0, 1, (vint 0)), (1, 1, (vint 1))] fun c12 =>
aNewS 2 c12 h11 fun v13 h14 =>
Good prog J 38 [v10, v13] h14 fun v15 h16 =>
aExt v15 0 fun v17 =>
aExt v15 1 fun v18 =>
Good prog J 66 [] h16 fun v19 h20 =>
Good prog J 39 [v19] h20 fun v21 h22 =>
aExt v21 0 fun v23 =>
aExt v21 1 fun v24 =>
Good prog J 66 [] h22 fun v25 h26 =>
(((2 * 1 : Nat) ≤ 16777216 ∧ (2 : Nat) ≤ 16777216 ∧ List.length [(vint 0)] = 1) ∧ aFill (zrep [(vint 0)] 2) [(0, 1, (vint 2)), (1, 1, (vint 0))] fun c27 =>
aNewS 2 c27 h26 fun v28 h29 =>
Good prog J 26 [v25, v28] h29 fun v30 h31 =>
aExt v30 0 fun v32 =>
aExt v30 1 fun v33 =>
aExt v30 2 fun v34 =>
Good prog J 66 [] h31 fun v35 h36 =>
aField true 3 0 v35 fun v37 =>
Good prog J 67 [] h36 fun v38 h39 =>
Good prog J 68 [] h39 fun v40 h41 =>
Good prog J 34 [v37, v38, v40, (vint 0), (vint 3)] h41 fun v42 h43 =>
aExt v42 0 fun v44 =>
aExt v42 1 fun v45 =>
aBin prog .eql 39 v9 (vint 0) fun v46 =>
cnd v46
(aBin prog .eql 39 v18 (vint 0) fun v47 =>
cnd v47
(aBin prog .eql 39 v24 (vint 0) fun v48 =>
cnd v48
(aBin prog .eql 39 v34 (vint 0) fun v49 =>
cnd v49
(aBin prog .eql 39 v45 (vint 0) fun v50 =>
cnd v50
(aBin prog .eql 3 v17 (vint 2) fun v51 =>
cnd v51
(aBin prog .eql 3 v33 (vint 0) fun v52 =>
cnd v52
(aBin prog .eql 3 v44 (vint 4) fun v53 =>
cnd v53
((((4 * 1 : Nat) ≤ 16777216 ∧ (4 : Nat) ≤ 16777216 ∧ List.length [(vint 0)] = 1) ∧ aFill (zrep [(vint 0)] 4) [(0, 1, (vint 5)), (1, 1, (vint 3)), (2, 1, (vint 6)), (3, 1, (vint 5))] fun c54 =>
aNewS 4 c54 h43 fun v55 h56 =>
Good prog J 28 [v8, v55] h56 fun v57 h58 =>
cnd v57
((((3 * 1 : Nat) ≤ 16777216 ∧ (3 : Nat) ≤ 16777216 ∧ List.length [(vint 0)] = 1) ∧ aFill (zrep [(vint 0)] 3) [(0, 1, (vint (-1))), (1, 1, (vint 0)), (2, 1, (vint 1))] fun c59 =>
aNewS 3 c59 h58 fun v60 h61 =>
Good prog J 28 [v23, v60] h61 fun v62 h63 =>
cnd v62
((((2 * 1 : Nat) ≤ 16777216 ∧ (2 : Nat) ≤ 16777216 ∧ List.length [(vint 0)] = 1) ∧ aFill (zrep [(vint 0)] 2) [(0, 1, (vint 1)), (1, 1, (vint 0))] fun c64 =>
aNewS 2 c64 h63 fun v65 h66 =>
Good prog J 28 [v32, v65] h66 fun v67 h68 =>
retL h.length K [] [v67] h68))
(retL h.length K [] [(Value.bool false)] h63)))
(retL h.length K [] [(Value.bool false)] h58)))
(retL h.length K [] [(Value.bool false)] h43))
(retL h.length K [] [(Value.bool false)] h43))
(retL h.length K [] [(Value.bool false)] h43))
(retL h.length K [] [(Value.bool false)] h43))
(retL h.length K [] [(Value.bool false)] h43))
(retL h.length K [] [(Value.bool false)] h43))
(retL h.length K [] [(Value.bool false)] h43))
(retL h.length K [] [(Value.bool false)] h43))))) := top_eq pok19 ct19 (by kernel_rfl)
theorem g19 (hJ : Closed prog main J) (hs : heapOk h → W prog J 89 h.length 19 (codeOf f19) (RG.mk (regs []) []) h (RetQ prog [.tmp 0] h.length K)) : Good prog J 19 [] h K :=
  good_of_W hJ mixed at19 body19 (by kernel_rfl) (Nat.le_of_ble_eq_true rfl) hs
end
end Go.Proofs.Ytindillghipjjaa
