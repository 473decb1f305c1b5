/- Parts of the proof, 5. No conditions. -/
import Derived.Test.YthnccaajpdnndaaK2
import Derived.Test.YthnccaajpdnndaaK3
import Derived.Test.YthnccaajpdnndaaK4
set_option linter.unusedSimpArgs false
set_option linter.unusedVariables false
namespace Go.Proofs.Ythnccaajpdnndaa
open Go.Conc Go.Proofs.Try
set_option maxRecDepth 100000
set_option maxHeartbeats 4000000
set_option linter.unusedVariables false
section
variable {main : Bool} {J : JT} {n0 : Nat} {h : List AObj} {K : Value → List AObj → Prop}
theorem at89 : prog.funcs[89]? = some f89 := by kernel_rfl
theorem body89 : f89.body = some (codeOf f89) := by kernel_rfl
def pl89 : Plans := [(14, false, .take 0 (.take 1 (.take 2 (.take 3 (.take 4 (.take 5 (.take 6 (.take 7 (.take 8 (.last 9 true (.take 10 (.take 11 (.take 12 (.take 13 (.take 14 (.fin))))))))))))))))]
def ct89 : Cuts := .go
theorem pok89 : plansOk prog pl89 (codeOf f89) = true := by kernel_rfl
theorem e89 {a0 a1 a2 a3 a4 : Value} : W prog J 60 h.length 89 (codeOf f89) (RG.mk (regs [a0, a1, a2, a3, a4]) []) h (RetQ prog [.tmp 10] h.length K) =
(aBox a0 h fun v1 h2 =>
 aBox a1 h2 fun v3 h4 =>
 aBox a3 h4 fun v5 h6 =>
 aBox a4 h6 fun v7 h8 =>
 aOff v3 0 fun v9 =>
 aLoad false 1 v9 h8 fun v10 =>
((List.length [(vint 0)] = 1 ∧ (8 : Nat) ≤ 1024) ∧ aMkS [(vint 0)] v10 v10 h8 fun v11 h12 =>
 aAlloc [(Value.slice none 0 0)] h12 fun v13 h14 =>
 aStore 1 v13 v11 h14 fun h15 =>
 aLoad false 1 v7 h15 fun v16 =>
 Sem J 60 h.length 89 (subC [1, 0, 1, 0, 1, 0] (codeOf f89)) (RG.p (RG.p (RG.p (RG.p (RG.p (RG.p (RG.p (RG.p (RG.p (RG.p (RG.p (RG.mk (regs [a0, a1, a2, a3, a4]) []) 5 v1) 6 v3) 8 v5) 9 v7) 10 (Value.bool false)) 19 v9) 20 v10) 21 v11) 11 v13) 22 v16) 23 (vint 0)) h15 (contX pl89 prog J 60 h.length 89 ct89 [1, 0, 1, 0, 1, 0] (codeOf f89) [] (RetQ prog [.tmp 10] h.length K)))) := top_eq pok89 ct89 (by kernel_rfl)
theorem g89 (hJ : Closed prog main J) {a0 a1 a2 a3 a4 : Value} (hs : heapOk h → W prog J 60 h.length 89 (codeOf f89) (RG.mk (regs [a0, a1, a2, a3, a4]) []) h (RetQ prog [.tmp 10] h.length K)) : Good prog J 89 [a0, a1, a2, a3, a4] h K :=
 good_of_W hJ mixed at89 body89 (by kernel_rfl) (Nat.le_of_ble_eq_true rfl) hs
theorem s89_1 {f : RG} {nx0 : RG → List AObj → Prop} : W prog J 60 n0 89 (subC [1, 0, 1, 0, 1, 0, 0] (codeOf f89)) f h (thenK nx0 (contX pl89 prog J 60 n0 89 ct89 [1, 0, 1, 0, 1, 0] (codeOf f89) [] (RetQ prog [.tmp 10] n0 K))) =
(aBin prog .lss 3 (f.r 23) (f.r 22) fun v1 =>
 cnd v1
(aLoad false 1 (f.r 11) h fun v2 =>
 aLoad false 1 (f.r 8) h fun v3 =>
 aBin prog .add 3 v3 (f.r 23) fun v4 =>
 aIdx 1 v2 v4 fun v5 =>
 aStore 1 v5 (f.r 2) h fun h6 =>
 aBin prog .add 3 (f.r 23) (vint 1) fun v7 =>
 nx0 (RG.p (RG.p (RG.p (RG.p (RG.p (RG.p (RG.p (RG.p (RG.p (RG.p (RG.p f 24 v1) 25 (f.r 23)) 12 (f.r 23)) 26 v2) 27 v3) 28 (f.r 23)) 29 v4) 30 (f.r 2)) 31 v5) 32 v7) 23 v7) h6)
(aAlloc [(Value.bool false)] h fun v8 h9 =>
 aStore 1 v8 (Value.bool true) h9 fun h10 =>
 aLoad true 3 (f.r 6) h10 fun v11 =>
 Good prog J 90 [v11] h10 fun v12 h13 =>
 Sem J 60 n0 89 (subC [1, 0, 1, 1, 1, 1, 0, 1, 0] (codeOf f89)) (RG.p (RG.p (RG.p (RG.p f 24 v1) 13 v8) 33 v11) 34 v12) h13 (contX pl89 prog J 60 n0 89 ct89 [1, 0, 1, 1, 1, 1, 0, 1, 0] (codeOf f89) [] (RetQ prog [.tmp 10] n0 K)))) := sub_eq pok89 ct89 (by kernel_rfl)
theorem l89_1 (hJ : Closed prog main J) {S : Type} (μ : S → Nat) (I : S → RG → List AObj → Prop) (hI : ∀ s f h, I s f h → heapOk h → n0 ≤ h.length → W prog J 60 n0 89 (subC [1, 0, 1, 0, 1, 0, 0] (codeOf f89)) f h (thenK (Nx n0 μ I s) (contX pl89 prog J 60 n0 89 ct89 [1, 0, 1, 0, 1, 0] (codeOf f89) [] (RetQ prog [.tmp 10] n0 K))))
 {s : S} {f : RG} (hi : Gets n0 I s f h) : Sem J 60 n0 89 (subC [1, 0, 1, 0, 1, 0] (codeOf f89)) f h (contX pl89 prog J 60 n0 89 ct89 [1, 0, 1, 0, 1, 0] (codeOf f89) [] (RetQ prog [.tmp 10] n0 K)) :=
 loop_rule hJ mixed (b := subC [1, 0, 1, 0, 1, 0, 0] (codeOf f89)) (by kernel_rfl) μ I hI hi
theorem a89_2 {f : RG} {fr : FuncId} {Q : QT} : W prog J 60 n0 fr (subC [1, 0, 1, 1, 1, 1, 0, 1, 0, 0] (codeOf f89)) f h Q =
(Q .normal (RG.p f 14 (f.r 35)) h) := sub_eq pok89 ct89 (by kernel_rfl)
theorem b89_2 {f : RG} {fr : FuncId} {Q : QT} : W prog J 60 n0 fr (subC [1, 0, 1, 1, 1, 1, 0, 1, 0, 1] (codeOf f89)) f h Q =
(aLoad true 6 (f.r 5) h fun v1 =>
 Good prog J 125 [v1] h fun v2 h3 =>
 aLoad false 1 (f.r 8) h3 fun v4 =>
 aLoad false 1 (f.r 9) h3 fun v5 =>
 aBin prog .add 3 v4 v5 fun v6 =>
 Sem J 60 n0 fr (subC [1, 0, 1, 1, 1, 1, 0, 1, 0, 1, 0, 1, 1, 0] (codeOf f89)) (RG.p (RG.p (RG.p (RG.p (RG.p (RG.p (RG.p f 36 v1) 37 v2) 15 v2) 38 v4) 39 v5) 40 v6) 41 (vint 0)) h3 (contX pl89 prog J 60 n0 fr .go [0, 1, 1, 0] (subC [1, 0, 1, 1, 1, 1, 0, 1, 0, 1] (codeOf f89)) [] Q)) := sub_eq pok89 ct89 (by kernel_rfl)
theorem c89_2x2 {f : RG} : (contX pl89 prog J 60 n0 89 ct89 [1, 0, 1, 1, 1, 1, 0, 1, 0] (codeOf f89) [] (RetQ prog [.tmp 10] n0 K)) (.exit 2) f h =
(aLoad false 1 (f.r 13) h fun v1 =>
 retL n0 K f.ds [v1] h) := by kernel_rfl
theorem c89_2 {f : RG} : (contX pl89 prog J 60 n0 89 ct89 [1, 0, 1, 1, 1, 1, 0, 1, 0] (codeOf f89) [] (RetQ prog [.tmp 10] n0 K)) .normal f h =
(aLoad false 1 (f.r 13) h fun v1 =>
 retL n0 K f.ds [v1] h) := by kernel_rfl
theorem l89_2 (hJ : Closed prog main J) {f : RG} {g : FuncId} {first cap : List Value} (hx : ev f.r ((Go.Operand.tmp 34)) = .func (.func g) ⟨first⟩ ⟨cap⟩) (hg : g < prog.funcs.size)
 (hs : Good prog J g (first ++ [.func (.yield (h.length + 1)) ⟨[]⟩ ⟨[]⟩] ++ cap) (h ++ [.deferred] ++ [.loop .ready none 89 f.r 60 #[35] (subC [1, 0, 1, 1, 1, 1, 0, 1, 0, 0] (codeOf f89)) (subC [1, 0, 1, 1, 1, 1, 0, 1, 0, 1] (codeOf f89)) h.length]) (endQ h.length f (contX pl89 prog J 60 n0 89 ct89 [1, 0, 1, 1, 1, 1, 0, 1, 0] (codeOf f89) [] (RetQ prog [.tmp 10] n0 K)))) (hcall : callable prog g = true := by kernel_rfl) : Sem J 60 n0 89 (subC [1, 0, 1, 1, 1, 1, 0, 1, 0] (codeOf f89)) f h (contX pl89 prog J 60 n0 89 ct89 [1, 0, 1, 1, 1, 1, 0, 1, 0] (codeOf f89) [] (RetQ prog [.tmp 10] n0 K)) :=
 Sem_range hJ (by decide) (fop := (Go.Operand.tmp 34)) (params := #[35]) (assign := subC [1, 0, 1, 1, 1, 1, 0, 1, 0, 0] (codeOf f89)) (body := subC [1, 0, 1, 1, 1, 1, 0, 1, 0, 1] (codeOf f89)) hx hg hs hcall
theorem s89_3 {f : RG} {fr : FuncId} {Q : QT} {nx0 : RG → List AObj → Prop} : W prog J 60 n0 fr (subC [1, 0, 1, 1, 1, 1, 0, 1, 0, 1, 0, 1, 1, 0, 0] (codeOf f89)) f h (thenK nx0 (contX pl89 prog J 60 n0 fr .go [0, 1, 1, 0] (subC [1, 0, 1, 1, 1, 1, 0, 1, 0, 1] (codeOf f89)) [] Q)) =
(aBin prog .lss 3 (f.r 41) (f.r 40) fun v1 =>
 cnd v1
((∃ B, aLoad false 1 (f.r 11) h fun v2 =>
 RdOk (some B) (ptrBlk (f.r 11)) ∧ (aIdx 1 v2 (f.r 41) fun v3 =>
 aLoad false 1 v3 h fun v4 =>
 RdOk (some B) (ptrBlk v3) ∧ (aIdxStr (f.r 14) (f.r 41) fun v5 =>
 aBin prog .eql 5 v5 (Value.int .u8 119) fun v6 =>
 Good prog J 126 [(f.r 15), v4, v6] h fun v7 h8 =>
 SameB (some B) h h8 ∧ (aExt v7 0 fun v9 =>
 aExt v7 1 fun v10 =>
 cnd v9
(aStore 1 (f.r 13) (Value.bool false) h8 fun h11 =>
 Q (.exit 2) (RG.p (RG.p (RG.p (RG.p (RG.p (RG.p (RG.p (RG.p (RG.p (RG.p (RG.p (RG.p (RG.p (RG.p (RG.p (RG.p (RG.p (RG.p (RG.p f 42 v1) 43 (f.r 41)) 16 (f.r 41)) 45 (f.r 15)) 46 v2) 47 (f.r 41)) 48 v3) 49 v4) 50 (f.r 14)) 51 (f.r 41)) 52 v5) 53 v6) 54 v7) 44 v7) 55 v9) 56 v10) 17 v9) 18 v10) 57 v9) h11)
(aBin prog .add 3 (f.r 41) (vint 1) fun v12 =>
 nx0 (RG.p (RG.p (RG.p (RG.p (RG.p (RG.p (RG.p (RG.p (RG.p (RG.p (RG.p (RG.p (RG.p (RG.p (RG.p (RG.p (RG.p (RG.p (RG.p (RG.p (RG.p f 42 v1) 43 (f.r 41)) 16 (f.r 41)) 45 (f.r 15)) 46 v2) 47 (f.r 41)) 48 v3) 49 v4) 50 (f.r 14)) 51 (f.r 41)) 52 v5) 53 v6) 54 v7) 44 v7) 55 v9) 56 v10) 17 v9) 18 v10) 57 v9) 58 v12) 41 v12) h8))))))
(Q .normal (RG.p f 42 v1) h)) := sub_eq pok89 ct89 (by kernel_rfl)
theorem l89_3 (hJ : Closed prog main J) {fr : FuncId} {Q : QT} {S : Type} (μ : S → Nat) (I : S → RG → List AObj → Prop) (hI : ∀ s f h, I s f h → heapOk h → n0 ≤ h.length → W prog J 60 n0 fr (subC [1, 0, 1, 1, 1, 1, 0, 1, 0, 1, 0, 1, 1, 0, 0] (codeOf f89)) f h (thenK (Nx n0 μ I s) (contX pl89 prog J 60 n0 fr .go [0, 1, 1, 0] (subC [1, 0, 1, 1, 1, 1, 0, 1, 0, 1] (codeOf f89)) [] Q)))
 {s : S} {f : RG} (hi : Gets n0 I s f h) : Sem J 60 n0 fr (subC [1, 0, 1, 1, 1, 1, 0, 1, 0, 1, 0, 1, 1, 0] (codeOf f89)) f h (contX pl89 prog J 60 n0 fr .go [0, 1, 1, 0] (subC [1, 0, 1, 1, 1, 1, 0, 1, 0, 1] (codeOf f89)) [] Q) :=
 loop_rule hJ mixed (b := subC [1, 0, 1, 1, 1, 1, 0, 1, 0, 1, 0, 1, 1, 0, 0] (codeOf f89)) (by kernel_rfl) μ I hI hi
theorem at98 : prog.funcs[98]? = some f98 := by kernel_rfl
theorem body98 : f98.body = some (codeOf f98) := by kernel_rfl
def pl98 : Plans := [(5, true, .take 0 (.take 1 (.take 2 (.take 3 (.take 4 (.take 5 (.take 6 (.take 7 (.take 8 (.last 9 false (.take 10 (.take 11 (.take 12 (.take 13 (.take 14 (.fin))))))))))))))))]
def ct98 : Cuts := .go
theorem pok98 : plansOk prog pl98 (codeOf f98) = true := by kernel_rfl
theorem e98 {a0 a1 a2 : Value} : W prog J 34 h.length 98 (codeOf f98) (RG.mk (regs [a0, a1, a2]) []) h (RetQ prog [.tmp 6] h.length K) =
(aBox a0 h fun v1 h2 =>
 aLoad true 6 v1 h2 fun v3 =>
 Good prog J 125 [v3] h2 fun v4 h5 =>
 aLenStr a2 fun v6 =>
 Sem J 34 h.length 98 (subC [1, 1, 0, 1, 0] (codeOf f98)) (RG.p (RG.p (RG.p (RG.p (RG.p (RG.p (RG.p (RG.p (RG.mk (regs [a0, a1, a2]) []) 3 v1) 6 (vint 0)) 11 v3) 12 v4) 7 v4) 13 a2) 14 v6) 15 (vint 0)) h5 (contX pl98 prog J 34 h.length 98 ct98 [1, 1, 0, 1, 0] (codeOf f98) [] (RetQ prog [.tmp 6] h.length K))) := top_eq pok98 ct98 (by kernel_rfl)
theorem g98 (hJ : Closed prog main J) {a0 a1 a2 : Value} (hs : heapOk h → W prog J 34 h.length 98 (codeOf f98) (RG.mk (regs [a0, a1, a2]) []) h (RetQ prog [.tmp 6] h.length K)) : Good prog J 98 [a0, a1, a2] h K :=
 good_of_W hJ mixed at98 body98 (by kernel_rfl) (Nat.le_of_ble_eq_true rfl) hs
theorem s98_1 {f : RG} {nx0 : RG → List AObj → Prop} : W prog J 34 n0 98 (subC [1, 1, 0, 1, 0, 0] (codeOf f98)) f h (thenK nx0 (contX pl98 prog J 34 n0 98 ct98 [1, 1, 0, 1, 0] (codeOf f98) [] (RetQ prog [.tmp 6] n0 K))) =
(aBin prog .lss 3 (f.r 15) (f.r 14) fun v1 =>
 cnd v1
(aIdx 1 (f.r 1) (f.r 15) fun v2 =>
 aLoad false 1 v2 h fun v3 =>
 aIdxStr (f.r 2) (f.r 15) fun v4 =>
 aBin prog .eql 5 v4 (Value.int .u8 119) fun v5 =>
 Good prog J 126 [(f.r 7), v3, v5] h fun v6 h7 =>
 aExt v6 0 fun v8 =>
 aExt v6 1 fun v9 =>
 cnd v8
(retL n0 K f.ds [(f.r 15)] h7)
(aBin prog .add 3 (f.r 15) (vint 1) fun v10 =>
 nx0 (RG.p (RG.p (RG.p (RG.p (RG.p (RG.p (RG.p (RG.p (RG.p (RG.p (RG.p (RG.p (RG.p (RG.p (RG.p (RG.p (RG.p (RG.p (RG.p (RG.p (RG.p f 16 v1) 17 (f.r 15)) 8 (f.r 15)) 19 (f.r 7)) 20 (f.r 1)) 21 (f.r 15)) 22 v2) 23 v3) 24 (f.r 2)) 25 (f.r 15)) 26 v4) 27 v5) 28 v6) 18 v6) 29 v8) 30 v9) 9 v8) 10 v9) 31 v8) 33 v10) 15 v10) h7))
(retL n0 K f.ds [(vint (-1))] h)) := sub_eq pok98 ct98 (by kernel_rfl)
theorem l98_1 (hJ : Closed prog main J) {S : Type} (μ : S → Nat) (I : S → RG → List AObj → Prop) (hI : ∀ s f h, I s f h → heapOk h → n0 ≤ h.length → W prog J 34 n0 98 (subC [1, 1, 0, 1, 0, 0] (codeOf f98)) f h (thenK (Nx n0 μ I s) (contX pl98 prog J 34 n0 98 ct98 [1, 1, 0, 1, 0] (codeOf f98) [] (RetQ prog [.tmp 6] n0 K))))
 {s : S} {f : RG} (hi : Gets n0 I s f h) : Sem J 34 n0 98 (subC [1, 1, 0, 1, 0] (codeOf f98)) f h (contX pl98 prog J 34 n0 98 ct98 [1, 1, 0, 1, 0] (codeOf f98) [] (RetQ prog [.tmp 6] n0 K)) :=
 loop_rule hJ mixed (b := subC [1, 1, 0, 1, 0, 0] (codeOf f98)) (by kernel_rfl) μ I hI hi
theorem at33 : prog.funcs[33]? = some f33 := by kernel_rfl
theorem body33 : f33.body = some (codeOf f33) := by kernel_rfl
def pl33 : Plans := [(1, false, .take 0 (.take 2 (.last 1 true (.last 3 true (.last 4 true (.last 5 true (.take 6 (.fin))))))))]
def ct33 : Cuts := .bin (.go) (.bin (.go) (.bin (.go) (.bin (.go) (.bin (.go) (.bin (.un (.un (.bin (.bin (.go) (.cut (.go))) (.go)))) (.go))))))
theorem pok33 : plansOk prog pl33 (codeOf f33) = true := by kernel_rfl
theorem e33 {a0 a1 a2 a3 : Value} : W prog J 48 h.length 33 (codeOf f33) (RG.mk (regs [a0, a1, a2, a3]) []) h (RetQ prog [.tmp 8, .tmp 9] h.length K) =
(aBox a0 h fun v1 h2 =>
 aBox a1 h2 fun v3 h4 =>
(∃ B, aLoad true 6 v1 h4 fun v5 =>
 RdOk (some B) (ptrBlk v1) ∧ (aLoad true 3 v3 h4 fun v6 =>
 RdOk (some B) (ptrBlk v3) ∧ (Good prog J 36 [v5] h4 fun v7 h8 =>
 SameB (some B) h4 h8 ∧ (Good prog J 72 [v6] h8 fun v9 h10 =>
 SameB (some B) h4 h10 ∧ ((((2 * 1 : Nat) ≤ 16777216 ∧ (2 : Nat) ≤ 16777216 ∧ List.length [(vint 0)] = 1) ∧ aFill (zrep [(vint 0)] 2) [(0, 1, v7), (1, 1, v9)] fun c11 =>
 aNewS 2 c11 h10 fun v12 h13 =>
 SameB (some B) h4 h13 ∧ (Good prog J 88 [v12] h13 fun v14 h15 =>
 SameB (some B) h4 h15 ∧ (aBin prog .neq 37 v14 (vint 0) fun v16 =>
 cnd v16
(retL h.length K [] [(vint 0), v14] h15)
(aOff v3 0 fun v17 =>
 aLoad false 1 v17 h15 fun v18 =>
 aBin prog .sub 3 v18 (vint 1) fun v19 =>
 Good prog J 73 [a2, (vint 0), v19] h15 fun v20 h21 =>
 aUn .not v20 fun v22 =>
 cnd v22
(retL h.length K [] [(vint 0), (vint 3)] h21)
(aOff v3 0 fun v23 =>
 aLoad false 1 v23 h21 fun v24 =>
 aBin prog .sub 3 v24 a2 fun v25 =>
 Good prog J 73 [a3, (vint 1), v25] h21 fun v26 h27 =>
 aUn .not v26 fun v28 =>
 cnd v28
(retL h.length K [] [(vint 0), (vint 1)] h27)
(Sem J 48 h.length 33 (subC [1, 1, 1, 1, 1, 0, 0] (codeOf f33)) (RG.p (RG.p (RG.p (RG.p (RG.p (RG.p (RG.p (RG.p (RG.p (RG.p (RG.p (RG.p (RG.p (RG.p (RG.p (RG.p (RG.p (RG.p (RG.p (RG.p (RG.p (RG.p (RG.p (RG.p (RG.p (RG.p (RG.p (RG.mk (regs [a0, a1, a2, a3]) []) 4 v1) 5 v3) 8 (vint 0)) 9 (vint 0)) 12 v5) 14 v6) 13 v7) 15 v9) 16 v12) 17 v14) 10 v14) 18 v14) 19 v16) 21 a2) 22 v17) 23 v18) 24 v19) 25 v20) 26 v22) 27 a3) 28 v23) 29 v24) 30 a2) 31 v25) 32 v26) 33 v28) 11 (vint 40)) h27 (contX pl33 prog J 48 h.length 33 ct33 [1, 1, 1, 1, 1, 0, 0] (codeOf f33) [] (RetQ prog [.tmp 8, .tmp 9] h.length K)))))))))))))) := top_eq pok33 ct33 (by kernel_rfl)
theorem g33 (hJ : Closed prog main J) {a0 a1 a2 a3 : Value} (hs : heapOk h → W prog J 48 h.length 33 (codeOf f33) (RG.mk (regs [a0, a1, a2, a3]) []) h (RetQ prog [.tmp 8, .tmp 9] h.length K)) : Good prog J 33 [a0, a1, a2, a3] h K :=
 good_of_W hJ mixed at33 body33 (by kernel_rfl) (Nat.le_of_ble_eq_true rfl) hs
theorem s33_1 {f : RG} {nx0 : RG → List AObj → Prop} : W prog J 48 n0 33 (subC [1, 1, 1, 1, 1, 0, 0, 0] (codeOf f33)) f h (thenK nx0 (contX pl33 prog J 48 n0 33 ct33 [1, 1, 1, 1, 1, 0, 0] (codeOf f33) [] (RetQ prog [.tmp 8, .tmp 9] n0 K))) =
(aBin prog .gtr 3 (f.r 11) (vint 0) fun v1 =>
 cnd v1
(aLoad true 6 (f.r 4) h fun v2 =>
 aLoad true 3 (f.r 5) h fun v3 =>
 Good prog J 89 [v2, v3, (f.r 11), (f.r 2), (f.r 3)] h fun v4 h5 =>
 aUn .not v4 fun v6 =>
 Hold (W prog J 48 n0 33 (subC [1, 1, 1, 1, 1, 0, 0, 0, 0, 1] (codeOf f33)) (RG.p (RG.p (RG.p (RG.p (RG.p (RG.p (RG.p (RG.p (RG.p (RG.p (RG.p (RG.p f 34 (f.r 11)) 35 v1) 36 v1) 36 (Value.bool true)) 37 v2) 38 v3) 39 (f.r 11)) 40 (f.r 2)) 41 (f.r 3)) 42 v4) 43 v6) 44 v6) h5 (contX pl33 prog J 48 n0 33 ct33 [1, 1, 1, 1, 1, 0, 0, 0, 0, 1] (codeOf f33) [nx0] (RetQ prog [.tmp 8, .tmp 9] n0 K))))
(Hold (W prog J 48 n0 33 (subC [1, 1, 1, 1, 1, 0, 0, 0, 0, 1] (codeOf f33)) (RG.p (RG.p (RG.p (RG.p (RG.p (RG.p (RG.p (RG.p (RG.p (RG.p (RG.p (RG.p f 34 (f.r 11)) 35 v1) 36 v1) 36 (Value.bool false)) 37 undef) 38 undef) 39 undef) 40 undef) 41 undef) 42 undef) 43 undef) 44 (Value.bool false)) h (contX pl33 prog J 48 n0 33 ct33 [1, 1, 1, 1, 1, 0, 0, 0, 0, 1] (codeOf f33) [nx0] (RetQ prog [.tmp 8, .tmp 9] n0 K))))) := sub_eq pok33 ct33 (by kernel_rfl)
theorem l33_1 (hJ : Closed prog main J) {S : Type} (μ : S → Nat) (I : S → RG → List AObj → Prop) (hI : ∀ s f h, I s f h → heapOk h → n0 ≤ h.length → W prog J 48 n0 33 (subC [1, 1, 1, 1, 1, 0, 0, 0] (codeOf f33)) f h (thenK (Nx n0 μ I s) (contX pl33 prog J 48 n0 33 ct33 [1, 1, 1, 1, 1, 0, 0] (codeOf f33) [] (RetQ prog [.tmp 8, .tmp 9] n0 K))))
 {s : S} {f : RG} (hi : Gets n0 I s f h) : Sem J 48 n0 33 (subC [1, 1, 1, 1, 1, 0, 0] (codeOf f33)) f h (contX pl33 prog J 48 n0 33 ct33 [1, 1, 1, 1, 1, 0, 0] (codeOf f33) [] (RetQ prog [.tmp 8, .tmp 9] n0 K)) :=
 loop_rule hJ mixed (b := subC [1, 1, 1, 1, 1, 0, 0, 0] (codeOf f33)) (by kernel_rfl) μ I hI hi
theorem s33_2 {f : RG} {nx0 : RG → List AObj → Prop} : W prog J 48 n0 33 (subC [1, 1, 1, 1, 1, 0, 0, 0, 0, 1] (codeOf f33)) f h (contX pl33 prog J 48 n0 33 ct33 [1, 1, 1, 1, 1, 0, 0, 0, 0, 1] (codeOf f33) [nx0] (RetQ prog [.tmp 8, .tmp 9] n0 K)) =
(cnd (f.r 44)
(aBin prog .sub 3 (f.r 11) (vint 1) fun v1 =>
 nx0 (RG.p (RG.p (RG.p f 45 (f.r 11)) 46 v1) 11 v1) h)
(retL n0 K f.ds [(f.r 11), (vint 0)] h)) := sub_eq pok33 ct33 (by kernel_rfl)
end
section
variable {main : Bool} {J : JT} {n0 : Nat} {h : List AObj} {K : Value → List AObj → Prop}
theorem at90 : prog.funcs[90]? = some f90 := by kernel_rfl
theorem body90 : f90.body = some (codeOf f90) := by kernel_rfl
def pl90 : Plans := []
def ct90 : Cuts := .go
theorem pok90 : plansOk prog pl90 (codeOf f90) = true := by kernel_rfl
theorem e90 {a0 : Value} : W prog J 4 h.length 90 (codeOf f90) (RG.mk (regs [a0]) []) h (RetQ prog [.tmp 2] h.length K) =
(aBox a0 h fun v1 h2 =>
 aMkF 127 [] [v1] fun v3 =>
 retL h.length K [] [v3] h2) := top_eq pok90 ct90 (by kernel_rfl)
theorem g90 (hJ : Closed prog main J) {a0 : Value} (hs : heapOk h → W prog J 4 h.length 90 (codeOf f90) (RG.mk (regs [a0]) []) h (RetQ prog [.tmp 2] h.length K)) : Good prog J 90 [a0] h K :=
 good_of_W hJ mixed at90 body90 (by kernel_rfl) (Nat.le_of_ble_eq_true rfl) hs
theorem at127 : prog.funcs[127]? = some f127 := by kernel_rfl
theorem body127 : f127.body = some (codeOf f127) := by kernel_rfl
def pl127 : Plans := [(3, false, .take 0 (.take 1 (.take 2 (.take 4 (.last 3 true (.last 5 true (.fin)))))))]
def ct127 : Cuts := .go
theorem pok127 : plansOk prog pl127 (codeOf f127) = true := by kernel_rfl
theorem e127 {a0 a1 : Value} : W prog J 11 h.length 127 (codeOf f127) (RG.mk (regs [a0, a1]) []) h (RetQ prog [] h.length K) =
(aBox a0 h fun v1 h2 =>
 aAlloc [(Value.nilFunc)] h2 fun v3 h4 =>
 aMkF 128 [] [a1, v1, v3] fun v5 =>
 aStore 1 v3 v5 h4 fun h6 =>
(∃ B, aLoad false 1 v3 h6 fun v7 =>
 RdOk (some B) (ptrBlk v3) ∧ (aOff a1 0 fun v8 =>
 aLoad false 1 v8 h6 fun v9 =>
 RdOk (some B) (ptrBlk v8) ∧ (aFill [(Value.int .u8 0), (vint 0)] [] fun c10 =>
((List.length [(Value.int .u8 0)] = 1 ∧ (1 : Nat) ≤ 1024) ∧ aMkS [(Value.int .u8 0)] (vint 0) v9 h6 fun v11 h12 =>
 SameB (some B) h6 h12 ∧ (callV prog (Good prog J) v7 [v11, (Value.agg ⟨c10⟩)] h12 fun v13 h14 =>
 SameB (some B) h6 h14 ∧ (retL h.length K [] [] h14))))))) := top_eq pok127 ct127 (by kernel_rfl)
theorem g127 (hJ : Closed prog main J) {a0 a1 : Value} (hs : heapOk h → W prog J 11 h.length 127 (codeOf f127) (RG.mk (regs [a0, a1]) []) h (RetQ prog [] h.length K)) : Good prog J 127 [a0, a1] h K :=
 good_of_W hJ mixed at127 body127 (by kernel_rfl) (Nat.le_of_ble_eq_true rfl) hs
theorem at128 : prog.funcs[128]? = some f128 := by kernel_rfl
theorem body128 : f128.body = some (codeOf f128) := by kernel_rfl
def pl128 : Plans := [(7, false, .take 0 (.take 1 (.take 2 (.take 3 (.take 4 (.take 7 (.last 5 true (.last 6 true (.last 8 false (.take 9 (.take 10 (.fin))))))))))))]
def ct128 : Cuts := .bin (.go) (.bin (.go) (.bin (.bin (.go) (.un (.un (.bin (.go) (.bin (.go) (.bin (.un (.bin (.go) (.bin (.go) (.bin (.go) (.cut (.go)))))) (.go))))))) (.go)))
theorem pok128 : plansOk prog pl128 (codeOf f128) = true := by kernel_rfl
theorem e128 {a0 a1 a2 a3 a4 : Value} : W prog J 44 h.length 128 (codeOf f128) (RG.mk (regs [a0, a1, a2, a3, a4]) []) h (RetQ prog [.tmp 7] h.length K) =
(aBox a1 h fun v1 h2 =>
 aLenS a0 fun v3 =>
 aOff a2 0 fun v4 =>
 aLoad false 1 v4 h2 fun v5 =>
 aBin prog .eql 3 v3 v5 fun v6 =>
 cnd v6
(aLoad false 1 a3 h2 fun v7 =>
 aB2S a0 h2 fun v8 =>
 callV prog (Good prog J) v7 [v8] h2 fun v9 h10 =>
 retL h.length K [] [v9] h10)
(aFill [(Value.int .u8 0), (Value.int .u8 0)] [(0, 1, (Value.int .u8 100)), (1, 1, (Value.int .u8 119))] fun c11 =>
 Sem J 44 h.length 128 (subC [1, 1, 0, 1, 0] (codeOf f128)) (RG.p (RG.p (RG.p (RG.p (RG.p (RG.p (RG.p (RG.p (RG.p (RG.mk (regs [a0, a1, a2, a3, a4]) []) 6 v1) 7 (Value.bool false)) 12 a0) 13 v3) 14 v4) 15 v5) 16 v6) 21 (Value.agg ⟨c11⟩)) 22 (vint 0)) h2 (contX pl128 prog J 44 h.length 128 ct128 [1, 1, 0, 1, 0] (codeOf f128) [] (RetQ prog [.tmp 7] h.length K)))) := top_eq pok128 ct128 (by kernel_rfl)
theorem g128 (hJ : Closed prog main J) {a0 a1 a2 a3 a4 : Value} (hs : heapOk h → W prog J 44 h.length 128 (codeOf f128) (RG.mk (regs [a0, a1, a2, a3, a4]) []) h (RetQ prog [.tmp 7] h.length K)) : Good prog J 128 [a0, a1, a2, a3, a4] h K :=
 good_of_W hJ mixed at128 body128 (by kernel_rfl) (Nat.le_of_ble_eq_true rfl) hs
theorem s128_1 {f : RG} {nx0 : RG → List AObj → Prop} : W prog J 44 n0 128 (subC [1, 1, 0, 1, 0, 0] (codeOf f128)) f h (thenK nx0 (contX pl128 prog J 44 n0 128 ct128 [1, 1, 0, 1, 0] (codeOf f128) [] (RetQ prog [.tmp 7] n0 K))) =
(aBin prog .lss 3 (f.r 22) (vint 2) fun v1 =>
 cnd v1
(aIdxV 2 1 false (f.r 21) (f.r 22) fun v2 =>
 aLoad true 2 (f.r 6) h fun v3 =>
 aLoad true 3 (f.r 2) h fun v4 =>
 Good prog J 117 [v3, v4, v2] h fun v5 h6 =>
 aExt v5 0 fun v7 =>
 aExt v5 1 fun v8 =>
 aAlloc [(Value.int .u8 0), (vint 0)] h6 fun v9 h10 =>
 aStore 2 v9 v7 h10 fun h11 =>
(∃ B, cnd v8
(aLoad false 1 (f.r 4) h11 fun v12 =>
 RdOk (some B) (ptrBlk (f.r 4)) ∧ (aLoad true 2 v9 h11 fun v13 =>
 RdOk (some B) (ptrBlk v9) ∧ ((((1 * 1 : Nat) ≤ 16777216 ∧ (1 : Nat) ≤ 16777216 ∧ List.length [(Value.int .u8 0)] = 1) ∧ aFill (zrep [(Value.int .u8 0)] 1) [(0, 1, v2)] fun c14 =>
 aNewS 1 c14 h11 fun v15 h16 =>
 SameB (some B) h11 h16 ∧ (((List.length [(Value.int .u8 0)] = 1 ∧ 0 < (1 : Nat) ∧ 0 < (1 : Nat) ∧ (1 : Nat) ≤ 1024) ∧ aApp 1 (f.r 0) v15 h16 fun v17 h18 =>
 SameB (some B) h11 h18 ∧ (callV prog (Good prog J) v12 [v17, v13] h18 fun v19 h20 =>
 aUn .not v19 fun v21 =>
 Hold (W prog J 44 n0 128 (subC [1, 1, 0, 1, 0, 0, 1, 1, 0, 0, 1, 1, 1] (codeOf f128)) (RG.p (RG.p (RG.p (RG.p (RG.p (RG.p (RG.p (RG.p (RG.p (RG.p (RG.p (RG.p (RG.p (RG.p (RG.p (RG.p (RG.p (RG.p (RG.p (RG.p (RG.p (RG.p (RG.p (RG.p f 23 v1) 24 v2) 9 v2) 26 v3) 27 v4) 28 v2) 29 v5) 25 v5) 30 v7) 31 v8) 10 v9) 11 v8) 32 v8) 33 v8) 33 (Value.bool true)) 34 v12) 35 (f.r 0)) 36 v2) 39 v13) 37 v15) 38 v17) 40 v19) 41 v21) 42 v21) h20 (contX pl128 prog J 44 n0 128 ct128 [1, 1, 0, 1, 0, 0, 1, 1, 0, 0, 1, 1, 1] (codeOf f128) [nx0] (RetQ prog [.tmp 7] n0 K))))))))))
(Hold (W prog J 44 n0 128 (subC [1, 1, 0, 1, 0, 0, 1, 1, 0, 0, 1, 1, 1] (codeOf f128)) (RG.p (RG.p (RG.p (RG.p (RG.p (RG.p (RG.p (RG.p (RG.p (RG.p (RG.p (RG.p (RG.p (RG.p (RG.p (RG.p (RG.p (RG.p (RG.p (RG.p (RG.p (RG.p (RG.p (RG.p f 23 v1) 24 v2) 9 v2) 26 v3) 27 v4) 28 v2) 29 v5) 25 v5) 30 v7) 31 v8) 10 v9) 11 v8) 32 v8) 33 v8) 33 (Value.bool false)) 34 undef) 35 undef) 36 undef) 39 undef) 37 undef) 38 undef) 40 undef) 41 undef) 42 (Value.bool false)) h11 (contX pl128 prog J 44 n0 128 ct128 [1, 1, 0, 1, 0, 0, 1, 1, 0, 0, 1, 1, 1] (codeOf f128) [nx0] (RetQ prog [.tmp 7] n0 K))))))
(retL n0 K f.ds [(Value.bool true)] h)) := sub_eq pok128 ct128 (by kernel_rfl)
theorem l128_1 (hJ : Closed prog main J) {S : Type} (μ : S → Nat) (I : S → RG → List AObj → Prop) (hI : ∀ s f h, I s f h → heapOk h → n0 ≤ h.length → W prog J 44 n0 128 (subC [1, 1, 0, 1, 0, 0] (codeOf f128)) f h (thenK (Nx n0 μ I s) (contX pl128 prog J 44 n0 128 ct128 [1, 1, 0, 1, 0] (codeOf f128) [] (RetQ prog [.tmp 7] n0 K))))
 {s : S} {f : RG} (hi : Gets n0 I s f h) : Sem J 44 n0 128 (subC [1, 1, 0, 1, 0] (codeOf f128)) f h (contX pl128 prog J 44 n0 128 ct128 [1, 1, 0, 1, 0] (codeOf f128) [] (RetQ prog [.tmp 7] n0 K)) :=
 loop_rule hJ mixed (b := subC [1, 1, 0, 1, 0, 0] (codeOf f128)) (by kernel_rfl) μ I hI hi
theorem s128_2 {f : RG} {nx0 : RG → List AObj → Prop} : W prog J 44 n0 128 (subC [1, 1, 0, 1, 0, 0, 1, 1, 0, 0, 1, 1, 1] (codeOf f128)) f h (contX pl128 prog J 44 n0 128 ct128 [1, 1, 0, 1, 0, 0, 1, 1, 0, 0, 1, 1, 1] (codeOf f128) [nx0] (RetQ prog [.tmp 7] n0 K)) =
(cnd (f.r 42)
(retL n0 K f.ds [(Value.bool false)] h)
(aBin prog .add 3 (f.r 22) (vint 1) fun v1 =>
 nx0 (RG.p (RG.p f 43 v1) 22 v1) h)) := sub_eq pok128 ct128 (by kernel_rfl)
end
end Go.Proofs.Ythnccaajpdnndaa
namespace Go.Proofs.Ythnccaajpdnndaa
open Go.Conc Go.Proofs.Try
set_option maxRecDepth 100000
def bV (b : UInt8) : Value := .int .u8 b.toNat
def strV (w : List UInt8) : Value := .string ⟨⟨w⟩⟩
theorem kn_bV (w : List UInt8) : kn (w.map bV) = true := by
 simp [kn, kn1, bV]
theorem bytes_bV : ∀ w : List UInt8, bytesOf (w.map bV) = some w
 | [] => rfl
 | b :: w => by
  show (match byteOf (bV b), bytesOf (w.map bV) with
   | some b, some bs => some (b :: bs)
   | _, _ => none) = _
  rw [bytes_bV w]
  have : byteOf (bV b) = some b := by
   show some (UInt8.ofNat ((b.toNat : Nat) : Int).toNat) = some b
   rw [Int.toNat_natCast, UInt8.ofNat_toNat]
  rw [this]
def growF (ps py pg : Nat) : Value := .func (.func 128) ⟨[]⟩ ⟨[ptr ps 0, ptr py 0, ptr pg 0]⟩
def TillZ (n : Nat) (O : List Nat) (h H : List AObj) : Prop := h.length ≤ H.length ∧ ∀ i, i < n ∨ i ∈ O → H[i]? = h[i]?
structure Rnd (J : JT) (L : List (List UInt8)) (y : Value) (X : List Nat) (Hs : List AObj) (I : Nat → List Nat → List AObj → Prop) (St : List AObj → Prop) : Prop where
 hX : ∀ x ∈ X, x < Hs.length
 hO : ∀ {k O H'}, I k O H' → ∀ x ∈ O, x < H'.length
 hI : ∀ {k O H1 H2}, TillZ Hs.length O H1 H2 → I k O H1 → I k O H2
 round : ∀ (k : Nat) (w : List UInt8) (O : List Nat) (H1 : List AObj) (Q : Value → List AObj → Prop), L[k]? = some w → SameX X Hs H1 → (∀ x ∈ O, Hs.length ≤ x) → I k O H1 → (∀ O' H2, SameX (X ++ O) H1 H2 → (∀ x ∈ O', x ∈ O ∨ H1.length ≤ x) → I (k + 1) O' H2 → Q (.bool true) H2) → (∀ H2, SameX (X ++ O) H1 H2 → St H2 → Q (.bool false) H2) → callV prog (Good prog J) y [strV w] H1 Q
section
variable {main : Bool} {J : JT} {h H : List AObj} {K : Value → List AObj → Prop} {KV : Value → Prop} {HL : List AObj → Prop} {n0 : Nat}
theorem strI {b n m : Nat} {cs : List Value} {wr : Bool} {sz : Nat} {w : List UInt8} (hb : H[b]? = some (.cells cs wr sz)) (hn : w.length = n) (ht : cs.take n = w.map bV) (hk : KV (strV w)) : aB2S (.slice (some ⟨b, 0, none⟩) n m) H KV := by
 unfold aB2S
 simp only [hb]
 have hl : n ≤ cs.length := by
  have := congrArg List.length ht
  simp at this
  omega
 refine ⟨by omega, ?_⟩
 rw [List.drop_zero, ht, bytes_bV]
 exact hk
theorem appB {b k m : Nat} {cs : List Value} {v y : Value} (hb : H[b]? = some (.cells cs true 0)) (hl : cs.length = m) (hk : k < m) (hm : m < 1000) (hc : kn (cs.take k) = true) (hy : Sli H y 1 1 [v])
 (hK : ∀ H', SameX [b] H H' → H'[b]? = some (.cells (cs.set k v) true 0) → H'.length = H.length → K (.slice (some ⟨b, 0, none⟩) (k + 1) m) H') : aApp 1 (.slice (some ⟨b, 0, none⟩) k m) y H K := appIn hb hl hk hm hc hy hK
theorem good128 (hJ : Closed prog main J) {s : SkyR} {L : List (List UInt8)} {y : Value} {X : List Nat} {Hs : List AObj} {I : Nat → List Nat → List AObj → Prop} {St : List AObj → Prop} (R : Rnd J L y X Hs I St) (ky : y.cells = #[y] ∧ one y = true ∧ kn1 y = true)
  {ps py pg pb m : Nat} (hm : m ≤ 8) (hdays : s.days = (m : Int)) (cs0 : Hs[ps]? = some (.cells s.cells true 0)) (nX : ps ∉ X) (n1 : Hs.length ≤ py) (n2 : Hs.length ≤ pg) (n3 : Hs.length ≤ pb) (d1 : pb ≠ py) (d2 : pb ≠ pg) :
  ∀ (left : Nat) (w : List UInt8) (x : Spl) (k : Nat) (O : List Nat) (cs : List Value) {H : List AObj} {K : Value → List AObj → Prop},
  w.length + left = m → 0 ≤ x.2 ∧ x.2 ≤ 100 + w.length → (∀ j, j < (growB s left w x).length → L[k + j]? = (growB s left w x)[j]?) →
  SameX X Hs H → H[py]? = some (.cells [y] true 0) → H[pg]? = some (.cells [growF ps py pg] true 0) → H[pb]? = some (.cells cs true 0) → cs.length = m → cs.take w.length = w.map bV →
  I k O H → (∀ z ∈ O, Hs.length ≤ z ∧ z ≠ py ∧ z ≠ pg ∧ z ≠ pb) →
  (∀ H' O' cs', SameX (pb :: (X ++ O)) H H' → (∀ z ∈ O', z ∈ O ∨ H.length ≤ z) → H'[pb]? = some (.cells cs' true 0) → cs'.length = m → cs'.take w.length = w.map bV → I (k + (growB s left w x).length) O' H' → K (.bool true) H') →
  (∀ H', SameX (pb :: (X ++ O)) H H' → St H' → K (.bool false) H') →
  Good prog J 128 [.slice (some ⟨pb, 0, none⟩) w.length m, .agg ⟨spC x⟩, ptr ps 0, ptr py 0, ptr pg 0] H K
 | 0, w, x, k, O, cs, H, K, hwl, hx, hL, S0, cy, cg, cb, hcl, htk, ik, hO, hK1, hK2 => by
  refine g128 hJ fun ok => ?_
  rw [e128]
  refine qBox (l := spC x) rfl fun H1 p1 e1 S1 c1 l1 => ?_
  have lps := lt_of_get cs0
  have cps := S0.get cs0 nX
  have hs : Sli H1 (.slice (some ⟨pb, 0, none⟩) w.length m) 1 w.length (w.map bV) := ⟨_, _, rfl, ⟨by simp, kn_bV w⟩, .inr ⟨pb, 0, rfl, .inr ⟨cs, true, 0, S1.get cb (by simp), by simpa using htk⟩⟩⟩
  refine lenI hs (offI (ldI (v := vint s.days) (S1.get cps (by simp)) rfl rfl (eqlI (cndI (fun _ => ?_) fun hne => absurd (by rw [hdays]; congr 1) hne))))
  refine ldI (v := y) (S1.get cy (by simp)) rfl ky.2.2 (strI (S1.get cb (by simp)) rfl htk ?_)
  have hS0 := S0.1
  have hlH := lt_of_get cb
  have u : ∀ {H2 : List AObj}, SameX (X ++ O) H1 H2 → SameX (pb :: (X ++ O)) H H2 := fun S => (S1.weak0.trans (S.weak fun x hx => List.mem_cons_of_mem _ hx))
  have n4 : pb ∉ X ++ O := by
   intro hz
   rcases List.mem_append.1 hz with hz | hz
   ·have := R.hX _ hz
    omega
   ·exact (hO _ hz).2.2.2 rfl
  refine R.round k w O H1 _ (by have := hL 0 (by simp [growB]); simpa [growB] using this) (S0.thru S1.weak0 (Y := X) fun _ h => .inl h) (fun z hz => (hO z hz).1) (R.hI ⟨S1.1, fun i hi => S1.2 i (by rcases hi with hi | hi; omega; exact R.hO ik i hi) (by simp)⟩ ik) (fun O' H2 S2 hO' i2 => ?_) fun H2 S2 st => ?_
  ·exact retL_same (by simp [unk]) (hK1 H2 O' cs (u S2) (fun z hz => (hO' z hz).imp id fun h => by have := S1.1; omega) (S2.get (S1.get cb (by simp)) n4) hcl htk i2)
  ·exact retL_same (by simp [unk]) (hK2 H2 (u S2) st)
 | left + 1, w, x, k, O, cs, H, K, hwl, hx, hL, S0, cy, cg, cb, hcl, htk, ik, hO, hK1, hK2 => by
  refine g128 hJ fun ok => ?_
  rw [e128]
  have hfz : (1000 : Nat) < fz := by decide
  refine qBox (l := spC x) rfl fun Ha p1 e1 S1 c1 l1 => ?_
  have lps := lt_of_get cs0
  have hs : Sli Ha (.slice (some ⟨pb, 0, none⟩) w.length m) 1 w.length (w.map bV) := ⟨_, _, rfl, ⟨by simp, kn_bV w⟩, .inr ⟨pb, 0, rfl, .inr ⟨cs, true, 0, S1.get cb (by simp), by simpa using htk⟩⟩⟩
  have hS0 := S0.1
  have lpb := lt_of_get cb
  have lpy := lt_of_get cy
  have lpg := lt_of_get cg
  refine lenI hs (offI (ldI (v := vint s.days) (S1.get (S0.get cs0 nX) (by simp)) rfl rfl (eqlI (cndI (fun he => absurd he (by rw [hdays]; omega)) fun _ => ?_))))
  refine fillO (l := [bV 100]) rfl rfl rfl (by decide) (fillO (l := [bV 119]) rfl rfl rfl (by rw [wrAt_length]; decide) (fillI ?_))
  -- what both letters come to
  let A : List (List UInt8) := if nextOk s x 100 = true then growB s left (w ++ [100]) (nextX x 100) else []
  let B : List (List UInt8) := if nextOk s x 119 = true then growB s left (w ++ [119]) (nextX x 119) else []
  have hAB : growB s (left + 1) w x = A ++ B := rfl
  let off : Nat → Nat := fun i => if i = 0 then 0 else if i = 1 then A.length else A.length + B.length
  refine l128_1 hJ (fun i : Nat => 2 - i) (fun i F H' => ∃ O' cs', i ≤ 2 ∧ SameX (pb :: (X ++ O)) Ha H' ∧ (∀ z ∈ O', z ∈ O ∨ Ha.length ≤ z) ∧ H'[pb]? = some (.cells cs' true 0) ∧ cs'.length = m ∧ cs'.take w.length = w.map bV ∧ I (k + off i) O' H' ∧
    F.ds = [] ∧ F.r 0 = .slice (some ⟨pb, 0, none⟩) w.length m ∧ F.r 2 = ptr ps 0 ∧ F.r 4 = ptr pg 0 ∧ F.r 6 = ptr p1 0 ∧ F.r 21 = .agg ⟨[bV 100, bV 119]⟩ ∧ F.r 22 = vint (i : Nat)) ?_ (s := 0)
   (.inl ⟨O, cs, by omega, SameX.refl, fun z hz => .inl hz, S1.get cb (by simp), hcl, htk, R.hI ⟨S1.1, fun i hi => S1.2 i (by rcases hi with hi | hi; omega; exact R.hO ik i hi) (by simp)⟩ ik, rfl, rfl, rfl, rfl, rfl, rfl, rfl⟩)
  rintro i F Hc ⟨O1, cs1, hi, Sc, hO1, cb1, hcl1, htk1, ik1, ds, r0, r2, r4, r6, r21, r22⟩ okc hnc
  rw [s128_1, r0, r2, r4, r6, r21, r22, ds]
  have hSc := Sc.1
  have hOo : ∀ z ∈ O1, Hs.length ≤ z ∧ z ≠ py ∧ z ≠ pg ∧ z ≠ pb ∧ z ≠ p1 := fun z hz => by
   rcases hO1 z hz with h | h
   ·have := hO z h
    have := R.hO ik z h
    omega
   ·omega
  have notin : ∀ q, q < Hs.length → q ∉ X → q ∉ pb :: (X ++ O) := fun q h1 h2 hm' => by
   rcases List.mem_cons.1 hm' with hz | hz
   ·omega
   ·rcases List.mem_append.1 hz with hz | hz
    ·exact h2 hz
    ·have := (hO _ hz).1
     omega
  have notin2 : ∀ q, Hs.length ≤ q → q ≠ pb → q ∉ O → q ∉ pb :: (X ++ O) := fun q h1 h2 h3 hm' => by
   rcases List.mem_cons.1 hm' with hz | hz
   ·exact h2 hz
   ·rcases List.mem_append.1 hz with hz | hz
    ·have := R.hX _ hz
     omega
    ·exact h3 hz
  have cpsc := Sc.get (S1.get (S0.get cs0 nX) (by simp)) (notin ps lps nX)
  have cyc := Sc.get (S1.get cy (by simp)) (notin2 py n1 (by omega) (fun hz => (hO _ hz).2.1 rfl))
  have cgc := Sc.get (S1.get cg (by simp)) (notin2 pg n2 (by omega) (fun hz => (hO _ hz).2.2.1 rfl))
  have c1c := Sc.get c1 (notin2 p1 (by omega) (by omega) (fun hz => by have := R.hO ik _ hz; omega))
  have T1 : SameX (pb :: (X ++ O)) H Hc := (S1.weak0).trans Sc
  refine lssI (cndI (fun hlt => ?_) fun hge => ?_)
  rotate_left
  ·have : i = 2 := by omega
   subst this
   refine retL_same (by simp [unk]) (hK1 Hc O1 cs1 T1 (fun z hz => (hO1 z hz).imp id fun h => by have := S1.1; omega) cb1 hcl1 htk1 ?_)
   rw [hAB, List.length_append]
   exact ik1
  have hi2 : i < 2 := by omega
  obtain ⟨c, hc, hcv⟩ : ∃ c : UInt8, (c = 100 ∧ i = 0 ∨ c = 119 ∧ i = 1) ∧ [bV 100, bV 119][i]? = some (bV c) := by
   rcases (by omega : i = 0 ∨ i = 1) with h | h
   ·exact ⟨100, .inl ⟨rfl, h⟩, by rw [h]; rfl⟩
   ·exact ⟨119, .inr ⟨rfl, h⟩, by rw [h]; rfl⟩
  -- the part of this letter
  let P : List (List UInt8) := if nextOk s x c = true then growB s left (w ++ [c]) (nextX x c) else []
  have hP : off (i + 1) = off i + P.length ∧ ∀ j, j < P.length → L[k + off i + j]? = P[j]? := by
   rcases hc with ⟨h1, h2⟩ | ⟨h1, h2⟩
   ·subst h1 h2
    refine ⟨by show A.length = 0 + A.length; omega, fun j hj => ?_⟩
    have hj : j < A.length := hj
    have := hL j (by rw [hAB, List.length_append]; omega)
    rw [hAB, List.getElem?_append_left hj] at this
    exact this
   ·subst h1 h2
    refine ⟨rfl, fun j hj => ?_⟩
    have hj : j < B.length := hj
    have := hL (A.length + j) (by rw [hAB, List.length_append]; omega)
    rw [hAB, List.getElem?_append_right (by omega), Nat.add_sub_cancel_left] at this
    show L[k + A.length + j]? = B[j]?
    rw [Nat.add_assoc]
    exact this
  have hidx : aIdxV 2 1 false (.agg ⟨[bV 100, bV 119]⟩) (vint (i : Nat)) = fun KI => KI (bV c) := by
   funext KI
   rcases hc with ⟨h1, h2⟩ | ⟨h1, h2⟩ <;> subst h1 h2 <;> exact propext ⟨fun h => h.2, fun h => ⟨⟨by decide, by decide⟩, h⟩⟩
  rw [hidx]
  refine load_part (c := spC x) c1c (by simp [spC]) rfl rfl (load_part (c := s.cells) cpsc (by simp [SkyR.cells]) rfl rfl ?_)
  refine good117 hJ (by omega) fun H2 S2 => ext0 (ext1 (qAl fun H3 p9 e3 S3 c3 l3 => qStA (c := spC (nextX x c)) c3 rfl rfl rfl fun H4 S4 c4 l4 => ?_))
  have hS2 := S2.1
  have T4 : SameX [] Hc H4 := (S2.trans S3).thru S4 (by simp; omega)
  have hT4 := T4.1
  have ik4 : I (k + off i) O1 H4 := R.hI ⟨T4.1, fun j hj => T4.2 j (by rcases hj with hj | hj; omega; exact R.hO ik1 j hj) (by simp)⟩ ik1
  -- behind this letter
  have next : ∀ {F' : RG} {H5 : List AObj} {O5 : List Nat} {cs5 : List Value}, F'.ds = [] → F'.r 0 = .slice (some ⟨pb, 0, none⟩) w.length m → F'.r 2 = ptr ps 0 → F'.r 4 = ptr pg 0 → F'.r 6 = ptr p1 0 → F'.r 21 = .agg ⟨[bV 100, bV 119]⟩ → F'.r 22 = vint (i : Nat) → F'.r 42 = .bool false →
    SameX (pb :: (X ++ O1)) H4 H5 → (∀ z ∈ O5, z ∈ O1 ∨ H4.length ≤ z) → H5[pb]? = some (.cells cs5 true 0) → cs5.length = m → cs5.take w.length = w.map bV → I (k + off (i + 1)) O5 H5 →
    W prog J 44 H.length 128 (subC [1, 1, 0, 1, 0, 0, 1, 1, 0, 0, 1, 1, 1] (codeOf f128)) F' H5 (contX pl128 prog J 44 H.length 128 ct128 [1, 1, 0, 1, 0, 0, 1, 1, 0, 0, 1, 1, 1] (codeOf f128) [Nx H.length (fun i : Nat => 2 - i) (fun i F H' => ∃ O' cs', i ≤ 2 ∧ SameX (pb :: (X ++ O)) Ha H' ∧ (∀ z ∈ O', z ∈ O ∨ Ha.length ≤ z) ∧ H'[pb]? = some (.cells cs' true 0) ∧ cs'.length = m ∧ cs'.take w.length = w.map bV ∧ I (k + off i) O' H' ∧
    F.ds = [] ∧ F.r 0 = .slice (some ⟨pb, 0, none⟩) w.length m ∧ F.r 2 = ptr ps 0 ∧ F.r 4 = ptr pg 0 ∧ F.r 6 = ptr p1 0 ∧ F.r 21 = .agg ⟨[bV 100, bV 119]⟩ ∧ F.r 22 = vint (i : Nat)) i] (RetQ prog [.tmp 7] H.length K)) := by
   intro F' H5 O5 cs5 ds r0 r2 r4 r6 r21 r22 r42 S5 hO5 cb5 hcl5 htk5 ik5
   rw [s128_2, r42, r22]
   refine cnd_false.2 (addI (by omega) ⟨i + 1, by dsimp only; omega, .inl ⟨O5, cs5, by omega, ?_, fun z hz => ?_, cb5, hcl5, htk5, ik5, ds, r0, r2, r4, r6, r21, by show vint _ = vint _; congr 1⟩⟩)
   ·refine (Sc.thru (T4.weak0 (Y := pb :: (X ++ O))) fun _ h => .inl h).thru S5 fun z hz => ?_
    rcases List.mem_cons.1 hz with hz | hz
    ·exact .inl (by rw [hz]; exact List.mem_cons_self)
    ·rcases List.mem_append.1 hz with hz | hz
     ·exact .inl (List.mem_cons_of_mem _ (List.mem_append_left _ hz))
     ·rcases hO1 z hz with h | h
      ·exact .inl (List.mem_cons_of_mem _ (List.mem_append_right _ h))
      ·exact .inr h
   ·rcases hO5 z hz with h | h
    ·exact hO1 z h
    ·exact .inr (by omega)
  have cb4 := T4.get cb1 (by simp)
  have cg4 := T4.get cgc (by simp)
  have lg4 := lt_of_get cg4
  have l9 : p9 < H4.length := lt_of_get c4
  refine ⟨[pg, p9], cndB (fun hyes => ?_) fun hno => hold.2 ?_⟩
  rotate_left
  ·have hP0 : P.length = 0 := by show (if nextOk s x c = true then _ else []).length = 0; rw [hno]; rfl
   refine next ds r0 r2 r4 r6 r21 r22 rfl SameX.refl (fun z hz => .inl hz) cb4 hcl1 htk1 ?_
   rw [hP.1, hP0]
   exact ik4
  have hPe : P = growB s left (w ++ [c]) (nextX x c) := by show (if nextOk s x c = true then _ else []) = _; rw [if_pos hyes]
  refine ldI (v := growF ps py pg) cg4 rfl rfl ⟨by simp [RdOk, ptrBlk], load_part (c := spC (nextX x c)) c4 (by simp [spC]) rfl rfl ⟨by simp [RdOk, ptrBlk], ?_⟩⟩
  refine ⟨by decide, fillO (l := [bV c]) rfl rfl rfl (by decide) (fillI (qNew fun H5 p5 e5 S5 c5 l5 => ⟨sbTwo S5 lg4 l9 (by simp) (by simp), by decide, ?_⟩))⟩
  have c5 : H5[p5]? = some (.cells [bV c] true 0) := c5
  have y5 := ownX_sli (ownX_new (s := 1) (n := 1) (l := [bV c]) c5 rfl rfl)
  refine appB (S5.get cb4 (by simp)) hcl1 (by omega) (by omega) (by rw [htk1]; exact kn_bV w) y5 fun H6 S6 c6 l6 => ?_
  have T6 : SameX [pb] H4 H6 := S5.weak0.trans S6
  have hT6 := T6.1
  refine ⟨sbTwo T6 lg4 l9 (by simp; omega) (by simp; omega), callCz (by kernel_rfl) ?_⟩
  have hset : (cs1.set w.length (bV c)).take (w.length + 1) = (w ++ [c]).map bV := by
   rw [List.take_add_one, List.take_set_of_le (Nat.le_refl _), htk1, List.getElem?_set_self (by omega)]
   simp
  have hlen : (w ++ [c]).length = w.length + 1 := by simp
  have U6 : SameX [pb] Hc H6 := (T4.weak0).trans T6
  have nx2 : 0 ≤ (nextX x c).2 ∧ (nextX x c).2 ≤ 100 + (w.length + 1 : Nat) := by
   unfold nextX
   split
   ·exact ⟨by dsimp only; omega, by dsimp only; omega⟩
   ·exact ⟨by dsimp only; omega, by dsimp only; omega⟩
  rw [← hlen]
  refine good128 hJ R ky hm hdays cs0 nX n1 n2 n3 d1 d2 left (w ++ [c]) (nextX x c) (k + off i) O1 (cs1.set w.length (bV c)) (by rw [hlen]; omega) (by rw [hlen]; exact nx2) (by rw [← hPe]; exact hP.2)
   ?_ (U6.get cyc (by simp; omega)) (U6.get cgc (by simp; omega)) c6 (by rw [List.length_set, hcl1]) (by rw [hlen]; exact hset)
   (R.hI ⟨by omega, fun j hj => T6.2 j (by rcases hj with hj | hj; omega; exact R.hO ik4 j hj) (by
    rcases hj with hj | hj
    ·simp
     omega
    ·have := hOo j hj
     simp
     omega)⟩ ik4) (fun z hz => by have := hOo z hz; omega) (fun H7 O7 cs7 S7 hO7 c7 hc7 ht7 i7 => ?_) fun H7 S7 st => ?_
  ·refine (S0.thru T1 fun z hz => ?_).thru U6 (by simp; omega)
   rcases List.mem_cons.1 hz with hz | hz
   ·exact .inr (by omega)
   ·rcases List.mem_append.1 hz with hz | hz
    ·exact .inl hz
    ·exact .inr (hO z hz).1
  ·have S47 : SameX (pb :: (X ++ O1)) H4 H7 := (T6.weak (by simp)).trans S7
   have tk7 : cs7.take w.length = w.map bV := by
    have : (cs7.take (w.length + 1)).take w.length = cs7.take w.length := by rw [List.take_take, Nat.min_eq_left (by omega)]
    rw [← this, ← hlen, ht7, List.map_append]
    simp
   refine notI (hold.2 (next ds r0 r2 r4 r6 r21 r22 rfl S47 (fun z hz => (hO7 z hz).imp id fun h => by omega) c7 hc7 tk7 ?_))
   rw [hP.1, hPe, ← Nat.add_assoc]
   exact i7
  ·refine notI (hold.2 ?_)
   rw [s128_2]
   show cnd (.bool true) _ _
   refine cnd_true.2 ?_
   show retL H.length K F.ds [.bool false] H7
   rw [ds]
   have S47 : SameX (pb :: (X ++ O1)) Hc H7 := (U6.weak (by simp)).trans S7
   refine retL_same (by simp [unk]) (hK2 H7 (T1.thru S47 fun z hz => ?_) st)
   rcases List.mem_cons.1 hz with hz | hz
   ·exact .inl (by rw [hz]; exact List.mem_cons_self)
   ·rcases List.mem_append.1 hz with hz | hz
    ·exact .inl (List.mem_cons_of_mem _ (List.mem_append_left _ hz))
    ·rcases hO1 z hz with h | h
     ·exact .inl (List.mem_cons_of_mem _ (List.mem_append_right _ h))
     ·exact .inr (by have := S1.1; omega)
theorem good90 (hJ : Closed prog main J) {s : SkyR} (hK : ∀ H' ps, SameX [] H H' → H'[ps]? = some (.cells s.cells true 0) → H.length ≤ ps → K (.func (.func 127) ⟨[]⟩ ⟨[ptr ps 0]⟩) H') : Good prog J 90 [.agg ⟨s.cells⟩] H K := by
 refine g90 hJ fun ok => ?_
 rw [e90]
 exact qBox (l := s.cells) rfl fun H1 p1 e1 S1 c1 l1 => ⟨rfl, retL_same (by simp [unk]) (hK H1 p1 S1 c1 (by omega))⟩
theorem good127 (hJ : Closed prog main J) {s : SkyR} (f : skyOk s) {y : Value} {X : List Nat} {ps : Nat} {I : Nat → List Nat → List AObj → Prop} {St : List AObj → Prop} (R : Rnd J (rainsB s) y X H I St) (ky : y.cells = #[y] ∧ one y = true ∧ kn1 y = true)
  (cs0 : H[ps]? = some (.cells s.cells true 0)) (nX : ps ∉ X) (h0 : I 0 [] H)
  (hK1 : ∀ H2 O, SameX X H H2 → (∀ z ∈ O, H.length ≤ z) → I (rainsB s).length O H2 → K (.tuple ⟨[]⟩) H2) (hK2 : ∀ H2, SameX X H H2 → St H2 → K (.tuple ⟨[]⟩) H2) : Good prog J 127 [y, ptr ps 0] H K := by
 refine g127 hJ fun ok => ?_
 rw [e127]
 obtain ⟨f1, f2, f3⟩ := f
 have lps := lt_of_get cs0
 refine qBox1 ky.1 ky.2.1 fun H1 py e1 S1 c1 l1 => qAl fun H2 pg e2 S2 c2 l2 => ⟨rfl, qSt c2 (by simp) rfl rfl fun H3 S3 c3 l3 => ?_⟩
 have c3 : H3[pg]? = some (.cells [growF ps py pg] true 0) := c3
 have T3 : SameX [] H H3 := (S1.trans S2).thru S3 (by simp; omega)
 have cy3 := S3.get (S2.get c1 (by simp)) (by simp; omega)
 have cs3 := T3.get cs0 (by simp)
 have lg := lt_of_get c3
 have ls3 := lt_of_get cs3
 refine ⟨[pg, ps], ldI (v := growF ps py pg) c3 rfl rfl ⟨by simp [RdOk, ptrBlk], offI (ldI (v := vint s.days) cs3 rfl rfl ⟨by simp [RdOk, ptrBlk], fillI ⟨by decide, ?_⟩⟩)⟩⟩
 have hrm : (2000 : Nat) < room := by decide
 refine ⟨by omega, by omega, by omega, ?_⟩
 obtain ⟨m, hm⟩ := Int.eq_ofNat_of_zero_le (by omega : (0 : Int) ≤ s.days)
 have em : s.days.toNat = m := by omega
 rw [em]
 generalize hH4 : H3 ++ [AObj.cells (zrep [Value.int .u8 0] m) true 0] = H4
 have c4 : H4[H3.length]? = some (.cells (zrep [Value.int .u8 0] m) true 0) := by rw [← hH4]; simp
 have S4 : SameX [] H3 H4 := by rw [← hH4]; exact SameX.refl.app
 have zl : ∀ n, (zrep [Value.int .u8 0] n).length = n := by
  intro n
  induction n with
  | zero => rfl
  | succ n ih => show ([Value.int .u8 0] ++ zrep [Value.int .u8 0] n).length = n + 1; rw [List.length_append, ih]; simp; omega
 have T4 : SameX [] H H4 := T3.trans S4
 refine ⟨sbTwo S4 lg ls3 (by simp) (by simp), callCz (by kernel_rfl) ?_⟩
 have hT3 := T3.1
 have hr : rainsB s = growB s m [] (0, 0) := by unfold rainsB; rw [em]
 have fin : ∀ {H5 : List AObj} {O : List Nat}, SameX (H3.length :: (X ++ ([] : List Nat))) H4 H5 → SameX X H H5 := fun S5 => by
  refine (T4.weak0 (Y := X)).thru S5 fun z hz => ?_
  rcases List.mem_cons.1 hz with hz | hz
  ·exact .inr (by omega)
  ·exact .inl (by simpa using hz)
 refine good128 hJ R ky (ps := ps) (py := py) (pg := pg) (pb := H3.length) (m := m) (by omega) hm cs0 nX (by omega) (by omega) (by omega) (by omega) (by omega) m [] (0, 0) 0 [] (zrep [Value.int .u8 0] m) (by simp) ⟨by decide, by decide⟩ (fun j _ => by rw [hr, Nat.zero_add]) (T4.weak0 (Y := X)) (S4.get cy3 (by simp)) (S4.get c3 (by simp)) c4 (zl m) rfl
  (R.hI ⟨T4.1, fun i hi => T4.2 i (by rcases hi with hi | hi; exact hi; cases hi) (by simp)⟩ h0) (by simp) (fun H5 O5 cs5 S5 hO5 c5 hc5 ht5 i5 => ?_) fun H5 S5 st => ?_
 ·refine ⟨?_, retL_same (by simp) (hK1 H5 O5 (fin (O := O5) S5) (fun z hz => by rcases hO5 z hz with h | h; cases h; have := S4.1; omega) ?_)⟩
  ·exact sbTwo (X := H3.length :: (X ++ [])) ((S4.weak0).trans S5) lg ls3 (by simp; exact ⟨by omega, fun hz => by have := R.hX _ hz; omega⟩) (by simp; exact ⟨by omega, nX⟩)
  ·rw [hr]
   simpa using i5
 ·refine ⟨?_, retL_same (by simp) (hK2 H5 (fin (O := []) S5) st)⟩
  exact sbTwo (X := H3.length :: (X ++ [])) ((S4.weak0).trans S5) lg ls3 (by simp; exact ⟨by omega, fun hz => by have := R.hX _ hz; omega⟩) (by simp; exact ⟨by omega, nX⟩)
end
def stayH (all from_ days : Nat) (n : Int) : List Int := (List.range all).map fun i => if from_ ≤ i ∧ i < from_ + days then n else 0
def fedB (p : Pas) (heads : List Int) (s : SkyR) : Bool := (rainsB s).all fun w => decide (starvR p heads w < 0)
def stayB (p : Pas) (s : SkyR) (n from_ days : Int) : Bool := fedB p (stayH s.days.toNat from_.toNat days.toNat n) s
def topH (q : Int → Bool) : Nat → Int
 | 0 => 0
 | n + 1 => if q ((n + 1 : Nat) : Int) = true then ((n + 1 : Nat) : Int) else topH q n
def headE (p : Pas) (s : SkyR) (from_ days : Int) : Int :=
 if fst2 (pasE p) (skyE s) ≠ 0 then fst2 (pasE p) (skyE s) else if ¬ (0 ≤ from_ ∧ from_ ≤ s.days - 1) then 3 else if ¬ (1 ≤ days ∧ days ≤ s.days - from_) then 1 else 0
def headN (p : Pas) (s : SkyR) (from_ days : Int) : Int := if headE p s from_ days = 0 then topH (fun n => stayB p s n from_ days) 40 else 0
theorem stayH_len {a f d : Nat} {n : Int} : (stayH a f d n).length = a := by simp [stayH]
theorem stayH_get {a f d i : Nat} {n : Int} (h : i < a) : (stayH a f d n)[i]? = some (if f ≤ i ∧ i < f + d then n else 0) := by
 unfold stayH
 rw [List.getElem?_map, List.getElem?_range h]
 rfl
theorem stayH_getD {a f d i : Nat} {n : Int} (h : i < a) : (stayH a f d n).getD i 0 = if f ≤ i ∧ i < f + d then n else 0 := by
 rw [List.getD_eq_getElem?_getD, stayH_get h]
 rfl
theorem stayH_out {a f d i : Nat} {n : Int} (h : f + d ≤ i) : (stayH a f d n).getD i 0 = 0 := by
 by_cases e : i < a
 ·rw [stayH_getD e, if_neg (by omega)]
 ·rw [List.getD_eq_getElem?_getD, List.getElem?_eq_none (by rw [stayH_len]; omega)]
  rfl
theorem stayH_zero {a f : Nat} {n : Int} : stayH a f 0 n = List.replicate a 0 := by
 apply List.ext_getElem?
 intro i
 by_cases h : i < a
 ·rw [stayH_get h, if_neg (by omega), List.getElem?_replicate, if_pos h]
 ·rw [List.getElem?_eq_none (by rw [stayH_len]; omega), List.getElem?_eq_none (by simp; omega)]
theorem stayH_set {a f d : Nat} {n : Int} (h : f + d < a) : (stayH a f d n).set (f + d) n = stayH a f (d + 1) n := by
 apply List.ext_getElem?
 intro i
 rw [List.getElem?_set]
 by_cases e : f + d = i
 ·subst e
  rw [if_pos rfl, stayH_len, if_pos h, stayH_get h, if_pos (by omega)]
 ·rw [if_neg e]
  by_cases hi : i < a
  ·rw [stayH_get hi, stayH_get hi]
   congr 1
   by_cases x : f ≤ i ∧ i < f + d
   ·rw [if_pos x, if_pos (by omega)]
   ·rw [if_neg x, if_neg (by omega)]
  ·rw [List.getElem?_eq_none (by rw [stayH_len]; omega), List.getElem?_eq_none (by rw [stayH_len]; omega)]
theorem stayH_ok {a f d : Nat} {n : Int} (h : 0 ≤ n ∧ n ≤ 40) : headsOk (stayH a f d n) := by
 intro x hx
 unfold stayH at hx
 obtain ⟨i, _, rfl⟩ := List.mem_map.1 hx
 split
 ·exact h
 ·exact ⟨Int.le_refl _, by decide⟩
theorem stay_after {p : Pas} {a f d : Nat} {n : Int} {w : List UInt8} (fp : pasOk p) (hn : 0 ≤ n ∧ n ≤ 40) {i : Nat} (h : f + d ≤ i) : hungAt p (stayH a f d n) w i = false := by
 unfold hungAt hungR
 rw [stayH_out h]
 have := (stdR_ok (rain := w) fp (stayH_ok (a := a) (f := f) (d := d) hn) i).g
 exact decide_eq_false (by omega)
theorem starv_none {p : Pas} {a f d : Nat} {n : Int} {w : List UInt8} (fp : pasOk p) (hn : 0 ≤ n ∧ n ≤ 40) (h : ∀ i, i < f + d → hungAt p (stayH a f d n) w i = false) : starvR p (stayH a f d n) w < 0 := by
 have : starvR p (stayH a f d n) w = -1 := fstH_none fun i _ => by
  by_cases e : i < f + d
  ·exact h i e
  ·exact stay_after fp hn (by omega)
 rw [this]
 decide
theorem starv_some {p : Pas} {heads : List Int} {w : List UInt8} {i : Nat} (hi : i < w.length) (h : hungAt p heads w i = true) : ¬ starvR p heads w < 0 := by
 have := fstH_pos (q := hungAt p heads w) h hi
 unfold starvR
 omega
section
variable {main : Bool} {J : JT} {h H : List AObj} {K : Value → List AObj → Prop} {KV : Value → Prop} {HL : List AObj → Prop} {n0 : Nat}
theorem eqlW {t : TypeId} {b : UInt8} (hk : KV (.bool (wetB b))) : aBin prog .eql t (.int .u8 b.toNat) (.int .u8 119) KV := by
 have e119 : (Value.int .u8 119) = .int .u8 (119 : UInt8).toNat := rfl
 rw [e119]
 exact eqlU hk
theorem good98 (hJ : Closed prog main J) {p : Pas} {heads : List Int} {w : List UInt8} {hv : Value} (f : pasOk p) (hh : headsOk heads) (sh : Sli H hv 1 heads.length (heads.map vint)) (hl : w.length ≤ heads.length) (hw : w.length ≤ 1000)
  (hK : ∀ H', SameX [] H H' → K (vint (starvR p heads w)) H') : Good prog J 98 [.agg ⟨p.cells⟩, hv, strV w] H K := by
 refine g98 hJ fun ok => ?_
 rw [e98]
 refine qBox (l := p.cells) rfl fun H1 p1 e1 S1 c1 l1 => load_part (c := p.cells) c1 (by simp [Pas.cells]) rfl rfl ?_
 refine good125 hJ fun H2 m em S2 c2 hm => lenStrI ?_
 refine l98_1 hJ (fun k : Nat => w.length - k) (fun k F H' => k ≤ w.length ∧ SameX [] H H' ∧ H'[m]? = some (.cells (medC p (stdR p heads w k)) true 0) ∧ (∀ i, i < k → hungAt p heads w i = false) ∧ F.ds = [] ∧ F.r 1 = hv ∧ F.r 2 = strV w ∧ F.r 7 = ptr m 0 ∧ F.r 14 = vint (w.length : Nat) ∧ F.r 15 = vint (k : Nat)) ?_ (s := 0)
  (.inl ⟨by omega, S1.trans S2, c2, fun i hi => absurd hi (Nat.not_lt_zero _), rfl, rfl, rfl, rfl, rfl, rfl⟩)
 rintro k F H' ⟨hk, S, cm, hno, ds, r1, r2, r7, r14, r15⟩ okc hnc
 rw [s98_1, r1, r2, r7, r14, r15, ds]
 refine lssI (cndI (fun hlt => ?_) fun hge => ?_)
 rotate_left
 ·have : k = w.length := by omega
  subst this
  have := hK H' S
  unfold starvR at this
  rw [fstH_none hno] at this
  exact retL_same (by simp [unk]) this
 have hkl : k < w.length := by omega
 have hx : heads[k]? = some (heads.getD k 0) := by
  rw [List.getD_eq_getElem?_getD, List.getElem?_eq_getElem (by omega)]
  rfl
 have hb : w[k]? = some (w.getD k 0) := by
  rw [List.getD_eq_getElem?_getD, List.getElem?_eq_getElem hkl]
  rfl
 have hbd := headsOk_getD hh k
 refine sliN (S.sli sh (by simp)) hx fun q => byteI hb (eqlW ?_)
 refine good126 hJ cm f (stdR_ok f hh k) ⟨hbd.1, by omega⟩ fun H3 S3 c3 => ext0 (ext1 (cndB (fun hy => ?_) fun hn => ?_))
 ·have e : starvR p heads w = (k : Int) := fstH_some hy hno hkl
  have := hK H3 (S.thru S3 (by simp; omega))
  rw [e] at this
  exact retL_same (by simp [unk]) this
 ·refine addI (by omega) ⟨k + 1, by dsimp only; omega, .inl ⟨by omega, S.thru S3 (by simp; omega), c3, fun i hi => ?_, ds, r1, r2, r7, r14, by show vint _ = vint _; congr 1⟩⟩
  by_cases e : i = k
  ·rw [e]
   exact hn
  ·exact hno i (by omega)
noncomputable abbrev lpS (st : LoopState) (pend : Option Code) (r : Nat → Value) (d : Nat) : AObj := .loop st pend 89 r 60 #[35] (subC [1, 0, 1, 1, 1, 1, 0, 1, 0, 0] (codeOf f89)) (subC [1, 0, 1, 1, 1, 1, 0, 1, 0, 1] (codeOf f89)) d
theorem roundS (hJ : Closed prog main J) {l d p5 p8 p9 p11 p13 pl a fr dy : Nat} {R : Nat → Value} {p : Pas} {n : Int} {w : List UInt8} {Q : Value → List AObj → Prop} (f : pasOk p) (hn : 0 ≤ n ∧ n ≤ 40) (ha : a ≤ 8) (hfd : fr + dy ≤ a) (hw : w.length = a)
  (hl : H[l]? = some (lpS .ready none R d)) (r5 : R 5 = ptr p5 0) (r8 : R 8 = ptr p8 0) (r9 : R 9 = ptr p9 0) (r11 : R 11 = ptr p11 0) (r13 : R 13 = ptr p13 0)
  (c5 : H[p5]? = some (.cells p.cells true 0)) (c8 : H[p8]? = some (.cells [vint (fr : Nat)] true 0)) (c9 : H[p9]? = some (.cells [vint (dy : Nat)] true 0)) (c11 : H[p11]? = some (.cells [.slice (some ⟨pl, 0, none⟩) a a] true 0)) (cl : H[pl]? = some (.cells ((stayH a fr dy n).map vint) true 0)) (c13 : H[p13]? = some (.cells [.bool true] true 0))
  (n5 : p5 ≠ l) (n8 : p8 ≠ l) (n9 : p9 ≠ l) (n11 : p11 ≠ l) (n13 : p13 ≠ l) (nl : pl ≠ l)
  (k1 : ∀ H', starvR p (stayH a fr dy n) w < 0 → SameX [l] H H' → H'[l]? = some (lpS .ready none R d) → Q (.bool true) H')
  (k2 : ∀ H', ¬ starvR p (stayH a fr dy n) w < 0 → SameX [l, p13] H H' → H'[l]? = some (lpS .done (some (.exit 2)) R d) → H'[p13]? = some (.cells [.bool false] true 0) → Q (.bool false) H') :
  callV prog (Good prog J) (.func (.yield l) ⟨[]⟩ ⟨[]⟩) [strV w] H Q := by
 show Good prog J (yid prog l) [strV w] H Q
 refine good_round hJ hl rfl (by decide) fun ok => W_sound hJ mixed _ ?_
 rw [a89_2]
 refine ⟨rfl, none, _, _, _, _, _, _, _, hl, W_sound hJ mixed _ ?_⟩
 rw [b89_2]
 have hll := lt_of_get hl
 have hl3 : (H.set l (lpS .busy none R d))[l]? = some (lpS .busy none R d) := List.getElem?_set_self hll
 have S3 : SameX [l] H (H.set l (lpS .busy none R d)) := SameX.refl.set (.inl (by simp))
 generalize H.set l (lpS .busy none R d) = H3 at hl3 S3
 have hsl := S3.1
 show aLoad true 6 (R 5) _ _
 rw [r5]
 refine load_part (c := p.cells) (S3.get c5 (by simpa using n5)) (by simp [Pas.cells]) rfl rfl ?_
 refine good125 hJ fun H4 m em S4 c4 hm => ?_
 have S04 : SameX [l] H H4 := S3.trans S4.weak0
 show aLoad false 1 (R 8) _ _
 rw [r8]
 refine ldI (v := vint (fr : Nat)) (S04.get c8 (by simpa using n8)) rfl rfl ?_
 show aLoad false 1 (R 9) _ _
 rw [r9]
 refine ldI (v := vint (dy : Nat)) (S04.get c9 (by simpa using n9)) rfl rfl (addI (by omega) ?_)
 have hho := stayH_ok (a := a) (f := fr) (d := dy) hn
 have e5 : ((fr : Nat) : Int) + ((dy : Nat) : Int) = ((fr + dy : Nat) : Int) := by omega
 rw [e5]
 have h3 : H.length ≤ m := by omega
 have hl4 := S4.get hl3 (by simp)
 refine l89_3 hJ (fun k : Nat => fr + dy - k) (fun k F H' => k ≤ fr + dy ∧ SameX [m] H4 H' ∧ H'[m]? = some (.cells (medC p (stdR p (stayH a fr dy n) w k)) true 0) ∧ (∀ i, i < k → hungAt p (stayH a fr dy n) w i = false) ∧ F.r 11 = ptr p11 0 ∧ F.r 13 = ptr p13 0 ∧ F.r 14 = strV w ∧ F.r 15 = ptr m 0 ∧ F.r 40 = vint ((fr + dy : Nat) : Int) ∧ F.r 41 = vint (k : Nat)) ?_ (s := 0)
  (.inl ⟨by omega, SameX.refl, c4, fun i hi => absurd hi (Nat.not_lt_zero _), r11, r13, rfl, rfl, rfl, rfl⟩)
 rintro k F H' ⟨hk, S, cm, hno, q11, q13, q14, q15, q40, q41⟩ okc hnc
 rw [s89_3, q11, q13, q14, q15, q40, q41]
 have T : SameX [l] H H' := S04.thru S (by simp; omega)
 have hlH : H'[l]? = some (lpS .busy none R d) := S.get hl4 (by simp; omega)
 have hll' := lt_of_get hlH
 have d11 := T.get c11 (by simpa using n11)
 have dl := T.get cl (by simpa using nl)
 have l11 := lt_of_get c11
 have ll := lt_of_get cl
 have hT := T.1
 refine lssI (cndI (fun hlt => ?_) fun hge => ?_)
 rotate_left
 ·have : k = fr + dy := by omega
  subst this
  refine ⟨.busy, none, _, _, _, _, _, _, _, hlH, .inl (k1 _ (starv_none f hn hno) (T.set (.inl (by simp))) (List.getElem?_set_self hll'))⟩
 have hka : k < a := by omega
 have hb : w[k]? = some (w.getD k 0) := by
  rw [List.getD_eq_getElem?_getD, List.getElem?_eq_getElem (by omega)]
  rfl
 have hbd := headsOk_getD hho k
 refine ⟨[p11, pl], ldI (v := .slice (some ⟨pl, 0, none⟩) a a) d11 rfl rfl ⟨by simp [RdOk, ptrBlk], idxI ⟨by omega, by omega⟩ ?_⟩⟩
 have hx : ((stayH a fr dy n).map vint)[0 + ((k : Nat) : Int).toNat * 1]? = some (vint ((stayH a fr dy n).getD k 0)) := by
  rw [Int.toNat_natCast, Nat.mul_one, Nat.zero_add, List.getElem?_map, stayH_get hka, stayH_getD hka]
  rfl
 refine ldI (v := vint ((stayH a fr dy n).getD k 0)) dl hx rfl ⟨by simp [RdOk, ptrBlk], byteI hb (eqlW ?_)⟩
 refine good126 hJ cm f (stdR_ok f hho k) ⟨hbd.1, by omega⟩ fun H8 S8 c8' => ⟨sbTwo S8 (by omega) (by omega) (by simp; omega) (by simp; omega), ext0 (ext1 (cndB (fun hy => ?_) fun hno' => ?_))⟩
 ·have T8 : SameX [l] H H8 := T.thru S8 (by simp; omega)
  refine qSt (T8.get c13 (by simpa using n13)) (by simp) rfl rfl fun H9 S9 c9' l9 => ?_
  have hl8 := S8.get hlH (by simp; omega)
  have hl9 := S9.get hl8 (by simpa using n13.symm)
  have hll9 := lt_of_get hl9
  refine ⟨.busy, none, _, _, _, _, _, _, _, hl9, .inl (k2 _ (starv_some (i := k) (by omega) hy) ?_ (List.getElem?_set_self hll9) (get_set c9' n13))⟩
  exact ((T8.weak (by simp)).trans (S9.weak (by simp))).set (.inl (by simp))
 ·refine addI (by omega) ⟨k + 1, by dsimp only; omega, .inl ⟨by omega, S.trans S8, c8', fun i hi => ?_, q11, q13, q14, q15, q40, by show vint _ = vint _; congr 1⟩⟩
  by_cases e : i = k
  ·rw [e]
   exact hno'
  ·exact hno i (by omega)
theorem good89 (hJ : Closed prog main J) {p : Pas} {s : SkyR} {n : Int} {fr dy : Nat} (f : pasOk p) (g : skyOk s) (hn : 0 ≤ n ∧ n ≤ 40) (hfd : ((fr + dy : Nat) : Int) ≤ s.days)
  (hK : ∀ H', SameX [] H H' → K (.bool (stayB p s n fr dy)) H') : Good prog J 89 [.agg ⟨p.cells⟩, .agg ⟨s.cells⟩, vint n, vint (fr : Nat), vint (dy : Nat)] H K := by
 refine g89 hJ fun ok => ?_
 rw [e89]
 obtain ⟨g1, g2, g3⟩ := id g
 obtain ⟨a, ha⟩ := Int.eq_ofNat_of_zero_le (by omega : (0 : Int) ≤ s.days)
 have ea : s.days.toNat = a := by omega
 refine qBox (l := p.cells) rfl fun H1 p5 e1 S1 c5 l1 => qBox (l := s.cells) rfl fun H2 p6 e2 S2 c6 l2 => qBox1 rfl rfl fun H3 p8 e3 S3 c8 l3 => qBox1 rfl rfl fun H4 p9 e4 S4 c9 l4 => ?_
 have c64 := S4.get (S3.get c6 (by simp)) (by simp)
 refine offI (ldI (v := vint s.days) c64 rfl rfl ⟨by decide, ?_⟩)
 have hrm : (2000 : Nat) < room := by decide
 refine ⟨by omega, Int.le_refl _, by omega, ?_⟩
 rw [ea]
 have zl : ∀ k, zrep [vint 0] k = (List.replicate k (0 : Int)).map vint := by
  intro k
  induction k with
  | zero => rfl
  | succ k ih =>
   show [vint 0] ++ zrep [vint 0] k = _
   rw [ih, List.replicate_succ]
   rfl
 generalize hH5 : H4 ++ [AObj.cells (zrep [vint 0] a) true 0] = H5
 have c4l : H5[H4.length]? = some (.cells ((stayH a fr 0 n).map vint) true 0) := by rw [← hH5, zl, stayH_zero]; simp
 have S5 : SameX [] H4 H5 := by rw [← hH5]; exact SameX.refl.app
 have hl5 : H5.length = H4.length + 1 := by rw [← hH5]; simp
 generalize hpl : H4.length = pl at c4l hl5
 refine qAl fun H6 p11 e6 S6 c11 l6 => qSt c11 (by simp) rfl rfl fun H7 S7 c11' l7 => ?_
 have c11' : H7[p11]? = some (.cells [.slice (some ⟨pl, 0, none⟩) a a] true 0) := c11'
 have S57 : SameX [] H5 H7 := S6.thru S7 (by simp; omega)
 have S47 : SameX [] H4 H7 := S5.trans S57
 have T7 : SameX [] H H7 := (((S1.trans S2).trans S3).trans S4).trans S47
 have d9 := S47.get c9 (by simp)
 have d8 := S47.get (S4.get c8 (by simp)) (by simp)
 have d6 := S47.get c64 (by simp)
 have d5 := S47.get (S4.get (S3.get (S2.get c5 (by simp)) (by simp)) (by simp)) (by simp)
 have dl := S57.get c4l (by simp)
 refine ldI (v := vint (dy : Nat)) d9 rfl rfl ?_
 refine l89_1 hJ (fun i : Nat => dy - i) (fun i F H' => i ≤ dy ∧ SameX [pl] H7 H' ∧ H'[pl]? = some (.cells ((stayH a fr i n).map vint) true 0) ∧ F.ds = [] ∧ F.r 2 = vint n ∧ F.r 5 = ptr p5 0 ∧ F.r 6 = ptr p6 0 ∧ F.r 8 = ptr p8 0 ∧ F.r 9 = ptr p9 0 ∧ F.r 11 = ptr p11 0 ∧ F.r 22 = vint (dy : Nat) ∧ F.r 23 = vint (i : Nat)) ?_ (s := 0)
  (.inl ⟨by omega, SameX.refl, dl, rfl, rfl, rfl, rfl, rfl, rfl, rfl, rfl, rfl⟩)
 rintro i F H' ⟨hi, S, cl, ds, r2, r5, r6, r8, r9, r11, r22, r23⟩ okc hnc
 rw [s89_1, r2, r6, r8, r11, r22, r23]
 have n8 : p8 ≠ pl := by omega
 have x11 := S.get c11' (by simp; omega)
 have x8 := S.get d8 (by simp; omega)
 refine lssI (cndI (fun hlt => ?_) fun hge => ?_)
 ·refine ldI (v := .slice (some ⟨pl, 0, none⟩) a a) x11 rfl rfl (ldI (v := vint (fr : Nat)) x8 rfl rfl (addI (by omega) (idxI ⟨by omega, by omega⟩ ?_)))
  have e1 : 0 + (((fr : Nat) : Int) + ((i : Nat) : Int)).toNat * 1 = fr + i := by omega
  rw [e1]
  refine qSt cl (by simp [stayH_len]; omega) rfl rfl fun H8 S8 c8' l8 => addI (by omega) ⟨i + 1, by dsimp only; omega, .inl ⟨by omega, S.trans S8, ?_, ds, r2, r5, r6, r8, r9, r11, r22, by show vint _ = vint _; congr 1⟩⟩
  rw [c8', ← List.map_set, stayH_set (by omega)]
 have hid : i = dy := by omega
 subst hid
 -- the rains
 have hS := S.1
 refine qAl fun H8 p13 e8 S8 c13 l8 => qSt c13 (by simp) rfl rfl fun H9 S9 c13' l9 => ?_
 have c13' : H9[p13]? = some (.cells [.bool true] true 0) := c13'
 have S79 : SameX [] H' H9 := S8.thru S9 (by simp; omega)
 have S69 : SameX [pl] H7 H9 := S.trans S79.weak0
 refine load_part (c := s.cells) (S69.get d6 (by simp; omega)) (by simp [SkyR.cells]) rfl rfl ?_
 refine good90 hJ fun H10 ps S10 cs10 gs => ?_
 have T10 : SameX [pl] H7 H10 := S69.trans S10.weak0
 have TH : SameX [] H H10 := T7.thru T10 (by simp; omega)
 refine l89_2 hJ (first := []) (cap := [ptr ps 0]) rfl (by decide) ?_
 obtain ⟨R, hRe⟩ : ∃ R : RG, R = RG.p (RG.p (RG.p (RG.p F 24 (.bool (decide (((i : Nat) : Int) < ((i : Nat) : Int))))) 13 (ptr p13 0)) 33 (.agg ⟨s.cells⟩)) 34 (.func (.func 127) ⟨[]⟩ ⟨[ptr ps 0]⟩) := ⟨_, rfl⟩
 rw [← hRe]
 have R5 : R.r 5 = ptr p5 0 := by subst hRe; exact r5
 have R8 : R.r 8 = ptr p8 0 := by subst hRe; exact r8
 have R9 : R.r 9 = ptr p9 0 := by subst hRe; exact r9
 have R11 : R.r 11 = ptr p11 0 := by subst hRe; exact r11
 have R13 : R.r 13 = ptr p13 0 := by subst hRe; rfl
 have Rds : R.ds = [] := by subst hRe; exact ds
 clear hRe
 have hl11 : (H10 ++ [AObj.deferred] ++ [lpS .ready none R.r H10.length])[H10.length + 1]? = some (lpS .ready none R.r H10.length) := by
  rw [List.append_assoc]
  simp
 have hd11 : (H10 ++ [AObj.deferred] ++ [lpS .ready none R.r H10.length])[H10.length]? = some .deferred := by
  rw [List.append_assoc]
  simp
 have hln : (H10 ++ [AObj.deferred] ++ [lpS .ready none R.r H10.length]).length = H10.length + 2 := by simp
 have S11 : SameX [] H10 (H10 ++ [AObj.deferred] ++ [lpS .ready none R.r H10.length]) := SameX.refl.app.app
 generalize hH11 : H10 ++ [AObj.deferred] ++ [lpS .ready none R.r H10.length] = H11 at hl11 hd11 hln S11
 have U : SameX [pl] H7 H11 := T10.trans S11.weak0
 have UH : SameX [] H H11 := TH.trans S11
 have w13 : H11[p13]? = some (.cells [.bool true] true 0) := S11.get (S10.get c13' (by simp)) (by simp)
 have wl : H11[pl]? = some (.cells ((stayH a fr i n).map vint) true 0) := S11.get (S10.get (S79.get cl (by simp)) (by simp)) (by simp)
 have w5 := U.get d5 (by simp; omega)
 have w8 := U.get d8 (by simp; omega)
 have w9 := U.get d9 (by simp; omega)
 have w11 := U.get c11' (by simp; omega)
 have ws : H11[ps]? = some (.cells s.cells true 0) := S11.get cs10 (by simp)
 have b5 := lt_of_get d5
 have b8 := lt_of_get d8
 have b9 := lt_of_get d9
 have b11 := lt_of_get c11'
 have bl := lt_of_get dl
 have b13 := lt_of_get c13'
 have bs := lt_of_get cs10
 have h10 := S10.1
 have fin : ∀ {b : Bool} {H' : List AObj} {pend : Option Code}, b = stayB p s n fr i → SameX [H10.length + 1, p13] H11 H' → H'[p13]? = some (.cells [.bool b] true 0) → (H'[H10.length + 1]? = some (lpS .ready none R.r H10.length) ∨ H'[H10.length + 1]? = some (lpS .done (some (.exit 2)) R.r H10.length)) →
   ∀ v, endQ H10.length R (contX pl89 prog J 60 H.length 89 ct89 [1, 0, 1, 1, 1, 1, 0, 1, 0] (codeOf f89) [] (RetQ prog [.tmp 10] H.length K)) v H' := by
  intro b H' pend hb S h13 hl v
  have hd' := S.get hd11 (by simp; omega)
  have hfin : retL H.length K [H10.length] [.bool b] (H'.set (H10.length + 1) .dead) := by
   refine retLdef (get_set hd' (by omega)) (by simp [unk]) ?_
   rw [hb]
   exact hK _ (((UH.thru S (by simp; omega)).set (.inr (by omega))).set (.inr (by omega)))
  rcases hl with hl | hl
  ·refine endQnorm hl (by simp) ?_
   rw [c89_2]
   show aLoad false 1 (R.r 13) _ _
   rw [R13, Rds]
   exact ldI (v := .bool b) (get_set h13 (by omega)) rfl rfl hfin
  ·refine endQexit hl (by simp) ?_
   rw [c89_2x2]
   show aLoad false 1 (R.r 13) _ _
   rw [R13, Rds]
   exact ldI (v := .bool b) (get_set h13 (by omega)) rfl rfl hfin
 have es : stayB p s n fr i = (rainsB s).all fun w => decide (starvR p (stayH a fr i n) w < 0) := by
  unfold stayB fedB
  rw [ea, Int.toNat_natCast, Int.toNat_natCast]
 have RD : Rnd J (rainsB s) (.func (.yield (H10.length + 1)) ⟨[]⟩ ⟨[]⟩) [H10.length + 1, p13] H11
   (fun k O H' => O = [] ∧ H'[H10.length + 1]? = some (lpS .ready none R.r H10.length) ∧ H'[p13]? = some (.cells [.bool true] true 0) ∧ ∀ j w, j < k → (rainsB s)[j]? = some w → starvR p (stayH a fr i n) w < 0)
   (fun H' => H'[H10.length + 1]? = some (lpS .done (some (.exit 2)) R.r H10.length) ∧ H'[p13]? = some (.cells [.bool false] true 0) ∧ ∃ w ∈ rainsB s, ¬ starvR p (stayH a fr i n) w < 0) := by
  refine ⟨by simp; omega, fun h => by rw [h.1]; simp, fun T hi => ⟨hi.1, by rw [T.2 _ (.inl (by omega))]; exact hi.2.1, by rw [T.2 _ (.inl (by omega))]; exact hi.2.2.1, hi.2.2.2⟩, ?_⟩
  rintro k w O Ha Q hw Sa _ ⟨rfl, i1, i2, i3⟩ q1 q2
  have hwl := rainsB_len (List.mem_of_getElem? hw)
  have ga : ∀ {q : Nat} {o : AObj}, H11[q]? = some o → q ≠ H10.length + 1 → q ≠ p13 → Ha[q]? = some o := fun hq h1 h2 => Sa.get hq (by simp; exact ⟨h1, h2⟩)
  refine roundS hJ (a := a) (fr := fr) (dy := i) (pl := pl) f hn (by omega) (by omega) (by rw [hwl, ea]) i1 R5 R8 R9 R11 R13 (ga w5 (by omega) (by omega)) (ga w8 (by omega) (by omega)) (ga w9 (by omega) (by omega)) (ga w11 (by omega) (by omega)) (ga wl (by omega) (by omega)) i2 (by omega) (by omega) (by omega) (by omega) (by omega) (by omega) (fun Hb hs Sb hlb => ?_) fun Hb hs Sb hlb h13 => ?_
  ·refine q1 [] Hb (Sb.weak (by simp)) (by simp) ⟨rfl, hlb, Sb.get i2 (by simp; omega), fun j u hj hu => ?_⟩
   by_cases e : j = k
   ·rw [e, hw] at hu
    injection hu with hu
    rw [← hu]
    exact hs
   ·exact i3 j u (by omega) hu
  ·exact q2 Hb (Sb.weak (by simp)) ⟨hlb, h13, w, List.mem_of_getElem? hw, hs⟩
 refine good127 hJ g RD ⟨rfl, rfl, rfl⟩ ws (by simp; omega) ⟨rfl, hl11, w13, fun j w hj => absurd hj (Nat.not_lt_zero _)⟩ (fun Hb O Sb _ hi => ?_) fun Hb Sb st => ?_
 ·obtain ⟨_, i1, i2, i3⟩ := hi
  refine fin (b := true) (pend := none) ?_ Sb i2 (.inl i1) _
  rw [es, eq_comm, List.all_eq_true]
  intro w hw
  obtain ⟨j, hj, e⟩ := List.mem_iff_getElem.1 hw
  exact decide_eq_true (i3 j w hj (by rw [List.getElem?_eq_getElem hj, e]))
 ·obtain ⟨i1, i2, w, hw, hs⟩ := st
  refine fin (b := false) (pend := none) ?_ Sb i2 (.inr i1) _
  rw [es, eq_comm, List.all_eq_false]
  exact ⟨w, hw, by rw [decide_eq_false hs]; decide⟩
theorem topH_yes {q : Int → Bool} {m : Nat} (h : q m = true) : ∀ {N : Nat}, m ≤ N → (∀ k : Nat, m < k → k ≤ N → q k = false) → topH q N = m
 | 0, hm, _ => by
  have : m = 0 := by omega
  subst this
  rfl
 | N + 1, hm, hno => by
  unfold topH
  by_cases e : m = N + 1
  ·subst e
   rw [if_pos h]
  ·rw [if_neg (by rw [hno (N + 1) (by omega) (Nat.le_refl _)]; decide)]
   exact topH_yes h (by omega) fun k h1 h2 => hno k h1 (by omega)
theorem topH_none {q : Int → Bool} : ∀ {N : Nat}, (∀ k : Nat, 0 < k → k ≤ N → q k = false) → topH q N = 0
 | 0, _ => rfl
 | N + 1, hno => by
  unfold topH
  rw [if_neg (by rw [hno (N + 1) (by omega) (Nat.le_refl _)]; decide)]
  exact topH_none fun k h1 h2 => hno k h1 (by omega)
theorem good33 (hJ : Closed prog main J) {p : Pas} {s : SkyR} {fr dy : Int} (hK : ∀ H', SameX [] H H' → K (.tuple ⟨[vint (headN p s fr dy), vint (headE p s fr dy)]⟩) H') : Good prog J 33 [.agg ⟨p.cells⟩, .agg ⟨s.cells⟩, vint fr, vint dy] H K := by
 refine g33 hJ fun ok => ?_
 rw [e33]
 refine qBox (l := p.cells) rfl fun H1 p4 e1 S1 c4 l1 => qBox (l := s.cells) rfl fun H2 p5 e2 S2 c5 l2 => ?_
 have c42 := S2.get c4 (by simp)
 have T2 := S1.trans S2
 have b4 := lt_of_get c42
 have b5 := lt_of_get c5
 refine ⟨[p4, p5], load_part (c := p.cells) c42 (by simp [Pas.cells]) rfl rfl ⟨by simp [RdOk, ptrBlk], load_part (c := s.cells) c5 (by simp [SkyR.cells]) rfl rfl ⟨by simp [RdOk, ptrBlk], ?_⟩⟩⟩
 have sb : ∀ {H'}, SameX [] H2 H' → SameB (some [p4, p5]) H2 H' := fun S => sbTwo S b4 b5 (by simp) (by simp)
 refine good36 hJ ⟨sb SameX.refl, good72 hJ ⟨sb SameX.refl, by decide, fillP2 ⟨rfl, rfl⟩ ⟨rfl, rfl⟩ (qNew fun H3 p3 e3 S3 c3 l3 => ⟨sb S3, ?_⟩)⟩⟩
 refine good88 hJ (ownX_sli (ownX_new (s := 1) (n := 2) c3 rfl rfl)) ⟨sb S3, ?_⟩
 have T3 := T2.trans S3
 have c43 := S3.get c42 (by simp)
 have c53 := S3.get c5 (by simp)
 have fin : ∀ {e : Int} {H' : List AObj}, headE p s fr dy = e → e ≠ 0 → SameX [] H H' → retL H.length K [] [vint 0, vint e] H' := fun he h0 S => by
  have := hK _ S
  unfold headN at this
  rw [if_neg (by omega), he] at this
  exact retL_same (nu2 (by simp [unk]) (by simp [unk])) this
 refine neqI (cndI (fun h1 => fin ?_ h1 T3) fun h1 => ?_)
 ·unfold headE; rw [if_pos h1]
 have hf : fst2 (pasE p) (skyE s) = 0 := by omega
 have f : pasOk p := by
  unfold fst2 at hf
  by_cases x : pasE p ≠ 0
  ·rw [if_pos x] at hf
   exact absurd hf x
  ·unfold pasE at x
   split at x
   ·assumption
   ·exact absurd (by decide) x
 have g : skyOk s := by
  unfold fst2 at hf
  by_cases x : pasE p ≠ 0
  ·rw [if_pos x] at hf
   exact absurd hf x
  ·rw [if_neg x] at hf
   unfold skyE at hf
   split at hf
   ·assumption
   ·cases hf
 obtain ⟨g1, g2, g3⟩ := id g
 refine offI (ldI (v := vint s.days) c53 rfl rfl (subI (by omega) (good73 hJ (notI (cndN (fun h2 => fin ?_ (by decide) T3) fun h2 => ?_)))))
 ·unfold headE; rw [if_neg h1, if_pos h2]
 refine offI (ldI (v := vint s.days) c53 rfl rfl (subI (by omega) (good73 hJ (notI (cndN (fun h3 => fin ?_ (by decide) T3) fun h3 => ?_)))))
 ·unfold headE; rw [if_neg h1, if_neg (not_not_intro h2), if_pos h3]
 have h0 : headE p s fr dy = 0 := by unfold headE; rw [if_neg h1, if_neg (not_not_intro h2), if_neg (not_not_intro h3)]
 obtain ⟨a, rfl⟩ := Int.eq_ofNat_of_zero_le (by omega : (0 : Int) ≤ fr)
 obtain ⟨b, rfl⟩ := Int.eq_ofNat_of_zero_le (by omega : (0 : Int) ≤ dy)
 refine l33_1 hJ (fun m : Nat => m) (fun m F H' => m ≤ 40 ∧ SameX [] H3 H' ∧ (∀ k : Nat, m < k → k ≤ 40 → stayB p s k (a : Nat) (b : Nat) = false) ∧ F.ds = [] ∧ F.r 2 = vint (a : Nat) ∧ F.r 3 = vint (b : Nat) ∧ F.r 4 = ptr p4 0 ∧ F.r 5 = ptr p5 0 ∧ F.r 11 = vint (m : Nat)) ?_ (s := 40)
  (.inl ⟨by omega, SameX.refl, fun k h1 h2 => absurd h1 (by omega), rfl, rfl, rfl, rfl, rfl, rfl⟩)
 rintro m F H' ⟨hm, S, hno, ds, r2, r3, r4, r5, r11⟩ okc hnc
 rw [s33_1, r2, r3, r4, r5, r11]
 have last : headN p s (a : Nat) (b : Nat) = m → retL H.length K [] [vint (m : Nat), vint 0] H' := fun he => by
  have := hK H' (T3.trans S)
  rw [he, h0] at this
  exact retL_same (nu2 (by simp [unk]) (by simp [unk])) this
 refine gtrI (cndI (fun hpos => ?_) fun hz => hold.2 ?_)
 ·refine load_part (c := p.cells) (S.get c43 (by simp)) (by simp [Pas.cells]) rfl rfl (load_part (c := s.cells) (S.get c53 (by simp)) (by simp [SkyR.cells]) rfl rfl ?_)
  refine good89 hJ f g (by omega) (by omega) fun H4 S4 => notI (hold.2 ?_)
  rw [s33_2]
  show cnd (.bool (!stayB p s m (a : Nat) (b : Nat))) _ _
  refine cndB (fun hst => ?_) fun hst => ?_
  ·have hst : stayB p s m (a : Nat) (b : Nat) = false := by simpa using hst
   show aBin prog .sub 3 (F.r 11) (vint 1) _
   rw [r11]
   refine subI (by omega) ⟨m - 1, by dsimp only; omega, .inl ⟨by omega, S.trans S4, fun k h1 h2 => ?_, ds, r2, r3, r4, r5, by show vint _ = vint _; congr 1; omega⟩⟩
   by_cases e : k = m
   ·rw [e]
    exact hst
   ·exact hno k (by omega) h2
  ·have hst : stayB p s m (a : Nat) (b : Nat) = true := by simpa using hst
   show retL H.length K F.ds [F.r 11, vint 0] H4
   rw [ds, r11]
   have := hK H4 ((T3.trans S).trans S4)
   unfold headN at this
   rw [if_pos h0, topH_yes (q := fun n => stayB p s n (a : Nat) (b : Nat)) hst hm hno, h0] at this
   exact retL_same (nu2 (by simp [unk]) (by simp [unk])) this
 ·have : m = 0 := by omega
  subst this
  rw [s33_2]
  show cnd (.bool false) _ _
  refine cnd_false.2 ?_
  show retL H.length K F.ds [F.r 11, vint 0] H'
  rw [ds, r11]
  refine last ?_
  unfold headN
  rw [if_pos h0]
  exact topH_none fun k h1 h2 => hno k (by omega) h2
end
def ckdE (p : Pas) (heads : List Int) (s : SkyR) : Int := if fst2 (pasE p) (skyE s) ≠ 0 then fst2 (pasE p) (skyE s) else hunE heads s.days
theorem fst2_zero {p : Pas} {s : SkyR} (h : fst2 (pasE p) (skyE s) = 0) : pasOk p ∧ skyOk s := by
 unfold fst2 at h
 by_cases x : pasE p ≠ 0
 ·rw [if_pos x] at h
  exact absurd h x
 ·rw [if_neg x] at h
  refine ⟨?_, ?_⟩
  ·unfold pasE at x
   split at x
   ·assumption
   ·exact absurd (by decide) x
  ·unfold skyE at h
   split at h
   ·assumption
   ·cases h
theorem ckdE_zero {p : Pas} {heads : List Int} {s : SkyR} (h : ckdE p heads s = 0) : pasOk p ∧ skyOk s ∧ headsOk heads ∧ (heads.length : Int) = s.days := by
 unfold ckdE at h
 split at h
 ·rename_i x
  exact absurd h x
 ·rename_i x
  obtain ⟨f, g⟩ := fst2_zero (p := p) (s := s) (by omega)
  unfold hunE at h
  split at h
  ·rename_i y
   exact absurd h y
  ·rename_i y
   split at h
   ·rename_i hh
    refine ⟨f, g, hh, ?_⟩
    unfold cntE at y
    split at y
    ·exact absurd (by decide) y
    ·split at y
     ·exact absurd (by decide) y
     ·omega
   ·cases h
section
variable {main : Bool} {J : JT} {h H : List AObj} {K : Value → List AObj → Prop} {KV : Value → Prop} {HL : List AObj → Prop} {n0 : Nat}
theorem sliValZ {v : Value} {s n : Nat} {cs : List Value} (hs : Sli h v s n cs) : v.cells = #[v] ∧ one v = true ∧ kn1 v = true := by
 obtain ⟨base, c, rfl, _⟩ := hs
 exact ⟨rfl, rfl, rfl⟩
theorem good92 (hJ : Closed prog main J) {p : Pas} {s : SkyR} {hs : List Int} {hv : Value} (sh : Sli H hv 1 hs.length (hs.map vint)) (hl : hs.length < 1000000) (hK : ∀ H', SameX [] H H' → K (vint (ckdE p hs s)) H') : Good prog J 92 [.agg ⟨p.cells⟩, hv, .agg ⟨s.cells⟩] H K := by
 refine g92 hJ fun ok => ?_
 rw [e92]
 refine qBox (l := p.cells) rfl fun H1 p4 e1 S1 c4 l1 => qBox (l := s.cells) rfl fun H2 p5 e2 S2 c5 l2 => ?_
 have c42 := S2.get c4 (by simp)
 have T2 := S1.trans S2
 have b4 := lt_of_get c42
 have b5 := lt_of_get c5
 refine ⟨[p4, p5], load_part (c := p.cells) c42 (by simp [Pas.cells]) rfl rfl ⟨by simp [RdOk, ptrBlk], load_part (c := s.cells) c5 (by simp [SkyR.cells]) rfl rfl ⟨by simp [RdOk, ptrBlk], ?_⟩⟩⟩
 have sb : ∀ {H'}, SameX [] H2 H' → SameB (some [p4, p5]) H2 H' := fun S => sbTwo S b4 b5 (by simp) (by simp)
 refine good36 hJ ⟨sb SameX.refl, good72 hJ ⟨sb SameX.refl, by decide, fillP2 ⟨rfl, rfl⟩ ⟨rfl, rfl⟩ (qNew fun H3 p3 e3 S3 c3 l3 => ⟨sb S3, ?_⟩)⟩⟩
 refine good88 hJ (ownX_sli (ownX_new (s := 1) (n := 2) c3 rfl rfl)) ⟨sb S3, ?_⟩
 have T3 := T2.trans S3
 have c53 := S3.get c5 (by simp)
 have k := hK H3 T3
 refine neqI (cndI (fun h1 => ?_) fun h1 => ?_)
 ·unfold ckdE at k
  rw [if_pos h1] at k
  exact retL_same (by simp [unk]) k
 ·refine offI (ldI (v := vint s.days) c53 rfl rfl (good124 hJ (T3.sli sh (by simp)) hl ?_))
  unfold ckdE at k
  rw [if_neg h1] at k
  exact retL_same (by simp [unk]) k
end
def stepV (p : Pas) (hs : List Int) (a : List UInt8 × Int) (w : List UInt8) : List UInt8 × Int := if starvR p hs w ≥ 0 ∧ (a.2 < 0 ∨ starvR p hs w < a.2) then (w, starvR p hs w) else a
def worstR (p : Pas) (hs : List Int) (s : SkyR) : List UInt8 × Int := (rainsB s).foldl (stepV p hs) ([], -1)
section
variable {main : Bool} {J : JT} {h H : List AObj} {K : Value → List AObj → Prop} {KV : Value → Prop} {HL : List AObj → Prop} {n0 : Nat}
noncomputable abbrev lpV (st : LoopState) (pend : Option Code) (r : Nat → Value) (d : Nat) : AObj := .loop st pend 51 r 45 #[23] (subC [1, 1, 1, 0, 1, 0, 0] (codeOf f51)) (subC [1, 1, 1, 0, 1, 0, 1] (codeOf f51)) d
theorem roundV (hJ : Closed prog main J) {l d p3 p4 p9 p10 : Nat} {R : Nat → Value} {p : Pas} {hs : List Int} {hv : Value} {w w0 : List UInt8} {d0 : Int} {Q : Value → List AObj → Prop} (f : pasOk p) (hh : headsOk hs) (hw : w.length ≤ hs.length) (hw2 : w.length ≤ 1000)
  (sh : Sli (H.set l (lpV .busy none R d)) hv 1 hs.length (hs.map vint)) (kv : kn1 hv = true)
  (hl : H[l]? = some (lpV .ready none R d)) (r3 : R 3 = ptr p3 0) (r4 : R 4 = ptr p4 0) (r9 : R 10 = ptr p9 0) (r10 : R 11 = ptr p10 0)
  (c3 : H[p3]? = some (.cells p.cells true 0)) (c4 : H[p4]? = some (.cells [hv] true 0)) (c9 : H[p9]? = some (.cells [strV w0] true 0)) (c10 : H[p10]? = some (.cells [vint d0] true 0))
  (n3 : p3 ≠ l) (n4 : p4 ≠ l) (n9 : p9 ≠ l) (n10 : p10 ≠ l) (n : p9 ≠ p10)
  (k : ∀ H', SameX [l, p9, p10] H H' → H'[l]? = some (lpV .ready none R d) → H'[p9]? = some (.cells [strV (stepV p hs (w0, d0) w).1] true 0) → H'[p10]? = some (.cells [vint (stepV p hs (w0, d0) w).2] true 0) → Q (.bool true) H') :
  callV prog (Good prog J) (.func (.yield l) ⟨[]⟩ ⟨[]⟩) [strV w] H Q := by
 show Good prog J (yid prog l) [strV w] H Q
 refine good_round hJ hl rfl (by decide) fun ok => W_sound hJ mixed _ ?_
 rw [a51_1]
 refine ⟨rfl, none, _, _, _, _, _, _, _, hl, W_sound hJ mixed _ ?_⟩
 rw [b51_1]
 have hll := lt_of_get hl
 have hl3 : (H.set l (lpV .busy none R d))[l]? = some (lpV .busy none R d) := List.getElem?_set_self hll
 have S3 : SameX [l] H (H.set l (lpV .busy none R d)) := SameX.refl.set (.inl (by simp))
 generalize H.set l (lpV .busy none R d) = H3 at hl3 S3 sh
 show aLoad true 6 (R 3) _ _
 rw [r3]
 refine load_part (c := p.cells) (S3.get c3 (by simpa using n3)) (by simp [Pas.cells]) rfl rfl ?_
 show aLoad false 1 (R 4) _ _
 rw [r4]
 refine ldI (v := hv) (S3.get c4 (by simpa using n4)) rfl kv ?_
 have nn : p10 ≠ p9 := fun e => n e.symm
 refine good98 hJ f hh sh hw hw2 fun H4 S4 => geqI ?_
 have T4 : SameX [l] H H4 := S3.trans S4.weak0
 have hl4 := S4.get hl3 (by simp)
 have d9 := T4.get c9 (by simpa using n9)
 have d10 := T4.get c10 (by simpa using n10)
 have hll4 := lt_of_get hl4
 have no : ¬ (starvR p hs w ≥ 0 ∧ (d0 < 0 ∨ starvR p hs w < d0)) → Q (.bool true) (H4.set l (lpV .ready none R d)) := fun hn => by
  have e : stepV p hs (w0, d0) w = (w0, d0) := by
   unfold stepV
   rw [if_neg hn]
  refine k _ ((T4.weak (by simp)).set (.inl (by simp))) (List.getElem?_set_self hll4) (get_set ?_ n9) (get_set ?_ n10)
  ·rw [e]
   exact d9
  ·rw [e]
   exact d10
 have yes : ∀ {H6 : List AObj}, (starvR p hs w ≥ 0 ∧ (d0 < 0 ∨ starvR p hs w < d0)) → SameX [p9, p10] H4 H6 → H6[p9]? = some (.cells [strV w] true 0) → H6[p10]? = some (.cells [vint (starvR p hs w)] true 0) → Q (.bool true) (H6.set l (lpV .ready none R d)) := fun {H6} hy S6 e9 e10 => by
  have e : stepV p hs (w0, d0) w = (w, starvR p hs w) := by
   unfold stepV
   rw [if_pos hy]
  have hl6 := S6.get hl4 (by simp; exact ⟨fun e => n9 e.symm, fun e => n10 e.symm⟩)
  refine k _ (((T4.weak (by simp)).trans (S6.weak (by simp))).set (.inl (by simp))) (List.getElem?_set_self (lt_of_get hl6)) (get_set ?_ n9) (get_set ?_ n10)
  ·rw [e]
   exact e9
  ·rw [e]
   exact e10
 have put : ∀ {v x : Value} {K6 : List AObj → Prop}, v = strV w → x = ptr p10 0 → (∀ H6, SameX [p9, p10] H4 H6 → H6[p9]? = some (.cells [strV w] true 0) → H6[p10]? = some (.cells [vint (starvR p hs w)] true 0) → H6[l]? = some (lpV .busy none R d) → K6 H6) → aStore 1 (ptr p9 0) v H4 fun H5 => aStore 1 x (vint (starvR p hs w)) H5 K6 := fun {v x K6} hv hx hk => by
  subst hv hx
  refine qSt d9 (by simp) rfl rfl fun H5 S5 c5 l5 => qSt (S5.get d10 (by simpa using nn)) (by simp) rfl rfl fun H6 S6 c6 l6 => ?_
  exact hk H6 ((S5.weak (by simp)).trans (S6.weak (by simp))) (S6.get c5 (by simpa using n)) c6 (S6.get (S5.get hl4 (by simpa using n9.symm)) (by simpa using n10.symm))
 refine cndI (fun h1 => ?_) fun h1 => ?_
 ·show aLoad false 1 (R 11) _ _
  rw [r10]
  refine ldI (v := vint d0) d10 rfl rfl (lssI (cndI (fun h2 => ?_) fun h2 => ?_))
  ·show aStore 1 (R 10) _ _ _
   rw [r9]
   refine put rfl r10 fun H6 S6 e9 e10 hl6 => ?_
   exact ⟨.busy, none, _, _, _, _, _, _, _, hl6, .inl (yes ⟨h1, .inl h2⟩ S6 e9 e10)⟩
  ·show aLoad false 1 (R 11) _ _
   rw [r10]
   refine ldI (v := vint d0) d10 rfl rfl (lssI (cndI (fun h3 => ?_) fun h3 => ?_))
   ·show aStore 1 (R 10) _ _ _
    rw [r9]
    refine put rfl r10 fun H6 S6 e9 e10 hl6 => ?_
    exact ⟨.busy, none, _, _, _, _, _, _, _, hl6, .inl (yes ⟨h1, .inr h3⟩ S6 e9 e10)⟩
   ·exact ⟨.busy, none, _, _, _, _, _, _, _, hl4, .inl (no fun h => h.2.elim h2 h3)⟩
 ·exact ⟨.busy, none, _, _, _, _, _, _, _, hl4, .inl (no fun h => h1 h.1)⟩
def wstV (p : Pas) (hs : List Int) (s : SkyR) : List UInt8 × Int × Int := if ckdE p hs s ≠ 0 then ([], 0, ckdE p hs s) else if (worstR p hs s).2 < 0 then ([], 0, 11) else ((worstR p hs s).1, (worstR p hs s).2, 0)
theorem nu3 {a b c : Value} (ha : a ≠ unk) (hb : b ≠ unk) (hc : c ≠ unk) : ∀ v ∈ [a, b, c], v ≠ unk := by
 intro v hv
 simp only [List.mem_cons, List.not_mem_nil, or_false] at hv
 rcases hv with rfl | rfl | rfl <;> assumption
set_option maxHeartbeats 800000 in
theorem good51 (hJ : Closed prog main J) {p : Pas} {s : SkyR} {hs : List Int} {hv : Value} (sh : Sli H hv 1 hs.length (hs.map vint)) (hl : hs.length < 1000000)
  (hK : ∀ H', SameX [] H H' → K (.tuple ⟨[strV (wstV p hs s).1, vint (wstV p hs s).2.1, vint (wstV p hs s).2.2]⟩) H') : Good prog J 51 [.agg ⟨p.cells⟩, hv, .agg ⟨s.cells⟩] H K := by
 refine g51 hJ fun ok => ?_
 rw [e51]
 have vh := sliValZ sh
 refine qBox (l := p.cells) rfl fun H1 p3 e1 S1 c3 l1 => qBox1 vh.1 vh.2.1 fun H2 p4 e2 S2 c4 l2 => qBox (l := s.cells) rfl fun H3 p5 e3 S3 c5 l3 => ?_
 have c33 := S3.get (S2.get c3 (by simp)) (by simp)
 have c43 := S3.get c4 (by simp)
 have T3 := (S1.trans S2).trans S3
 refine load_part (c := p.cells) c33 (by simp [Pas.cells]) rfl rfl (ldI (v := hv) c43 rfl vh.2.2 (load_part (c := s.cells) c5 (by simp [SkyR.cells]) rfl rfl ?_))
 refine good92 hJ (T3.sli sh (by simp)) hl fun H4 S4 => neqI (cndI (fun h1 => ?_) fun h1 => ?_)
 ·have k := hK H4 (T3.trans S4)
  unfold wstV at k
  rw [if_pos h1] at k
  exact retL_same (nu3 (by simp [unk]) (by simp [unk]) (by simp [unk])) k
 have h0 : ckdE p hs s = 0 := by omega
 obtain ⟨f, g, hh, hlen⟩ := ckdE_zero h0
 obtain ⟨g1, g2, g3⟩ := id g
 refine qAl fun H5 p9 e5 S5 c9 l5 => qAl fun H6 p10 e6 S6 c10 l6 => ?_
 refine qSt (S6.get c9 (by simp)) (by simp) rfl rfl fun H7 S7 c97 l7 => qSt (S7.get c10 (by simp; omega)) (by simp) rfl rfl fun H8 S8 c108 l8 => ?_
 have c9 : H8[p9]? = some (.cells [strV []] true 0) := S8.get c97 (by simp; omega)
 have c10 : H8[p10]? = some (.cells [vint (-1)] true 0) := c108
 have h43 := S4.1
 have S48 : SameX [] H4 H8 := ((S5.trans S6).thru S7 (by simp; omega)).thru S8 (by simp; omega)
 have S38 := S4.trans S48
 have T8 : SameX [] H H8 := T3.trans S38
 refine load_part (c := s.cells) (S38.get c5 (by simp)) (by simp [SkyR.cells]) rfl rfl ?_
 refine good90 hJ fun H10 ps S10 cs10 gs => ?_
 have TH : SameX [] H H10 := T8.trans S10
 refine l51_1 hJ (first := []) (cap := [ptr ps 0]) rfl (by decide) ?_
 obtain ⟨R, hRe⟩ : ∃ R : RG, R = RG.p (RG.p (RG.p (RG.p (RG.p (RG.p (RG.p (RG.p (RG.p (RG.p (RG.p (RG.p (RG.p (RG.p (RG.p (RG.p (RG.p (RG.mk (regs [.agg ⟨p.cells⟩, hv, .agg ⟨s.cells⟩]) []) 3 (ptr p3 0)) 4 (ptr p4 0)) 5 (ptr p5 0)) 6 (strV [])) 7 (vint 0)) 8 (vint 0)) 14 (.agg ⟨p.cells⟩)) 15 hv) 16 (.agg ⟨s.cells⟩)) 17 (vint (ckdE p hs s))) 9 (vint (ckdE p hs s))) 18 (vint (ckdE p hs s))) 19 (.bool (decide (ckdE p hs s ≠ 0)))) 10 (ptr p9 0)) 11 (ptr p10 0)) 21 (.agg ⟨s.cells⟩)) 22 (.func (.func 127) ⟨[]⟩ ⟨[ptr ps 0]⟩) := ⟨_, rfl⟩
 rw [show (Value.string { data := #[] }) = strV [] from rfl, ← hRe]
 have R3 : R.r 3 = ptr p3 0 := by subst hRe; rfl
 have R4 : R.r 4 = ptr p4 0 := by subst hRe; rfl
 have R9 : R.r 10 = ptr p9 0 := by subst hRe; rfl
 have R10 : R.r 11 = ptr p10 0 := by subst hRe; rfl
 have Rds : R.ds = [] := by subst hRe; rfl
 clear hRe
 have hl11 : (H10 ++ [AObj.deferred] ++ [lpV .ready none R.r H10.length])[H10.length + 1]? = some (lpV .ready none R.r H10.length) := by
  rw [List.append_assoc]
  simp
 have hd11 : (H10 ++ [AObj.deferred] ++ [lpV .ready none R.r H10.length])[H10.length]? = some .deferred := by
  rw [List.append_assoc]
  simp
 have hln : (H10 ++ [AObj.deferred] ++ [lpV .ready none R.r H10.length]).length = H10.length + 2 := by simp
 have S11 : SameX [] H10 (H10 ++ [AObj.deferred] ++ [lpV .ready none R.r H10.length]) := SameX.refl.app.app
 generalize hH11 : H10 ++ [AObj.deferred] ++ [lpV .ready none R.r H10.length] = H11 at hl11 hd11 hln S11
 have UH : SameX [] H H11 := TH.trans S11
 have S8' := S10.trans S11
 have S3' := S38.trans S8'
 have w9 := S8'.get c9 (by simp)
 have w10 := S8'.get c10 (by simp)
 have w3 := S3'.get c33 (by simp)
 have w4 := S3'.get c43 (by simp)
 have ws : H11[ps]? = some (.cells s.cells true 0) := S11.get cs10 (by simp)
 have b3 := lt_of_get c33
 have b4 := lt_of_get c43
 have b9 := lt_of_get c9
 have b10 := lt_of_get c10
 have bs := lt_of_get cs10
 have h10 := S10.1
 have h38 := S38.1
 have hTH := TH.1
 have hUH := UH.1
 have hT3 := T3.1
 let acc : Nat → List UInt8 × Int := fun k => ((rainsB s).take k).foldl (stepV p hs) ([], -1)
 have tk : ∀ (k : Nat) (w : List UInt8), (rainsB s)[k]? = some w → acc (k + 1) = stepV p hs (acc k) w := fun k w hw => by
  dsimp only [acc]
  rw [List.take_add_one, hw, List.foldl_append]
  rfl
 have RD : Rnd J (rainsB s) (.func (.yield (H10.length + 1)) ⟨[]⟩ ⟨[]⟩) [H10.length + 1, p9, p10] H11
   (fun k O H' => O = [] ∧ H'[H10.length + 1]? = some (lpV .ready none R.r H10.length) ∧ H'[p9]? = some (.cells [strV (acc k).1] true 0) ∧ H'[p10]? = some (.cells [vint (acc k).2] true 0)) (fun H' => False) := by
  refine ⟨by simp; omega, fun h => by rw [h.1]; simp, fun T hi => ⟨hi.1, by rw [T.2 _ (.inl (by omega))]; exact hi.2.1, by rw [T.2 _ (.inl (by omega))]; exact hi.2.2.1, by rw [T.2 _ (.inl (by omega))]; exact hi.2.2.2⟩, ?_⟩
  rintro k w O Ha Q hw Sa _ ⟨rfl, i1, i2, i3⟩ q1 q2
  have hwl := rainsB_len (List.mem_of_getElem? hw)
  have ga : ∀ {q : Nat} {o : AObj}, H11[q]? = some o → q ≠ H10.length + 1 → q ≠ p9 → q ≠ p10 → Ha[q]? = some o := fun hq h1 h2 h3 => Sa.get hq (by simp; exact ⟨h1, h2, h3⟩)
  have Sx : SameX [H10.length + 1, p9, p10] H11 (Ha.set (H10.length + 1) (lpV .busy none R.r H10.length)) := Sa.set (.inl (by simp))
  have Sy : SameX [] H (Ha.set (H10.length + 1) (lpV .busy none R.r H10.length)) := UH.thru Sx (by simp; omega)
  refine roundV hJ f hh (by omega) (by omega) (Sy.sli sh (by simp)) vh.2.2 i1 R3 R4 R9 R10 (ga w3 (by omega) (by omega) (by omega)) (ga w4 (by omega) (by omega) (by omega)) i2 i3 (by omega) (by omega) (by omega) (by omega) (by omega) fun Hb Sb hlb h9 h10' => ?_
  refine q1 [] Hb (Sb.weak (by simp)) (by simp) ⟨rfl, hlb, ?_, ?_⟩
  ·rw [h9, tk k w hw]
  ·rw [h10', tk k w hw]
 refine good127 hJ g RD ⟨rfl, rfl, rfl⟩ ws (by simp; omega) ⟨rfl, hl11, w9, w10⟩ (fun Hb O Sb _ hi => ?_) fun Hb Sb st => st.elim
 obtain ⟨_, i1, i2, i3⟩ := hi
 have hacc : acc (rainsB s).length = worstR p hs s := by
  dsimp only [acc]
  rw [List.take_of_length_le (Nat.le_refl _)]
  rfl
 rw [hacc] at i2 i3
 refine endQnorm i1 (by simp) ?_
 rw [c51_1]
 show aLoad false 1 (R.r 11) _ _
 rw [R10, R9, Rds]
 have hd' := Sb.get hd11 (by simp; omega)
 have kk := hK ((Hb.set (H10.length + 1) .dead).set H10.length .dead) (((UH.thru Sb (by simp; omega)).set (.inr (by omega))).set (.inr (by omega)))
 unfold wstV at kk
 rw [if_neg (by omega)] at kk
 refine ldI (v := vint (worstR p hs s).2) (get_set i3 (by omega)) rfl rfl (lssI (cndI (fun hx => ?_) fun hx => ?_))
 ·rw [if_pos hx] at kk
  exact retLdef (get_set hd' (by omega)) (nu3 (by simp [unk]) (by simp [unk]) (by simp [unk])) kk
 ·rw [if_neg hx] at kk
  refine ldI (v := strV (worstR p hs s).1) (get_set i2 (by omega)) rfl rfl (ldI (v := vint (worstR p hs s).2) (get_set i3 (by omega)) rfl rfl ?_)
  exact retLdef (get_set hd' (by omega)) (nu3 (by simp [unk, strV]) (by simp [unk]) (by simp [unk])) kk
end
end Go.Proofs.Ythnccaajpdnndaa
namespace Go.Proofs.Ythnccaajpdnndaa
open Go.Conc Go.Proofs.Try
set_option maxRecDepth 100000
set_option maxHeartbeats 4000000
set_option linter.unusedVariables false
section
variable {main : Bool} {J : JT} {n0 : Nat} {h : List AObj} {K : Value → List AObj → Prop}
theorem at93 : prog.funcs[93]? = some f93 := by kernel_rfl
theorem body93 : f93.body = some (codeOf f93) := by kernel_rfl
def pl93 : Plans := []
def ct93 : Cuts := .go
theorem pok93 : plansOk prog pl93 (codeOf f93) = true := by kernel_rfl
theorem e93 {a0 a1 a2 : Value} : W prog J 21 h.length 93 (codeOf f93) (RG.mk (regs [a0, a1, a2]) []) h (RetQ prog [.tmp 6] h.length K) =
(aBox a0 h fun v1 h2 =>
 aBox a1 h2 fun v3 h4 =>
 aBox a2 h4 fun v5 h6 =>
 aOff v5 0 fun v7 =>
 aLoad false 1 v7 h6 fun v8 =>
((List.length [(vint 0), (vint 0), (Value.bool false)] = 3 ∧ (24 : Nat) ≤ 1024) ∧ aMkS [(vint 0), (vint 0), (Value.bool false)] v8 v8 h6 fun v9 h10 =>
 aAlloc [(Value.slice none 0 0)] h10 fun v11 h12 =>
 aStore 1 v11 v9 h12 fun h13 =>
 aLoad true 3 v5 h13 fun v14 =>
 Good prog J 90 [v14] h13 fun v15 h16 =>
 Sem J 21 h.length 93 (subC [1, 1, 0, 1, 0] (codeOf f93)) (RG.p (RG.p (RG.p (RG.p (RG.p (RG.p (RG.p (RG.p (RG.p (RG.p (RG.mk (regs [a0, a1, a2]) []) 3 v1) 4 v3) 5 v5) 6 (Value.slice none 0 0)) 9 v7) 10 v8) 11 v9) 7 v11) 12 v14) 13 v15) h16 (contX pl93 prog J 21 h.length 93 ct93 [1, 1, 0, 1, 0] (codeOf f93) [] (RetQ prog [.tmp 6] h.length K)))) := top_eq pok93 ct93 (by kernel_rfl)
theorem g93 (hJ : Closed prog main J) {a0 a1 a2 : Value} (hs : heapOk h → W prog J 21 h.length 93 (codeOf f93) (RG.mk (regs [a0, a1, a2]) []) h (RetQ prog [.tmp 6] h.length K)) : Good prog J 93 [a0, a1, a2] h K :=
 good_of_W hJ mixed at93 body93 (by kernel_rfl) (Nat.le_of_ble_eq_true rfl) hs
theorem a93_1 {f : RG} {fr : FuncId} {Q : QT} : W prog J 21 n0 fr (subC [1, 1, 0, 1, 0, 0] (codeOf f93)) f h Q =
(Q .normal (RG.p f 8 (f.r 14)) h) := sub_eq pok93 ct93 (by kernel_rfl)
theorem b93_1 {f : RG} {fr : FuncId} {Q : QT} : W prog J 21 n0 fr (subC [1, 1, 0, 1, 0, 1] (codeOf f93)) f h Q =
(aLoad true 6 (f.r 3) h fun v1 =>
 aLoad false 1 (f.r 4) h fun v2 =>
 aMkF 130 [] [(f.r 7)] fun v3 =>
 Good prog J 86 [v1, v2, (f.r 8), v3] h fun v4 h5 =>
 Q .normal (RG.p (RG.p (RG.p (RG.p (RG.p f 15 v1) 16 v2) 17 (f.r 8)) 18 v3) 19 v4) h5) := sub_eq pok93 ct93 (by kernel_rfl)
theorem c93_1 {f : RG} : (contX pl93 prog J 21 n0 93 ct93 [1, 1, 0, 1, 0] (codeOf f93) [] (RetQ prog [.tmp 6] n0 K)) .normal f h =
(aLoad false 1 (f.r 7) h fun v1 =>
 retL n0 K f.ds [v1] h) := by kernel_rfl
theorem l93_1 (hJ : Closed prog main J) {f : RG} {g : FuncId} {first cap : List Value} (hx : ev f.r ((Go.Operand.tmp 13)) = .func (.func g) ⟨first⟩ ⟨cap⟩) (hg : g < prog.funcs.size)
 (hs : Good prog J g (first ++ [.func (.yield (h.length + 1)) ⟨[]⟩ ⟨[]⟩] ++ cap) (h ++ [.deferred] ++ [.loop .ready none 93 f.r 21 #[14] (subC [1, 1, 0, 1, 0, 0] (codeOf f93)) (subC [1, 1, 0, 1, 0, 1] (codeOf f93)) h.length]) (endQ h.length f (contX pl93 prog J 21 n0 93 ct93 [1, 1, 0, 1, 0] (codeOf f93) [] (RetQ prog [.tmp 6] n0 K)))) (hcall : callable prog g = true := by kernel_rfl) : Sem J 21 n0 93 (subC [1, 1, 0, 1, 0] (codeOf f93)) f h (contX pl93 prog J 21 n0 93 ct93 [1, 1, 0, 1, 0] (codeOf f93) [] (RetQ prog [.tmp 6] n0 K)) :=
 Sem_range hJ (by decide) (fop := (Go.Operand.tmp 13)) (params := #[14]) (assign := subC [1, 1, 0, 1, 0, 0] (codeOf f93)) (body := subC [1, 1, 0, 1, 0, 1] (codeOf f93)) hx hg hs hcall
theorem at130 : prog.funcs[130]? = some f130 := by kernel_rfl
theorem body130 : f130.body = some (codeOf f130) := by kernel_rfl
def pl130 : Plans := [(0, false, .take 0 (.take 1 (.take 2 (.take 3 (.take 4 (.take 5 (.take 6 (.last 7 true (.take 8 (.last 9 false (.fin)))))))))))]
def ct130 : Cuts := .go
theorem pok130 : plansOk prog pl130 (codeOf f130) = true := by kernel_rfl
theorem e130 {a0 a1 a2 a3 a4 : Value} : W prog J 18 h.length 130 (codeOf f130) (RG.mk (regs [a0, a1, a2, a3, a4]) []) h (RetQ prog [] h.length K) =
((∃ B, aLoad false 1 a4 h fun v1 =>
 RdOk (some B) (ptrBlk a4) ∧ (aLoad false 1 a4 h fun v2 =>
 RdOk (some B) (ptrBlk a4) ∧ (aIdx 3 v2 a0 fun v3 =>
 aLoad true 3 v3 h fun v4 =>
 RdOk (some B) (ptrBlk v3) ∧ (Good prog J 131 [v4, a1] h fun v5 h6 =>
 SameB (some B) h h6 ∧ (aIdx 3 v1 a0 fun v7 =>
 aStore 3 v7 v5 h6 fun h8 =>
 retL h.length K [] [] h8)))))) := top_eq pok130 ct130 (by kernel_rfl)
theorem g130 (hJ : Closed prog main J) {a0 a1 a2 a3 a4 : Value} (hs : heapOk h → W prog J 18 h.length 130 (codeOf f130) (RG.mk (regs [a0, a1, a2, a3, a4]) []) h (RetQ prog [] h.length K)) : Good prog J 130 [a0, a1, a2, a3, a4] h K :=
 good_of_W hJ mixed at130 body130 (by kernel_rfl) (Nat.le_of_ble_eq_true rfl) hs
theorem at131 : prog.funcs[131]? = some f131 := by kernel_rfl
theorem body131 : f131.body = some (codeOf f131) := by kernel_rfl
def pl131 : Plans := []
def ct131 : Cuts := .go
theorem pok131 : plansOk prog pl131 (codeOf f131) = true := by kernel_rfl
theorem e131 {a0 a1 : Value} : W prog J 20 h.length 131 (codeOf f131) (RG.mk (regs [a0, a1]) []) h (RetQ prog [.cell 4 127] h.length K) =
(aBox a0 h fun v1 h2 =>
 aAlloc [(vint 0), (vint 0), (Value.bool false)] h2 fun v3 h4 =>
 aOff v1 2 fun v5 =>
 aLoad false 1 v5 h4 fun v6 =>
 aUn .not v6 fun v7 =>
 cnd v7
(aFill [(vint 0), (vint 0), (Value.bool false)] [(0, 1, a1), (1, 1, a1), (2, 1, (Value.bool true))] fun c8 =>
 aStore 3 v3 (Value.agg ⟨c8⟩) h4 fun h9 =>
 RetQ prog [.cell 4 127] h.length K .ret (RG.p (RG.p (RG.p (RG.p (RG.p (RG.p (RG.p (RG.p (RG.mk (regs [a0, a1]) []) 2 v1) 4 v3) 5 v5) 6 v6) 7 v7) 8 a1) 9 a1) 10 (Value.agg ⟨c8⟩)) h9)
(aOff v1 0 fun v10 =>
 aLoad false 1 v10 h4 fun v11 =>
 aMin v11 [a1] fun v12 =>
 aOff v1 1 fun v13 =>
 aLoad false 1 v13 h4 fun v14 =>
 aMax v14 [a1] fun v15 =>
 aFill [(vint 0), (vint 0), (Value.bool false)] [(0, 1, v12), (1, 1, v15), (2, 1, (Value.bool true))] fun c16 =>
 aStore 3 v3 (Value.agg ⟨c16⟩) h4 fun h17 =>
 RetQ prog [.cell 4 127] h.length K .ret (RG.p (RG.p (RG.p (RG.p (RG.p (RG.p (RG.p (RG.p (RG.p (RG.p (RG.p (RG.p (RG.p (RG.p (RG.mk (regs [a0, a1]) []) 2 v1) 4 v3) 5 v5) 6 v6) 7 v7) 11 v10) 12 v11) 13 a1) 14 v12) 15 v13) 16 v14) 17 a1) 18 v15) 19 (Value.agg ⟨c16⟩)) h17)) := top_eq pok131 ct131 (by kernel_rfl)
theorem g131 (hJ : Closed prog main J) {a0 a1 : Value} (hs : heapOk h → W prog J 20 h.length 131 (codeOf f131) (RG.mk (regs [a0, a1]) []) h (RetQ prog [.cell 4 127] h.length K)) : Good prog J 131 [a0, a1] h K :=
 good_of_W hJ mixed at131 body131 (by kernel_rfl) (Nat.le_of_ble_eq_true rfl) hs
theorem at41 : prog.funcs[41]? = some f41 := by kernel_rfl
theorem body41 : f41.body = some (codeOf f41) := by kernel_rfl
def pl41 : Plans := []
def ct41 : Cuts := .go
theorem pok41 : plansOk prog pl41 (codeOf f41) = true := by kernel_rfl
theorem e41 {a0 a1 a2 : Value} : W prog J 38 h.length 41 (codeOf f41) (RG.mk (regs [a0, a1, a2]) []) h (RetQ prog [.tmp 6, .tmp 7] h.length K) =
(aBox a0 h fun v1 h2 =>
 aBox a2 h2 fun v3 h4 =>
 aLoad true 6 v1 h4 fun v5 =>
 aLoad true 3 v3 h4 fun v6 =>
 Good prog J 92 [v5, a1, v6] h4 fun v7 h8 =>
 aBin prog .neq 37 v7 (vint 0) fun v9 =>
 cnd v9
(retL h.length K [] [(Value.slice none 0 0), v7] h8)
(aLoad true 6 v1 h8 fun v10 =>
 aLoad true 3 v3 h8 fun v11 =>
 Good prog J 93 [v10, a1, v11] h8 fun v12 h13 =>
 aLenS v12 fun v14 =>
 Sem J 38 h.length 41 (subC [1, 1, 1, 0, 1, 0] (codeOf f41)) (RG.p (RG.p (RG.p (RG.p (RG.p (RG.p (RG.p (RG.p (RG.p (RG.p (RG.p (RG.p (RG.p (RG.p (RG.p (RG.p (RG.p (RG.p (RG.mk (regs [a0, a1, a2]) []) 3 v1) 5 v3) 6 (Value.slice none 0 0)) 7 (vint 0)) 12 v5) 13 a1) 14 v6) 15 v7) 8 v7) 16 v7) 17 v9) 9 (Value.slice none 0 0)) 19 v10) 20 a1) 21 v11) 22 v12) 23 v14) 24 (vint 0)) h13 (contX pl41 prog J 38 h.length 41 ct41 [1, 1, 1, 0, 1, 0] (codeOf f41) [] (RetQ prog [.tmp 6, .tmp 7] h.length K)))) := top_eq pok41 ct41 (by kernel_rfl)
theorem g41 (hJ : Closed prog main J) {a0 a1 a2 : Value} (hs : heapOk h → W prog J 38 h.length 41 (codeOf f41) (RG.mk (regs [a0, a1, a2]) []) h (RetQ prog [.tmp 6, .tmp 7] h.length K)) : Good prog J 41 [a0, a1, a2] h K :=
 good_of_W hJ mixed at41 body41 (by kernel_rfl) (Nat.le_of_ble_eq_true rfl) hs
theorem s41_1 {f : RG} {nx0 : RG → List AObj → Prop} : W prog J 38 n0 41 (subC [1, 1, 1, 0, 1, 0, 0] (codeOf f41)) f h (thenK nx0 (contX pl41 prog J 38 n0 41 ct41 [1, 1, 1, 0, 1, 0] (codeOf f41) [] (RetQ prog [.tmp 6, .tmp 7] n0 K))) =
(aBin prog .lss 3 (f.r 24) (f.r 23) fun v1 =>
 cnd v1
(aIdx 3 (f.r 22) (f.r 24) fun v2 =>
 aLoad true 3 v2 h fun v3 =>
 aAlloc [(vint 0), (vint 0), (Value.bool false)] h fun v4 h5 =>
 aStore 3 v4 v3 h5 fun h6 =>
 aOff v4 0 fun v7 =>
 aLoad false 1 v7 h6 fun v8 =>
 aOff v4 1 fun v9 =>
 aLoad false 1 v9 h6 fun v10 =>
 aFill [(vint 0), (vint 0)] [(0, 1, v8), (1, 1, v10)] fun c11 =>
(((1 * 2 : Nat) ≤ 16777216 ∧ (1 : Nat) ≤ 16777216 ∧ List.length [(vint 0), (vint 0)] = 2) ∧ aFill (zrep [(vint 0), (vint 0)] 1) [(0, 2, (Value.agg ⟨c11⟩))] fun c12 =>
 aNewS 1 c12 h6 fun v13 h14 =>
((List.length [(vint 0), (vint 0)] = 2 ∧ 0 < (2 : Nat) ∧ 0 < (16 : Nat) ∧ (16 : Nat) ≤ 1024) ∧ aApp 2 (f.r 9) v13 h14 fun v15 h16 =>
 aBin prog .add 3 (f.r 24) (vint 1) fun v17 =>
 nx0 (RG.p (RG.p (RG.p (RG.p (RG.p (RG.p (RG.p (RG.p (RG.p (RG.p (RG.p (RG.p (RG.p (RG.p (RG.p f 25 v1) 26 v2) 27 v3) 11 v4) 28 (f.r 9)) 29 v7) 30 v8) 31 v9) 32 v10) 33 (Value.agg ⟨c11⟩)) 34 v13) 35 v15) 9 v15) 36 v17) 24 v17) h16)))
(retL n0 K f.ds [(f.r 9), (vint 0)] h)) := sub_eq pok41 ct41 (by kernel_rfl)
theorem l41_1 (hJ : Closed prog main J) {S : Type} (μ : S → Nat) (I : S → RG → List AObj → Prop) (hI : ∀ s f h, I s f h → heapOk h → n0 ≤ h.length → W prog J 38 n0 41 (subC [1, 1, 1, 0, 1, 0, 0] (codeOf f41)) f h (thenK (Nx n0 μ I s) (contX pl41 prog J 38 n0 41 ct41 [1, 1, 1, 0, 1, 0] (codeOf f41) [] (RetQ prog [.tmp 6, .tmp 7] n0 K))))
 {s : S} {f : RG} (hi : Gets n0 I s f h) : Sem J 38 n0 41 (subC [1, 1, 1, 0, 1, 0] (codeOf f41)) f h (contX pl41 prog J 38 n0 41 ct41 [1, 1, 1, 0, 1, 0] (codeOf f41) [] (RetQ prog [.tmp 6, .tmp 7] n0 K)) :=
 loop_rule hJ mixed (b := subC [1, 1, 1, 0, 1, 0, 0] (codeOf f41)) (by kernel_rfl) μ I hI hi
end
section
variable {main : Bool} {J : JT} {n0 : Nat} {h : List AObj} {K : Value → List AObj → Prop}
theorem at85 : prog.funcs[85]? = some f85 := by kernel_rfl
theorem body85 : f85.body = some (codeOf f85) := by kernel_rfl
def pl85 : Plans := []
def ct85 : Cuts := .bin (.go) (.bin (.go) (.bin (.go) (.bin (.bin (.go) (.un (.un (.bin (.go) (.bin (.go) (.bin (.un (.bin (.go) (.bin (.go) (.cut (.go))))) (.go))))))) (.go))))
theorem pok85 : plansOk prog pl85 (codeOf f85) = true := by kernel_rfl
theorem e85 {a0 a1 a2 : Value} : W prog J 43 h.length 85 (codeOf f85) (RG.mk (regs [a0, a1, a2]) []) h (RetQ prog [.tmp 6] h.length K) =
(aBox a0 h fun v1 h2 =>
 aLoad true 6 v1 h2 fun v3 =>
 Good prog J 36 [v3] h2 fun v4 h5 =>
 aLenStr a2 fun v6 =>
 Good prog J 71 [v6, (vint 1), (vint 8)] h5 fun v7 h8 =>
(((2 * 1 : Nat) ≤ 16777216 ∧ (2 : Nat) ≤ 16777216 ∧ List.length [(vint 0)] = 1) ∧ aFill (zrep [(vint 0)] 2) [(0, 1, v4), (1, 1, v7)] fun c9 =>
 aNewS 2 c9 h8 fun v10 h11 =>
 Good prog J 88 [v10] h11 fun v12 h13 =>
 aBin prog .neq 37 v12 (vint 0) fun v14 =>
 cnd v14
(retL h.length K [] [v12] h13)
(aLenStr a2 fun v15 =>
 Good prog J 124 [a1, v15] h13 fun v16 h17 =>
 aBin prog .neq 37 v16 (vint 0) fun v18 =>
 cnd v18
(retL h.length K [] [v16] h17)
(aLenStr a2 fun v19 =>
 Sem J 43 h.length 85 (subC [1, 1, 1, 0, 1, 0] (codeOf f85)) (RG.p (RG.p (RG.p (RG.p (RG.p (RG.p (RG.p (RG.p (RG.p (RG.p (RG.p (RG.p (RG.p (RG.p (RG.p (RG.p (RG.p (RG.p (RG.p (RG.p (RG.p (RG.p (RG.mk (regs [a0, a1, a2]) []) 3 v1) 6 (vint 0)) 10 v3) 11 v4) 12 a2) 13 v6) 14 v7) 15 v10) 16 v12) 7 v12) 17 v12) 18 v14) 20 a1) 21 a2) 22 v15) 23 v16) 8 v16) 24 v16) 25 v18) 27 a2) 28 v19) 29 (vint 0)) h17 (contX pl85 prog J 43 h.length 85 ct85 [1, 1, 1, 0, 1, 0] (codeOf f85) [] (RetQ prog [.tmp 6] h.length K)))))) := top_eq pok85 ct85 (by kernel_rfl)
theorem g85 (hJ : Closed prog main J) {a0 a1 a2 : Value} (hs : heapOk h → W prog J 43 h.length 85 (codeOf f85) (RG.mk (regs [a0, a1, a2]) []) h (RetQ prog [.tmp 6] h.length K)) : Good prog J 85 [a0, a1, a2] h K :=
 good_of_W hJ mixed at85 body85 (by kernel_rfl) (Nat.le_of_ble_eq_true rfl) hs
theorem s85_1 {f : RG} {nx0 : RG → List AObj → Prop} : W prog J 43 n0 85 (subC [1, 1, 1, 0, 1, 0, 0] (codeOf f85)) f h (thenK nx0 (contX pl85 prog J 43 n0 85 ct85 [1, 1, 1, 0, 1, 0] (codeOf f85) [] (RetQ prog [.tmp 6] n0 K))) =
(aBin prog .lss 3 (f.r 29) (f.r 28) fun v1 =>
 cnd v1
(aIdxStr (f.r 2) (f.r 29) fun v2 =>
 aBin prog .neq 5 v2 (Value.int .u8 100) fun v3 =>
 cnd v3
(aIdxStr (f.r 2) (f.r 29) fun v4 =>
 aBin prog .neq 5 v4 (Value.int .u8 119) fun v5 =>
 Hold (W prog J 43 n0 85 (subC [1, 1, 1, 0, 1, 0, 0, 1, 1, 0, 0, 1, 1] (codeOf f85)) (RG.p (RG.p (RG.p (RG.p (RG.p (RG.p (RG.p (RG.p (RG.p (RG.p (RG.p (RG.p (RG.p (RG.p f 30 v1) 31 (f.r 29)) 9 (f.r 29)) 32 (f.r 2)) 33 (f.r 29)) 34 v2) 35 v3) 36 v3) 36 (Value.bool true)) 37 (f.r 2)) 38 (f.r 29)) 39 v4) 40 v5) 41 v5) h (contX pl85 prog J 43 n0 85 ct85 [1, 1, 1, 0, 1, 0, 0, 1, 1, 0, 0, 1, 1] (codeOf f85) [nx0] (RetQ prog [.tmp 6] n0 K))))
(Hold (W prog J 43 n0 85 (subC [1, 1, 1, 0, 1, 0, 0, 1, 1, 0, 0, 1, 1] (codeOf f85)) (RG.p (RG.p (RG.p (RG.p (RG.p (RG.p (RG.p (RG.p (RG.p (RG.p (RG.p (RG.p (RG.p (RG.p f 30 v1) 31 (f.r 29)) 9 (f.r 29)) 32 (f.r 2)) 33 (f.r 29)) 34 v2) 35 v3) 36 v3) 36 (Value.bool false)) 37 undef) 38 undef) 39 undef) 40 undef) 41 (Value.bool false)) h (contX pl85 prog J 43 n0 85 ct85 [1, 1, 1, 0, 1, 0, 0, 1, 1, 0, 0, 1, 1] (codeOf f85) [nx0] (RetQ prog [.tmp 6] n0 K)))))
(retL n0 K f.ds [(vint 0)] h)) := sub_eq pok85 ct85 (by kernel_rfl)
theorem l85_1 (hJ : Closed prog main J) {S : Type} (μ : S → Nat) (I : S → RG → List AObj → Prop) (hI : ∀ s f h, I s f h → heapOk h → n0 ≤ h.length → W prog J 43 n0 85 (subC [1, 1, 1, 0, 1, 0, 0] (codeOf f85)) f h (thenK (Nx n0 μ I s) (contX pl85 prog J 43 n0 85 ct85 [1, 1, 1, 0, 1, 0] (codeOf f85) [] (RetQ prog [.tmp 6] n0 K))))
 {s : S} {f : RG} (hi : Gets n0 I s f h) : Sem J 43 n0 85 (subC [1, 1, 1, 0, 1, 0] (codeOf f85)) f h (contX pl85 prog J 43 n0 85 ct85 [1, 1, 1, 0, 1, 0] (codeOf f85) [] (RetQ prog [.tmp 6] n0 K)) :=
 loop_rule hJ mixed (b := subC [1, 1, 1, 0, 1, 0, 0] (codeOf f85)) (by kernel_rfl) μ I hI hi
theorem s85_2 {f : RG} {nx0 : RG → List AObj → Prop} : W prog J 43 n0 85 (subC [1, 1, 1, 0, 1, 0, 0, 1, 1, 0, 0, 1, 1] (codeOf f85)) f h (contX pl85 prog J 43 n0 85 ct85 [1, 1, 1, 0, 1, 0, 0, 1, 1, 0, 0, 1, 1] (codeOf f85) [nx0] (RetQ prog [.tmp 6] n0 K)) =
(cnd (f.r 41)
(retL n0 K f.ds [(vint 2)] h)
(aBin prog .add 3 (f.r 29) (vint 1) fun v1 =>
 nx0 (RG.p (RG.p f 42 v1) 29 v1) h)) := sub_eq pok85 ct85 (by kernel_rfl)
theorem at86 : prog.funcs[86]? = some f86 := by kernel_rfl
theorem body86 : f86.body = some (codeOf f86) := by kernel_rfl
def pl86 : Plans := [(5, true, .take 0 (.take 1 (.take 2 (.take 3 (.take 4 (.take 5 (.take 6 (.take 7 (.take 8 (.last 9 false (.take 10 (.take 11 (.take 12 (.take 13 (.take 14 (.fin))))))))))))))))]
def ct86 : Cuts := .go
theorem pok86 : plansOk prog pl86 (codeOf f86) = true := by kernel_rfl
theorem e86 {a0 a1 a2 a3 : Value} : W prog J 43 h.length 86 (codeOf f86) (RG.mk (regs [a0, a1, a2, a3]) []) h (RetQ prog [] h.length K) =
(aBox a0 h fun v1 h2 =>
 aLoad true 6 v1 h2 fun v3 =>
 Good prog J 125 [v3] h2 fun v4 h5 =>
 aLenStr a2 fun v6 =>
 Sem J 43 h.length 86 (subC [1, 1, 1, 0] (codeOf f86)) (RG.p (RG.p (RG.p (RG.p (RG.p (RG.p (RG.p (RG.mk (regs [a0, a1, a2, a3]) []) 4 v1) 12 v3) 13 v4) 8 v4) 14 a2) 15 v6) 16 (vint 0)) h5 (contX pl86 prog J 43 h.length 86 ct86 [1, 1, 1, 0] (codeOf f86) [] (RetQ prog [] h.length K))) := top_eq pok86 ct86 (by kernel_rfl)
theorem g86 (hJ : Closed prog main J) {a0 a1 a2 a3 : Value} (hs : heapOk h → W prog J 43 h.length 86 (codeOf f86) (RG.mk (regs [a0, a1, a2, a3]) []) h (RetQ prog [] h.length K)) : Good prog J 86 [a0, a1, a2, a3] h K :=
 good_of_W hJ mixed at86 body86 (by kernel_rfl) (Nat.le_of_ble_eq_true rfl) hs
theorem s86_1 {f : RG} {nx0 : RG → List AObj → Prop} : W prog J 43 n0 86 (subC [1, 1, 1, 0, 0] (codeOf f86)) f h (thenK nx0 (contX pl86 prog J 43 n0 86 ct86 [1, 1, 1, 0] (codeOf f86) [] (RetQ prog [] n0 K))) =
(aBin prog .lss 3 (f.r 16) (f.r 15) fun v1 =>
 cnd v1
(aIdx 1 (f.r 1) (f.r 16) fun v2 =>
 aLoad false 1 v2 h fun v3 =>
 aIdxStr (f.r 2) (f.r 16) fun v4 =>
 aBin prog .eql 5 v4 (Value.int .u8 119) fun v5 =>
 Good prog J 126 [(f.r 8), v3, v5] h fun v6 h7 =>
 aExt v6 0 fun v8 =>
 aExt v6 1 fun v9 =>
 aNil (f.r 8) fun v10 =>
 aOff v10 6 fun v11 =>
 aOff v11 0 fun v12 =>
 aLoad false 1 v12 h7 fun v13 =>
 callV prog (Good prog J) (f.r 3) [(f.r 16), v13, v8, v9] h7 fun v14 h15 =>
 aBin prog .add 3 (f.r 16) (vint 1) fun v16 =>
 nx0 (RG.p (RG.p (RG.p (RG.p (RG.p (RG.p (RG.p (RG.p (RG.p (RG.p (RG.p (RG.p (RG.p (RG.p (RG.p (RG.p (RG.p (RG.p (RG.p (RG.p (RG.p (RG.p (RG.p (RG.p (RG.p (RG.p (RG.p (RG.p (RG.p (RG.p f 17 v1) 18 (f.r 16)) 9 (f.r 16)) 20 (f.r 8)) 21 (f.r 1)) 22 (f.r 16)) 23 v2) 24 v3) 25 (f.r 2)) 26 (f.r 16)) 27 v4) 28 v5) 29 v6) 19 v6) 30 v8) 31 v9) 10 v8) 11 v9) 32 (f.r 3)) 33 (f.r 16)) 34 (f.r 8)) 35 v10) 36 v11) 37 v12) 38 v13) 39 v8) 40 v9) 41 v14) 42 v16) 16 v16) h15)
(retL n0 K f.ds [] h)) := sub_eq pok86 ct86 (by kernel_rfl)
theorem l86_1 (hJ : Closed prog main J) {S : Type} (μ : S → Nat) (I : S → RG → List AObj → Prop) (hI : ∀ s f h, I s f h → heapOk h → n0 ≤ h.length → W prog J 43 n0 86 (subC [1, 1, 1, 0, 0] (codeOf f86)) f h (thenK (Nx n0 μ I s) (contX pl86 prog J 43 n0 86 ct86 [1, 1, 1, 0] (codeOf f86) [] (RetQ prog [] n0 K))))
 {s : S} {f : RG} (hi : Gets n0 I s f h) : Sem J 43 n0 86 (subC [1, 1, 1, 0] (codeOf f86)) f h (contX pl86 prog J 43 n0 86 ct86 [1, 1, 1, 0] (codeOf f86) [] (RetQ prog [] n0 K)) :=
 loop_rule hJ mixed (b := subC [1, 1, 1, 0, 0] (codeOf f86)) (by kernel_rfl) μ I hI hi
theorem at32 : prog.funcs[32]? = some f32 := by kernel_rfl
theorem body32 : f32.body = some (codeOf f32) := by kernel_rfl
def pl32 : Plans := []
def ct32 : Cuts := .go
theorem pok32 : plansOk prog pl32 (codeOf f32) = true := by kernel_rfl
theorem e32 {a0 a1 a2 : Value} : W prog J 23 h.length 32 (codeOf f32) (RG.mk (regs [a0, a1, a2]) []) h (RetQ prog [.tmp 6, .tmp 7] h.length K) =
(aBox a0 h fun v1 h2 =>
 aLoad true 6 v1 h2 fun v3 =>
 Good prog J 85 [v3, a1, a2] h2 fun v4 h5 =>
 aBin prog .neq 37 v4 (vint 0) fun v6 =>
 cnd v6
(retL h.length K [] [(Value.slice none 0 0), v4] h5)
(aAlloc [(Value.slice none 0 0)] h5 fun v7 h8 =>
 aLoad true 6 v1 h8 fun v9 =>
 aMkF 87 [] [v7] fun v10 =>
 Good prog J 86 [v9, a1, a2, v10] h8 fun v11 h12 =>
 aLoad false 1 v7 h12 fun v13 =>
 retL h.length K [] [v13, (vint 0)] h12)) := top_eq pok32 ct32 (by kernel_rfl)
theorem g32 (hJ : Closed prog main J) {a0 a1 a2 : Value} (hs : heapOk h → W prog J 23 h.length 32 (codeOf f32) (RG.mk (regs [a0, a1, a2]) []) h (RetQ prog [.tmp 6, .tmp 7] h.length K)) : Good prog J 32 [a0, a1, a2] h K :=
 good_of_W hJ mixed at32 body32 (by kernel_rfl) (Nat.le_of_ble_eq_true rfl) hs
theorem at87 : prog.funcs[87]? = some f87 := by kernel_rfl
theorem body87 : f87.body = some (codeOf f87) := by kernel_rfl
def pl87 : Plans := []
def ct87 : Cuts := .go
theorem pok87 : plansOk prog pl87 (codeOf f87) = true := by kernel_rfl
theorem e87 {a0 a1 a2 a3 a4 : Value} : W prog J 13 h.length 87 (codeOf f87) (RG.mk (regs [a0, a1, a2, a3, a4]) []) h (RetQ prog [] h.length K) =
(aLoad false 1 a4 h fun v1 =>
(((1 * 1 : Nat) ≤ 16777216 ∧ (1 : Nat) ≤ 16777216 ∧ List.length [(vint 0)] = 1) ∧ aFill (zrep [(vint 0)] 1) [(0, 1, a1)] fun c2 =>
 aNewS 1 c2 h fun v3 h4 =>
((List.length [(vint 0)] = 1 ∧ 0 < (1 : Nat) ∧ 0 < (8 : Nat) ∧ (8 : Nat) ≤ 1024) ∧ aApp 1 v1 v3 h4 fun v5 h6 =>
 aStore 1 a4 v5 h6 fun h7 =>
 retL h.length K [] [] h7))) := top_eq pok87 ct87 (by kernel_rfl)
theorem g87 (hJ : Closed prog main J) {a0 a1 a2 a3 a4 : Value} (hs : heapOk h → W prog J 13 h.length 87 (codeOf f87) (RG.mk (regs [a0, a1, a2, a3, a4]) []) h (RetQ prog [] h.length K)) : Good prog J 87 [a0, a1, a2, a3, a4] h K :=
 good_of_W hJ mixed at87 body87 (by kernel_rfl) (Nat.le_of_ble_eq_true rfl) hs
end
end Go.Proofs.Ythnccaajpdnndaa
namespace Go.Proofs.Ythnccaajpdnndaa
open Go.Conc Go.Proofs.Try
set_option maxRecDepth 100000
def wordOk (w : List UInt8) : Prop := ∀ b ∈ w, b = 100 ∨ b = 119
instance (w : List UInt8) : Decidable (wordOk w) := by unfold wordOk; infer_instance
def askE (p : Pas) (heads : List Int) (w : List UInt8) : Int :=
 if fst2 (pasE p) (cntE w.length 1 8) ≠ 0 then fst2 (pasE p) (cntE w.length 1 8) else if hunE heads w.length ≠ 0 then hunE heads w.length else if wordOk w then 0 else 2
def endsZ (p : Pas) (heads : List Int) (w : List UInt8) (k : Nat) : List Int := (List.range k).map fun i => (stdR p heads w (i + 1)).1
theorem endsZ_succ {p : Pas} {heads : List Int} {w : List UInt8} {k : Nat} : endsZ p heads w (k + 1) = endsZ p heads w k ++ [(stdR p heads w (k + 1)).1] := by
 unfold endsZ
 rw [List.range_succ, List.map_append]
 rfl
theorem endsZ_len {p : Pas} {heads : List Int} {w : List UInt8} {k : Nat} : (endsZ p heads w k).length = k := by simp [endsZ]
section
variable {main : Bool} {J : JT} {h H : List AObj} {K : Value → List AObj → Prop} {KV : Value → Prop} {HL : List AObj → Prop} {n0 : Nat}
theorem good86 (hJ : Closed prog main J) {h0 : List AObj} {p : Pas} {heads : List Int} {w : List UInt8} {hv cb : Value} (f : pasOk p) (hh : headsOk heads) (S0 : SameX [] h0 H) (sh : Sli h0 hv 1 heads.length (heads.map vint)) (hl : w.length ≤ heads.length) (hw : w.length ≤ 1000)
  {I : Nat → List Nat → List AObj → Prop} {O0 : List Nat} (hO : ∀ x ∈ O0, h0.length ≤ x) (hI : I 0 O0 H) (lt : ∀ k O H1, I k O H1 → ∀ x ∈ O, x < H1.length) (mono : ∀ k O H1 H2 X, I k O H1 → SameX X H1 H2 → (∀ x ∈ O, x ∉ X) → I k O H2)
  (step : ∀ k O H1 (K1 : Value → List AObj → Prop), I k O H1 → k < w.length → (∀ O' H2 v, I (k + 1) O' H2 → SameX O H1 H2 → (∀ x ∈ O', x ∈ O ∨ H1.length ≤ x) → K1 v H2) → callV prog (Good prog J) cb [vint (k : Nat), vint (stdR p heads w (k + 1)).1, .bool (hungAt p heads w k), .bool (shortAt p heads w k)] H1 K1)
  (hK : ∀ O H', I w.length O H' → SameX O0 H H' → K (pack []) H') : Good prog J 86 [.agg ⟨p.cells⟩, hv, strV w, cb] H K := by
 refine g86 hJ fun ok => ?_
 rw [e86]
 refine qBox (l := p.cells) rfl fun H1 p1 e1 S1 c1 l1 => load_part (c := p.cells) c1 (by simp [Pas.cells]) rfl rfl ?_
 refine good125 hJ fun H2 m em S2 c2 hm => lenStrI ?_
 have T2 := S1.trans S2
 have hlt0 := lt _ _ _ hI
 have l21 := S2.1
 refine l86_1 hJ (fun k : Nat => w.length - k) (fun k F H' => k ≤ w.length ∧ SameX O0 H H' ∧ H'[m]? = some (.cells (medC p (stdR p heads w k)) true 0) ∧ (∃ O, I k O H' ∧ m ∉ O ∧ ∀ x ∈ O, x ∈ O0 ∨ H.length ≤ x) ∧ F.ds = [] ∧ F.r 1 = hv ∧ F.r 2 = strV w ∧ F.r 3 = cb ∧ F.r 8 = ptr m 0 ∧ F.r 15 = vint (w.length : Nat) ∧ F.r 16 = vint (k : Nat)) ?_ (s := 0)
  (.inl ⟨by omega, T2.weak0, c2, ⟨O0, mono _ _ _ _ _ hI T2 (by simp), fun hx => by have := hlt0 m hx; omega, fun x hx => .inl hx⟩, rfl, rfl, rfl, rfl, rfl, rfl, rfl⟩)
 rintro k F H' ⟨hk, S, cm, ⟨O, hIk, hmO, hOO⟩, ds, r1, r2, r3, r8, r15, r16⟩ okc hnc
 rw [s86_1, r1, r2, r3, r8, r15, r16, ds]
 refine lssI (cndI (fun hlt => ?_) fun hge => ?_)
 rotate_left
 ·have : k = w.length := by omega
  subst this
  exact retL_same (by simp) (hK O H' hIk S)
 have hkl : k < w.length := by omega
 have hx : heads[k]? = some (heads.getD k 0) := by
  rw [List.getD_eq_getElem?_getD, List.getElem?_eq_getElem (by omega)]
  rfl
 have hb : w[k]? = some (w.getD k 0) := by
  rw [List.getD_eq_getElem?_getD, List.getElem?_eq_getElem hkl]
  rfl
 have hbd := headsOk_getD hh k
 have S0' : SameX O0 h0 H' := S0.weak0.thru S fun x hx => .inl hx
 refine sliN (S0'.sli sh hO) hx fun q => byteI hb (eqlW ?_)
 refine good126 hJ cm f (stdR_ok f hh k) ⟨hbd.1, by omega⟩ fun H3 S3 c3 => ext0 (ext1 (nilI (offI (offI (ldI (v := vint (stdR p heads w (k + 1)).1) c3 rfl rfl ?_)))))
 have hm1 := lt_of_get cm
 have hm3 := lt_of_get c3
 refine step k O H3 _ (mono _ _ _ _ _ hIk S3 fun x hx e => hmO (by rw [← List.mem_singleton.1 e]; exact hx)) hkl fun O' H4 v hI4 S4 hO4 => ?_
 have h3 := S3.1
 have h0 := S.1
 refine addI (by omega) ⟨k + 1, by dsimp only; omega, .inl ⟨by omega, ?_, S4.get c3 hmO, ⟨O', hI4, fun hx => ?_, fun x hx => ?_⟩, ds, r1, r2, r3, r8, r15, by show vint _ = vint _; congr 1⟩⟩
 ·refine (S.thru S3 fun x hx => ?_).thru S4 hOO
  rw [List.mem_singleton.1 hx]
  right
  have := S1.1
  omega
 ·rcases hO4 m hx with h | h
  ·exact hmO h
  ·omega
 ·rcases hO4 x hx with h | h
  ·exact hOO x h
  ·right
   omega
theorem wordOk_step {w : List UInt8} {k : Nat} (h : ∀ i, i < k → ∀ b, w[i]? = some b → b = 100 ∨ b = 119) {b : UInt8} (hb : w[k]? = some b) (h2 : b = 100 ∨ b = 119) : ∀ i, i < k + 1 → ∀ b, w[i]? = some b → b = 100 ∨ b = 119 := fun i hi c hc => by
 by_cases e : i = k
 ·rw [e, hb] at hc
  cases hc
  exact h2
 ·exact h i (by omega) c hc
theorem good85 (hJ : Closed prog main J) {p : Pas} {heads : List Int} {w : List UInt8} {hv : Value} (sh : Sli H hv 1 heads.length (heads.map vint)) (hl : heads.length < 1000000) (hw : w.length ≤ 1000000)
  (hK : ∀ H', SameX [] H H' → K (vint (askE p heads w)) H') : Good prog J 85 [.agg ⟨p.cells⟩, hv, strV w] H K := by
 refine g85 hJ fun ok => ?_
 rw [e85]
 refine qBox (l := p.cells) rfl fun H1 p1 e1 S1 c1 l1 => load_part (c := p.cells) c1 (by simp [Pas.cells]) rfl rfl ?_
 refine good36 hJ (lenStrI (good71 hJ ⟨⟨by decide, by decide, rfl⟩, fillO (l := [vint (pasE p)]) rfl rfl rfl (by decide) (fillO (l := [vint (cntE w.length 1 8)]) rfl rfl rfl (by rw [wrAt_length]; decide) (fillI (qNew fun H2 p2 e2 S2 c2 l2 => ?_)))⟩))
 have T := S1.trans S2
 refine good88 hJ (a := pasE p) (b := cntE w.length 1 8) ⟨_, _, rfl, ⟨rfl, rfl⟩, .inr ⟨p2, 0, rfl, .inr ⟨_, _, _, c2, rfl⟩⟩⟩ ?_
 unfold askE at hK
 refine neqI (cndI (fun h1 => retL_same (by simp [unk]) ?_) fun h1 => lenStrI ?_)
 ·have := hK H2 T
  rw [if_pos h1] at this
  exact this
 rw [if_neg h1] at hK
 refine good124 hJ (T.sli sh (by simp)) hl (neqI (cndI (fun h2 => retL_same (by simp [unk]) ?_) fun h2 => lenStrI ?_))
 ·have := hK H2 T
  rw [if_pos h2] at this
  exact this
 rw [if_neg h2] at hK
 refine l85_1 hJ (fun k : Nat => w.length - k) (fun k F H' => k ≤ w.length ∧ SameX [] H H' ∧ (∀ i, i < k → ∀ b, w[i]? = some b → b = 100 ∨ b = 119) ∧ F.ds = [] ∧ F.r 2 = strV w ∧ F.r 28 = vint (w.length : Nat) ∧ F.r 29 = vint (k : Nat)) ?_ (s := 0)
  (.inl ⟨by omega, T, fun i hi => absurd hi (Nat.not_lt_zero _), rfl, rfl, rfl, rfl⟩)
 rintro k F H' ⟨hk, S, hg, ds, r2, r28, r29⟩ okc hnc
 rw [s85_1, r2, r28, r29, ds]
 refine lssI (cndI (fun hlt => ?_) fun hge => ?_)
 rotate_left
 ·have : k = w.length := by omega
  subst this
  have := hK H' S
  have hwk : wordOk w := fun b hb => by
   obtain ⟨i, hi⟩ := List.getElem?_of_mem hb
   exact hg i (List.getElem?_eq_some_iff.1 hi).1 b hi
  rw [if_pos hwk] at this
  exact retL_same (by simp [unk]) this
 have hkl : k < w.length := by omega
 obtain ⟨b, hb⟩ : ∃ b, w[k]? = some b := ⟨_, List.getElem?_eq_getElem hkl⟩
 have e100 : (Value.int .u8 100) = .int .u8 (100 : UInt8).toNat := rfl
 have e119 : (Value.int .u8 119) = .int .u8 (119 : UInt8).toNat := rfl
 rw [e100, e119]
 have next : ∀ {F2 : RG} {z : Bool}, F2.ds = [] → F2.r 2 = strV w → F2.r 28 = vint (w.length : Nat) → F2.r 29 = vint (k : Nat) → F2.r 41 = .bool z → (z = true ↔ ¬ (b = 100 ∨ b = 119)) →
   W prog J 43 H.length 85 (subC [1, 1, 1, 0, 1, 0, 0, 1, 1, 0, 0, 1, 1] (codeOf f85)) F2 H' (contX pl85 prog J 43 H.length 85 ct85 [1, 1, 1, 0, 1, 0, 0, 1, 1, 0, 0, 1, 1] (codeOf f85) [Nx H.length (fun k : Nat => w.length - k) (fun k F H' => k ≤ w.length ∧ SameX [] H H' ∧ (∀ i, i < k → ∀ b, w[i]? = some b → b = 100 ∨ b = 119) ∧ F.ds = [] ∧ F.r 2 = strV w ∧ F.r 28 = vint (w.length : Nat) ∧ F.r 29 = vint (k : Nat)) k] (RetQ prog [.tmp 6] H.length K)) := by
  intro F2 z ds r2 r28 r29 r41 hz
  rw [s85_2, r41, r29, ds]
  refine cndB (fun h1 => retL_same (by simp [unk]) ?_) fun h1 => ?_
  ·have := hK H' S
   rw [if_neg (fun hw : wordOk w => hz.1 h1 (hw b (List.mem_of_getElem? hb)))] at this
   exact this
  ·have hb2 : b = 100 ∨ b = 119 := Classical.byContradiction fun hn => by
    rw [hz.2 hn] at h1
    cases h1
   exact addI (by omega) ⟨k + 1, by dsimp only; omega, .inl ⟨by omega, S, wordOk_step hg hb hb2, ds, r2, r28, by show vint _ = vint _; congr 1⟩⟩
 refine byteI hb (neqU (cndI (fun hn => ?_) fun hn => hold.2 ?_))
 ·refine byteI hb (neqU (hold.2 (next (z := decide (b ≠ 119)) ds r2 r28 r29 rfl ?_)))
  rw [decide_eq_true_iff]
  exact ⟨fun h1 h2 => h2.elim hn h1, fun h e => h (.inr e)⟩
 ·refine next (z := false) ds r2 r28 r29 rfl ⟨fun h => (by cases h), fun h => absurd (.inl (Classical.not_not.1 hn)) h⟩
theorem good87 (hJ : Closed prog main J) {q k : Nat} {x : Int} {a0 a2 a3 v : Value} {xs : List Int} {o : Option Nat} (hq : H[q]? = some (.cells [v] true 0)) (O : OwnX H 1 (xs.map vint) k v o) (hne : o ≠ some q) (hk : k < 100000)
  (hK : ∀ H' v' o', SameX (q :: o.toList) H H' → H'[q]? = some (.cells [v'] true 0) → OwnX H' 1 ((xs ++ [x]).map vint) (k + 1) v' o' → o' ≠ some q → (∀ i, o' = some i → H.length ≤ i) → K (pack []) H') : Good prog J 87 [a0, vint x, a2, a3, ptr q 0] H K := by
 refine g87 hJ fun ok => ?_
 rw [e87]
 have kv := (ownX_val O).2.2
 refine ldI (v := v) hq rfl kv ⟨⟨by decide, by decide, rfl⟩, fillO (l := [vint x]) rfl rfl rfl (by decide) (fillI (qNew fun H1 p1 e1 S1 c1 l1 => ?_))⟩
 have hq1 := S1.get hq (by simp)
 have lq := lt_of_get hq
 refine ⟨⟨rfl, by decide, by decide, by decide⟩, ownX_more (ownX_keep O S1 (by simp)) (by decide) hk (e := [vint x]) ⟨_, _, rfl, ⟨rfl, rfl⟩, .inr ⟨p1, 0, rfl, .inr ⟨_, _, _, c1, rfl⟩⟩⟩ fun v' H2 p2 e2 O2 S2 => ?_⟩
 have hq2 : H2[q]? = some (.cells [v] true 0) := S2.get hq1 (by
  cases o with
  | none => simp
  | some i => simp; exact fun e => hne (by rw [e]))
 have vv := ownX_val O2
 refine qSt hq2 (by simp) vv.1 vv.2.1 fun H3 S3 c3 l3 => retL_same (by simp) (hK H3 v' (some p2) ?_ c3 ?_ (by simp; omega) fun i hi => by cases hi; omega)
 ·refine ((S1.weak0.thru S2 fun y hy => .inl (by simp [hy])).thru S3 fun y hy => .inl (by simp at hy; simp [hy]) : SameX (q :: o.toList) H H3)
 ·rw [List.map_append]
  exact ownX_keep O2 S3 (fun i hi => by cases hi; simp; omega)
theorem cntE_zero {n lo hi : Int} (h : cntE n lo hi = 0) : lo ≤ n ∧ n ≤ hi := by
 unfold cntE at h
 split at h
 ·cases h
 ·split at h
  ·cases h
  ·omega
theorem askE_ok {p : Pas} {heads : List Int} {w : List UInt8} (h : askE p heads w = 0) : pasOk p ∧ (1 ≤ w.length ∧ w.length ≤ 8) ∧ heads.length = w.length ∧ headsOk heads ∧ wordOk w := by
 unfold askE at h
 split at h
 ·contradiction
 rename_i h1
 have h1 := Classical.not_not.1 h1
 split at h
 ·contradiction
 rename_i h2
 have h2 := Classical.not_not.1 h2
 split at h
 ·rename_i h3
  unfold fst2 at h1
  split at h1
  ·contradiction
  rename_i h4
  have h4 := Classical.not_not.1 h4
  have h5 := cntE_zero h1
  have hp : pasOk p := Classical.byContradiction fun hn => by
   unfold pasE at h4
   rw [if_neg hn] at h4
   cases h4
  unfold hunE at h2
  split at h2
  ·contradiction
  rename_i h6
  have h6 := cntE_zero (Classical.not_not.1 h6)
  split at h2
  ·rename_i h7
   exact ⟨hp, by omega, by omega, h7, h3⟩
  ·cases h2
 ·cases h
theorem good32 (hJ : Closed prog main J) {p : Pas} {heads : List Int} {w : List UInt8} {hv : Value} (sh : Sli H hv 1 heads.length (heads.map vint)) (hl : heads.length < 1000000) (hw : w.length ≤ 1000000)
  (hK0 : askE p heads w ≠ 0 → ∀ H', SameX [] H H' → K (.tuple ⟨[.slice none 0 0, vint (askE p heads w)]⟩) H')
  (hK1 : askE p heads w = 0 → ∀ H' v, SameX [] H H' → Sli H' v 1 w.length ((endsZ p heads w w.length).map vint) → K (.tuple ⟨[v, vint 0]⟩) H') : Good prog J 32 [.agg ⟨p.cells⟩, hv, strV w] H K := by
 refine g32 hJ fun ok => ?_
 rw [e32]
 refine qBox (l := p.cells) rfl fun H1 p1 e1 S1 c1 l1 => load_part (c := p.cells) c1 (by simp [Pas.cells]) rfl rfl ?_
 refine good85 hJ (S1.sli sh (by simp)) hl hw fun H2 S2 => neqI (cndI (fun h1 => retL_same (by simp [unk]) (hK0 h1 H2 (S1.trans S2))) fun h1 => ?_)
 have h1 := Classical.not_not.1 h1
 obtain ⟨fp, fw, fl, fh, fo⟩ := askE_ok h1
 have T2 := S1.trans S2
 refine qAl fun H3 q e3 S3 c3 l3 => load_part (c := p.cells) (S3.get (S2.get c1 (by simp)) (by simp)) (by simp [Pas.cells]) rfl rfl ⟨rfl, ?_⟩
 have T3 := T2.trans S3
 have hqH : H.length ≤ q := by
  have := T2.1
  omega
 refine good86 hJ fp fh T3 sh (by omega) (by omega) (O0 := [q]) (fun x hx => by rw [List.mem_singleton.1 hx]; exact hqH)
  (I := fun k O H1 => ∃ v o, H1[q]? = some (.cells [v] true 0) ∧ OwnX H1 1 ((endsZ p heads w k).map vint) k v o ∧ o ≠ some q ∧ O = q :: o.toList)
  ⟨_, none, c3, ⟨rfl, rfl, .inl ⟨rfl, rfl, rfl⟩⟩, by simp, rfl⟩ (fun k O H1 ⟨v, o, hq, ho, hne, e⟩ x hx => ?_) (fun k O H1 H2 X ⟨v, o, hq, ho, hne, e⟩ S hX => ?_) (fun k O H1 K1 ⟨v, o, hq, ho, hne, e⟩ hk hk1 => ?_) fun O H' ⟨v, o, hq, ho, hne, e⟩ S => ?_
 ·rw [e] at hx
  rcases List.mem_cons.1 hx with rfl | hx
  ·exact lt_of_get hq
  ·exact ownX_lt ho x (by simpa using hx)
 ·refine ⟨v, o, S.get hq (hX q (by rw [e]; simp)), ownX_keep ho S (fun i hi => hX i (by rw [e, hi]; simp)), hne, e⟩
 ·refine callCz (by kernel_rfl) (good87 hJ hq ho hne (by omega) fun H2 v' o' S' hq' ho' hne' hnew => hk1 (q :: o'.toList) H2 _ ⟨v', o', hq', by rw [endsZ_succ]; exact ho', hne', rfl⟩ (by rw [e]; exact S') fun x hx => ?_)
  rcases List.mem_cons.1 hx with rfl | hx
  ·exact .inl (by rw [e]; simp)
  ·exact .inr (hnew x (by simpa using hx))
 ·have kv := (ownX_val ho).2.2
  refine ldI (v := v) hq rfl kv (retL_same ?_ (hK1 h1 H' v ?_ (ownX_sli ho)))
  ·intro x hx
   simp only [List.mem_cons, List.not_mem_nil, or_false] at hx
   rcases hx with rfl | rfl
   ·exact ownU ho
   ·simp [unk]
  ·exact T3.thru S fun x hx => .inr (by rw [List.mem_singleton.1 hx]; exact hqH)
end
abbrev Span := Int × Int × Bool
def spanC (x : Span) : List Value := [vint x.1, vint x.2.1, .bool x.2.2]
def widenR (x : Span) (n : Int) : Span := if x.2.2 = true then (min x.1 n, max x.2.1 n, true) else (n, n, true)
theorem wrAt_right {a : List Value} : ∀ (vs b : List Value) (o : Nat), wrAt (a ++ b) (a.length + o) vs = a ++ wrAt b o vs
 | [], b, o => rfl
 | v :: vs, b, o => by
  simp only [wrAt]
  rw [List.set_append_right _ _ (by omega), show a.length + o - a.length = o by omega, show a.length + o + 1 = a.length + (o + 1) by omega]
  exact wrAt_right vs (b.set o v) (o + 1)
theorem wrAt_span (y : Span) : ∀ (L : List Span) (j : Nat), j < L.length → wrAt (L.flatMap spanC) (j * 3) (spanC y) = (L.set j y).flatMap spanC
 | [], j, h => absurd h (Nat.not_lt_zero _)
 | x :: L, 0, _ => rfl
 | x :: L, j + 1, h => by
  have e : (j + 1) * 3 = (spanC x).length + j * 3 := by
   show (j + 1) * 3 = 3 + j * 3
   omega
  rw [List.flatMap_cons, e, wrAt_right, wrAt_span y L j (by simpa using h), List.set_cons_succ, List.flatMap_cons]
section
variable {main : Bool} {J : JT} {h H : List AObj} {K : Value → List AObj → Prop} {KV : Value → Prop} {HL : List AObj → Prop} {n0 : Nat}
theorem good131 (hJ : Closed prog main J) {x : Span} {n : Int} (hK : ∀ H', SameX [] H H' → K (.agg ⟨spanC (widenR x n)⟩) H') : Good prog J 131 [.agg ⟨spanC x⟩, vint n] H K := by
 refine g131 hJ fun ok => ?_
 rw [e131]
 refine qBox (l := spanC x) rfl fun H1 p1 e1 S1 c1 l1 => qAl fun H2 p2 e2 S2 c2 l2 => ?_
 have c12 := S2.get c1 (by simp)
 have T := S1.trans S2
 have fin : ∀ {F : RG} {y : Span} {H3 : List AObj}, y = widenR x n → F.ds = [] → F.r 4 = ptr p2 0 → SameX [p2] H2 H3 → H3[p2]? = some (.cells (spanC y) true 0) → RetQ prog [.cell 4 127] H.length K .ret F H3 := fun hy ds r4 S3 c3 => by
  subst hy
  refine retQs ds (resW_cell (gg := true) (s := 3) (by kernel_rfl) ?_)
  show aLoad true 3 _ _ _
  rw [r4]
  refine load_part (c := spanC (widenR x n)) c3 (by simp [spanC]) rfl rfl (resW_nil ?_)
  exact hK _ (T.thru S3 (by simp; omega))
 refine offI (ldI (v := .bool x.2.2) c12 rfl rfl (notI (cndB (fun hb => ?_) fun hb => ?_)))
 ·refine fillO (l := [vint n]) rfl rfl rfl (by decide) (fillO (l := [vint n]) rfl rfl rfl (by rw [wrAt_length]; decide) (fillO (l := [.bool true]) rfl rfl rfl (by rw [wrAt_length, wrAt_length]; decide) (fillI ?_)))
  refine qStA (c := spanC (n, n, true)) c2 rfl rfl rfl fun H3 S3 c3 l3 => fin ?_ rfl rfl S3 c3
  unfold widenR
  rw [if_neg (by simpa using hb)]
 ·refine offI (ldI (v := vint x.1) c12 rfl rfl (minI (offI (ldI (v := vint x.2.1) c12 rfl rfl (maxI ?_)))))
  refine fillO (l := [vint (min x.1 n)]) rfl rfl rfl (by decide) (fillO (l := [vint (max x.2.1 n)]) rfl rfl rfl (by rw [wrAt_length]; decide) (fillO (l := [.bool true]) rfl rfl rfl (by rw [wrAt_length, wrAt_length]; decide) (fillI ?_)))
  refine qStA (c := spanC (min x.1 n, max x.2.1 n, true)) c2 rfl rfl rfl fun H3 S3 c3 l3 => fin ?_ rfl rfl S3 c3
  unfold widenR
  rw [if_pos (by simpa using hb)]
theorem good130 (hJ : Closed prog main J) {q po j c sz : Nat} {n : Int} {a2 a3 : Value} {L : List Span} (hq : H[q]? = some (.cells [.slice (some ⟨po, 0, none⟩) L.length c] true 0)) (hp : H[po]? = some (.cells (L.flatMap spanC) true sz)) (hj : j < L.length)
  (hK : ∀ H', SameX [po] H H' → H'[po]? = some (.cells ((L.set j (widenR L[j] n)).flatMap spanC) true sz) → K (pack []) H') : Good prog J 130 [vint (j : Nat), vint n, a2, a3, ptr q 0] H K := by
 refine g130 hJ fun ok => ?_
 rw [e130]
 have lq := lt_of_get hq
 have lp := lt_of_get hp
 have hlen : (L.flatMap spanC).length = L.length * 3 := by
  clear hq hp hj hK
  induction L with
  | nil => rfl
  | cons x L ih => rw [List.flatMap_cons, List.length_append, ih, List.length_cons]; show 3 + _ = _; omega
 have hoff : ∀ {KV : Value → Prop}, KV (ptr po (j * 3)) → aIdx 3 (.slice (some ⟨po, 0, none⟩) L.length c) (vint (j : Nat)) KV := fun hk => idxI ⟨by omega, by omega⟩ (by rw [Int.toNat_natCast, Nat.zero_add]; exact hk)
 refine ⟨[q, po], ldI (v := .slice (some ⟨po, 0, none⟩) L.length c) hq rfl rfl ⟨by simp [RdOk, ptrBlk], ldI (v := .slice (some ⟨po, 0, none⟩) L.length c) hq rfl rfl ⟨by simp [RdOk, ptrBlk], hoff (load_part (c := spanC L[j]) hp (by omega) (flat_take (enc := spanC) (s := 3) (fun _ => rfl) L j hj) rfl ⟨by simp [RdOk, ptrBlk], ?_⟩)⟩⟩⟩
 refine good131 hJ fun H1 S1 => ⟨sbTwo S1 lq lp (by simp) (by simp), hoff ?_⟩
 have hp1 := S1.get hp (by simp)
 have lp1 := lt_of_get hp1
 have fin : retL H.length K [] [] (H1.set po (.cells ((L.set j (widenR L[j] n)).flatMap spanC) true sz)) := retL_same (by simp) (hK _ (S1.weak0.set (.inl (by simp))) (List.getElem?_set_self lp1))
 unfold aStore
 simp only [hp1]
 refine ⟨rfl, rfl, by omega, ?_⟩
 rw [show (Value.agg ⟨spanC (widenR L[j] n)⟩).cells.toList = spanC (widenR L[j] n) from rfl, wrAt_span _ _ _ hj]
 exact fin
end
def dayS (p : Pas) (hs : List Int) (w : List UInt8) : Nat → List Span → List Span
 | 0, L => L
 | j + 1, L => (dayS p hs w j L).set j (widenR ((dayS p hs w j L).getD j (0, 0, false)) (stdR p hs w (j + 1)).1)
theorem dayS_len {p : Pas} {hs : List Int} {w : List UInt8} {L : List Span} : ∀ j, (dayS p hs w j L).length = L.length
 | 0 => rfl
 | j + 1 => by rw [dayS, List.length_set, dayS_len j]
def spansR (p : Pas) (hs : List Int) (s : SkyR) : List Span := (rainsB s).foldl (fun L w => dayS p hs w w.length L) (List.replicate s.days.toNat (0, 0, false))
section
variable {main : Bool} {J : JT} {h H : List AObj} {K : Value → List AObj → Prop} {KV : Value → Prop} {HL : List AObj → Prop} {n0 : Nat}
noncomputable abbrev lpW (st : LoopState) (pend : Option Code) (r : Nat → Value) (d : Nat) : AObj := .loop st pend 93 r 21 #[14] (subC [1, 1, 0, 1, 0, 0] (codeOf f93)) (subC [1, 1, 0, 1, 0, 1] (codeOf f93)) d
theorem roundW (hJ : Closed prog main J) {h0 : List AObj} {l d p3 p4 p7 po c sz : Nat} {R : Nat → Value} {p : Pas} {hs : List Int} {hv : Value} {w : List UInt8} {L : List Span} {Q : Value → List AObj → Prop} (f : pasOk p) (hh : headsOk hs) (hw : w.length ≤ hs.length) (hw2 : w.length ≤ 1000) (hL : L.length = w.length)
  (S0 : SameX [] h0 (H.set l (lpW .busy none R d))) (sh : Sli h0 hv 1 hs.length (hs.map vint)) (hpo : h0.length ≤ po) (hp7 : h0.length ≤ p7) (hpl : h0.length ≤ l) (kv : kn1 hv = true)
  (hl : H[l]? = some (lpW .ready none R d)) (r3 : R 3 = ptr p3 0) (r4 : R 4 = ptr p4 0) (r7 : R 7 = ptr p7 0)
  (c3 : H[p3]? = some (.cells p.cells true 0)) (c4 : H[p4]? = some (.cells [hv] true 0)) (c7 : H[p7]? = some (.cells [.slice (some ⟨po, 0, none⟩) L.length c] true 0)) (co : H[po]? = some (.cells (L.flatMap spanC) true sz))
  (n3 : p3 ≠ l) (n4 : p4 ≠ l) (n7 : p7 ≠ l) (no : po ≠ l) (n : p7 ≠ po)
  (k : ∀ H', SameX [l, po] H H' → H'[l]? = some (lpW .ready none R d) → H'[po]? = some (.cells ((dayS p hs w w.length L).flatMap spanC) true sz) → Q (.bool true) H') :
  callV prog (Good prog J) (.func (.yield l) ⟨[]⟩ ⟨[]⟩) [strV w] H Q := by
 show Good prog J (yid prog l) [strV w] H Q
 refine good_round hJ hl rfl (by decide) fun ok => W_sound hJ mixed _ ?_
 rw [a93_1]
 refine ⟨rfl, none, _, _, _, _, _, _, _, hl, W_sound hJ mixed _ ?_⟩
 rw [b93_1]
 have hll := lt_of_get hl
 have hl3 : (H.set l (lpW .busy none R d))[l]? = some (lpW .busy none R d) := List.getElem?_set_self hll
 have S3 : SameX [l] H (H.set l (lpW .busy none R d)) := SameX.refl.set (.inl (by simp))
 generalize H.set l (lpW .busy none R d) = H3 at hl3 S3 S0
 show aLoad true 6 (R 3) _ _
 rw [r3]
 refine load_part (c := p.cells) (S3.get c3 (by simpa using n3)) (by simp [Pas.cells]) rfl rfl ?_
 show aLoad false 1 (R 4) _ _
 rw [r4]
 refine ldI (v := hv) (S3.get c4 (by simpa using n4)) rfl kv ?_
 show aMkF _ [] [R 7] _
 rw [r7]
 refine ⟨rfl, ?_⟩
 refine good86 hJ f hh S0 sh hw hw2 (O0 := [po, p7, l]) (fun x hx => ?_)
  (I := fun j O H1 => O = [po, p7, l] ∧ H1[p7]? = some (.cells [.slice (some ⟨po, 0, none⟩) L.length c] true 0) ∧ H1[po]? = some (.cells ((dayS p hs w j L).flatMap spanC) true sz) ∧ H1[l]? = some (lpW .busy none R d))
  ⟨rfl, S3.get c7 (by simpa using n7), S3.get co (by simpa using no), hl3⟩ ?_ ?_ ?_ ?_
 ·simp only [List.mem_cons, List.not_mem_nil, or_false] at hx
  rcases hx with rfl | rfl | rfl <;> assumption
 ·rintro j O H1 ⟨rfl, i1, i2, i3⟩ x hx
  simp only [List.mem_cons, List.not_mem_nil, or_false] at hx
  rcases hx with rfl | rfl | rfl
  ·exact lt_of_get i2
  ·exact lt_of_get i1
  ·exact lt_of_get i3
 ·rintro j O H1 H2 X ⟨rfl, i1, i2, i3⟩ S hX
  exact ⟨rfl, S.get i1 (hX _ (by simp)), S.get i2 (hX _ (by simp)), S.get i3 (hX _ (by simp))⟩
 ·rintro j O H1 K1 ⟨rfl, i1, i2, i3⟩ hj hk1
  have hlen := dayS_len (p := p) (hs := hs) (w := w) (L := L) j
  rw [← hlen] at i1
  refine callCz (by kernel_rfl) (good130 hJ i1 i2 (by omega) fun H2 S2 c2 => hk1 [po, p7, l] H2 _ ⟨rfl, ?_, ?_, S2.get i3 (by simp; exact fun e => no e.symm)⟩ (S2.weak (by simp)) (fun x hx => .inl hx))
  ·rw [← hlen]
   exact S2.get i1 (by simpa using n)
  ·rw [c2, dayS]
   have : (dayS p hs w j L).getD j (0, 0, false) = (dayS p hs w j L)[j]'(by omega) := by
    rw [List.getD_eq_getElem?_getD, List.getElem?_eq_getElem (by omega)]
    rfl
   rw [this]
 ·rintro O H' ⟨rfl, i1, i2, i3⟩ S
  have hl' := lt_of_get i3
  have Sa : SameX [l, po, p7] H H' := (S3.weak (by simp)).trans (S.weak (by simp))
  have Sb : SameX [l, po] H H' := ⟨Sa.1, fun i hi hx => by
   by_cases e : i = p7
   ·rw [e, i1, c7]
   ·exact Sa.2 i hi (by simp at hx ⊢; exact ⟨hx.1, hx.2, e⟩)⟩
  exact ⟨.busy, none, _, _, _, _, _, _, _, i3, .inl (k _ (Sb.set (.inl (by simp))) (List.getElem?_set_self hl') (get_set i2 no))⟩
theorem zrep_span (n : Nat) : zrep [vint 0, vint 0, .bool false] n = (List.replicate n ((0, 0, false) : Span)).flatMap spanC := by
 induction n with
 | zero => rfl
 | succ n ih =>
  rw [List.replicate_succ, List.flatMap_cons, ← ih]
  rfl
theorem spansK_len {p : Pas} {hs : List Int} {l : List (List UInt8)} : ∀ {L : List Span}, (l.foldl (fun L w => dayS p hs w w.length L) L).length = L.length := by
 induction l with
 | nil => intro L; rfl
 | cons w l ih => intro L; rw [List.foldl_cons, ih, dayS_len]
theorem flat_len (L : List Span) : (L.flatMap spanC).length = L.length * 3 := by
 induction L with
 | nil => rfl
 | cons x L ih => rw [List.flatMap_cons, List.length_append, ih, List.length_cons]; show 3 + _ = _; omega
theorem kn_span (L : List Span) : kn (L.flatMap spanC) = true := by
 unfold kn
 rw [List.all_eq_true]
 intro v hv
 obtain ⟨x, _, hx⟩ := List.mem_flatMap.1 hv
 simp only [spanC, List.mem_cons, List.not_mem_nil, or_false] at hx
 rcases hx with rfl | rfl | rfl <;> rfl
set_option maxHeartbeats 800000 in
theorem good93 (hJ : Closed prog main J) {p : Pas} {s : SkyR} {hs : List Int} {hv : Value} (f : pasOk p) (g : skyOk s) (hh : headsOk hs) (hlen : (hs.length : Int) = s.days) (sh : Sli H hv 1 hs.length (hs.map vint))
  (hK : ∀ H' v, SameX [] H H' → Sli H' v 3 s.days.toNat ((spansR p hs s).flatMap spanC) → K v H') : Good prog J 93 [.agg ⟨p.cells⟩, hv, .agg ⟨s.cells⟩] H K := by
 refine g93 hJ fun ok => ?_
 rw [e93]
 have vh := sliValZ sh
 obtain ⟨g1, g2, g3⟩ := id g
 refine qBox (l := p.cells) rfl fun H1 p3 e1 S1 c3 l1 => qBox1 vh.1 vh.2.1 fun H2 p4 e2 S2 c4 l2 => qBox (l := s.cells) rfl fun H3 p5 e3 S3 c5 l3 => ?_
 have c33 := S3.get (S2.get c3 (by simp)) (by simp)
 have c43 := S3.get c4 (by simp)
 have T3 := (S1.trans S2).trans S3
 have hrm : (2000 : Nat) < room := by decide
 refine offI (ldI (v := vint s.days) c5 rfl rfl ⟨⟨rfl, by decide⟩, by omega, by omega, by omega, ?_⟩)
 generalize hH4 : H3 ++ [AObj.cells (zrep [vint 0, vint 0, .bool false] s.days.toNat) true 0] = H4
 have co : H4[H3.length]? = some (.cells ((List.replicate s.days.toNat ((0, 0, false) : Span)).flatMap spanC) true 0) := by rw [← hH4, zrep_span]; simp
 have S4 : SameX [] H3 H4 := by rw [← hH4]; exact SameX.refl.app
 have l4 : H4.length = H3.length + 1 := by rw [← hH4]; simp
 generalize hpo : H3.length = po at co l4
 refine qAl fun H5 p7 e5 S5 c7 l5 => qSt c7 (by simp) rfl rfl fun H6 S6 c76 l6 => ?_
 have c76 : H6[p7]? = some (.cells [.slice (some ⟨po, 0, none⟩) s.days.toNat s.days.toNat] true 0) := c76
 have S36 : SameX [] H3 H6 := (S4.trans S5).thru S6 (by simp; omega)
 have co6 := S6.get (S5.get co (by simp)) (by simp; omega)
 have T6 : SameX [] H H6 := T3.trans S36
 refine load_part (c := s.cells) (S36.get c5 (by simp)) (by simp [SkyR.cells]) rfl rfl ?_
 refine good90 hJ fun H10 ps S10 cs10 gs => ?_
 have TH : SameX [] H H10 := T6.trans S10
 refine l93_1 hJ (first := []) (cap := [ptr ps 0]) rfl (by decide) ?_
 obtain ⟨R, hRe⟩ : ∃ R : RG, R = RG.p (RG.p (RG.p (RG.p (RG.p (RG.p (RG.p (RG.p (RG.p (RG.p (RG.mk (regs [.agg ⟨p.cells⟩, hv, .agg ⟨s.cells⟩]) []) 3 (ptr p3 0)) 4 (ptr p4 0)) 5 (ptr p5 0)) 6 (.slice none 0 0)) 9 (ptr p5 0)) 10 (vint s.days)) 11 (.slice (some ⟨po, 0, none⟩) s.days.toNat s.days.toNat)) 7 (ptr p7 0)) 12 (.agg ⟨s.cells⟩)) 13 (.func (.func 127) ⟨[]⟩ ⟨[ptr ps 0]⟩) := ⟨_, rfl⟩
 rw [show (ptr p5 (0 + 0)) = ptr p5 0 from rfl, ← hRe]
 have R3 : R.r 3 = ptr p3 0 := by subst hRe; rfl
 have R4 : R.r 4 = ptr p4 0 := by subst hRe; rfl
 have R7 : R.r 7 = ptr p7 0 := by subst hRe; rfl
 have Rds : R.ds = [] := by subst hRe; rfl
 clear hRe
 have hl11 : (H10 ++ [AObj.deferred] ++ [lpW .ready none R.r H10.length])[H10.length + 1]? = some (lpW .ready none R.r H10.length) := by
  rw [List.append_assoc]
  simp
 have hd11 : (H10 ++ [AObj.deferred] ++ [lpW .ready none R.r H10.length])[H10.length]? = some .deferred := by
  rw [List.append_assoc]
  simp
 have hln : (H10 ++ [AObj.deferred] ++ [lpW .ready none R.r H10.length]).length = H10.length + 2 := by simp
 have S11 : SameX [] H10 (H10 ++ [AObj.deferred] ++ [lpW .ready none R.r H10.length]) := SameX.refl.app.app
 generalize hH11 : H10 ++ [AObj.deferred] ++ [lpW .ready none R.r H10.length] = H11 at hl11 hd11 hln S11
 have UH : SameX [] H H11 := TH.trans S11
 have S6' := S10.trans S11
 have S3' := S36.trans S6'
 have w7 := S6'.get c76 (by simp)
 have wo := S6'.get co6 (by simp)
 have w3 := S3'.get c33 (by simp)
 have w4 := S3'.get c43 (by simp)
 have ws : H11[ps]? = some (.cells s.cells true 0) := S11.get cs10 (by simp)
 have b3 := lt_of_get c33
 have b4 := lt_of_get c43
 have b7 := lt_of_get c76
 have bs := lt_of_get cs10
 have h10 := S10.1
 have h36 := S36.1
 have hTH := TH.1
 have hUH := UH.1
 have hT3 := T3.1
 let acc : Nat → List Span := fun k => ((rainsB s).take k).foldl (fun L w => dayS p hs w w.length L) (List.replicate s.days.toNat (0, 0, false))
 have tk : ∀ (k : Nat) (w : List UInt8), (rainsB s)[k]? = some w → acc (k + 1) = dayS p hs w w.length (acc k) := fun k w hw => by
  dsimp only [acc]
  rw [List.take_add_one, hw, List.foldl_append]
  rfl
 have al : ∀ k, (acc k).length = s.days.toNat := fun k => by
  dsimp only [acc]
  rw [spansK_len, List.length_replicate]
 have RD : Rnd J (rainsB s) (.func (.yield (H10.length + 1)) ⟨[]⟩ ⟨[]⟩) [H10.length + 1, po] H11
   (fun k O H' => O = [] ∧ H'[H10.length + 1]? = some (lpW .ready none R.r H10.length) ∧ H'[po]? = some (.cells ((acc k).flatMap spanC) true 0)) (fun H' => False) := by
  refine ⟨by simp; omega, fun h => by rw [h.1]; simp, fun T hi => ⟨hi.1, by rw [T.2 _ (.inl (by omega))]; exact hi.2.1, by rw [T.2 _ (.inl (by omega))]; exact hi.2.2⟩, ?_⟩
  rintro k w O Ha Q hw Sa _ ⟨rfl, i1, i2⟩ q1 q2
  have hwl := rainsB_len (List.mem_of_getElem? hw)
  have ga : ∀ {q : Nat} {o : AObj}, H11[q]? = some o → q ≠ H10.length + 1 → q ≠ po → Ha[q]? = some o := fun hq h1 h2 => Sa.get hq (by simp; exact ⟨h1, h2⟩)
  have Sx : SameX [H10.length + 1, po] H11 (Ha.set (H10.length + 1) (lpW .busy none R.r H10.length)) := Sa.set (.inl (by simp))
  have Sy : SameX [] H (Ha.set (H10.length + 1) (lpW .busy none R.r H10.length)) := UH.thru Sx (by simp; omega)
  have ak := al k
  refine roundW hJ f hh (by omega) (by omega) (L := acc k) (by omega) Sy sh (by omega) (by omega) (by omega) vh.2.2 i1 R3 R4 R7 (ga w3 (by omega) (by omega)) (ga w4 (by omega) (by omega)) (c := s.days.toNat) (by rw [ak]; exact ga w7 (by omega) (by omega)) i2 (by omega) (by omega) (by omega) (by omega) (by omega) fun Hb Sb hlb ho => ?_
  refine q1 [] Hb (Sb.weak (by simp)) (by simp) ⟨rfl, hlb, ?_⟩
  rw [ho, tk k w hw]
 refine good127 hJ g RD ⟨rfl, rfl, rfl⟩ ws (by simp; omega) ⟨rfl, hl11, wo⟩ (fun Hb O Sb _ hi => ?_) fun Hb Sb st => st.elim
 obtain ⟨_, i1, i2⟩ := hi
 have hacc : acc (rainsB s).length = spansR p hs s := by
  dsimp only [acc]
  rw [List.take_of_length_le (Nat.le_refl _)]
  rfl
 have i7 := Sb.get w7 (by simp; omega)
 rw [hacc] at i2
 refine endQnorm i1 (by simp) ?_
 rw [c93_1]
 show aLoad false 1 (R.r 7) _ _
 rw [R7, Rds]
 have hd' := Sb.get hd11 (by simp; omega)
 refine ldI (v := .slice (some ⟨po, 0, none⟩) s.days.toNat s.days.toNat) (get_set i7 (by omega)) rfl rfl ?_
 refine retLdef (get_set hd' (by omega)) (by simp [unk]) (hK ((Hb.set (H10.length + 1) .dead).set H10.length .dead) _ (((UH.thru Sb (by simp; omega)).set (.inr (by omega))).set (.inr (by omega))) ?_)
 have hsl : (spansR p hs s).length = s.days.toNat := by rw [← hacc]; exact al _
 refine ⟨_, _, rfl, ⟨by rw [flat_len, hsl], kn_span _⟩, .inr ⟨po, 0, rfl, .inr ⟨_, _, _, get_set (get_set i2 (by omega)) (by omega), ?_⟩⟩⟩
 rw [List.drop_zero]
 exact List.take_of_length_le (by rw [flat_len, hsl]; exact Nat.le_refl _)
def rngC (x : Span) : List Value := [vint x.1, vint x.2.1]
theorem good41 (hJ : Closed prog main J) {p : Pas} {s : SkyR} {hs : List Int} {hv : Value} (sh : Sli H hv 1 hs.length (hs.map vint)) (hl : hs.length < 1000000)
  (hK0 : ckdE p hs s ≠ 0 → ∀ H', SameX [] H H' → K (.tuple ⟨[.slice none 0 0, vint (ckdE p hs s)]⟩) H')
  (hK1 : ckdE p hs s = 0 → ∀ H' v, SameX [] H H' → Sli H' v 2 s.days.toNat ((spansR p hs s).flatMap rngC) → K (.tuple ⟨[v, vint 0]⟩) H') : Good prog J 41 [.agg ⟨p.cells⟩, hv, .agg ⟨s.cells⟩] H K := by
 refine g41 hJ fun ok => ?_
 rw [e41]
 refine qBox (l := p.cells) rfl fun H1 p3 e1 S1 c3 l1 => qBox (l := s.cells) rfl fun H2 p5 e2 S2 c5 l2 => ?_
 have c32 := S2.get c3 (by simp)
 have T2 := S1.trans S2
 refine load_part (c := p.cells) c32 (by simp [Pas.cells]) rfl rfl (load_part (c := s.cells) c5 (by simp [SkyR.cells]) rfl rfl ?_)
 refine good92 hJ (T2.sli sh (by simp)) hl fun H3 S3 => neqI (cndI (fun h1 => retL_same (nu2 (by simp [unk]) (by simp [unk])) (hK0 h1 H3 (T2.trans S3))) fun h1 => ?_)
 have h0 : ckdE p hs s = 0 := by omega
 obtain ⟨f, g, hh, hlen⟩ := ckdE_zero h0
 obtain ⟨g1, g2, g3⟩ := id g
 have T3 := T2.trans S3
 refine load_part (c := p.cells) (S3.get c32 (by simp)) (by simp [Pas.cells]) rfl rfl (load_part (c := s.cells) (S3.get c5 (by simp)) (by simp [SkyR.cells]) rfl rfl ?_)
 refine good93 hJ f g hh hlen (T3.sli sh (by simp)) fun H4 sv S4 hsv => lenI hsv ?_
 have T4 := T3.trans S4
 have h4 := T4.1
 have hsl : (spansR p hs s).length = s.days.toNat := by
  unfold spansR
  rw [spansK_len, List.length_replicate]
 have hsE : SliE H4 sv 3 spanC (spansR p hs s) := by
  show Sli H4 sv 3 (spansR p hs s).length _
  rw [hsl]
  exact hsv
 have rl : ∀ l : List Span, (l.flatMap rngC).length = l.length * 2 := fun l => by
  induction l with
  | nil => rfl
  | cons x l ih => rw [List.flatMap_cons, List.length_append, ih, List.length_cons]; show 2 + _ = _; omega
 refine l41_1 hJ (fun k : Nat => s.days.toNat - k) (fun k F H' => k ≤ s.days.toNat ∧ SameX [] H4 H' ∧ (∃ o, OwnX H' 2 (((spansR p hs s).take k).flatMap rngC) k (F.r 9) o ∧ ∀ i, o = some i → H4.length ≤ i) ∧ F.ds = [] ∧ F.r 22 = sv ∧ F.r 23 = vint (s.days.toNat : Nat) ∧ F.r 24 = vint (k : Nat)) ?_ (s := 0)
  (.inl ⟨by omega, SameX.refl, ⟨none, ⟨rfl, rfl, .inl ⟨rfl, rfl, rfl⟩⟩, fun i hi => by cases hi⟩, rfl, rfl, rfl, rfl⟩)
 rintro k F H' ⟨hk, S, ⟨o, O, ho⟩, ds, r22, r23, r24⟩ okc hnc
 rw [s41_1, r22, r23, r24, ds]
 refine lssI (cndI (fun hlt => ?_) fun hge => ?_)
 rotate_left
 ·have : k = s.days.toNat := by omega
  subst this
  rw [List.take_of_length_le (by omega)] at O
  exact retL_same (nu2 (ownU O) (by simp [unk])) (hK1 h0 H' _ (T4.trans S) (ownX_sli O))
 have hkl : k < (spansR p hs s).length := by omega
 obtain ⟨b, oo, cs, wr, sz, hidx, hb, hos, htk, hkn⟩ := sliE_elem (s := 3) (fun _ => rfl) (by decide) (S.sli hsE (by simp)) hkl
 have htake : (spansR p hs s).take (k + 1) = (spansR p hs s).take k ++ [(spansR p hs s)[k]] := by
  rw [List.take_add_one, List.getElem?_eq_getElem hkl]
  rfl
 generalize (spansR p hs s)[k] = x at htk htake
 refine hidx _ (load_part (c := spanC x) hb hos htk rfl (qAl fun H5 p5' e5 S5 c5' l5 => qStA (c := spanC x) c5' rfl rfl rfl fun H6 S6 c6 l6 => ?_))
 have h4' := S.1
 refine offI (ldI (v := vint x.1) c6 rfl rfl (offI (ldI (v := vint x.2.1) c6 rfl rfl ?_)))
 refine fillO (l := [vint x.1]) rfl rfl rfl (by decide) (fillO (l := [vint x.2.1]) rfl rfl rfl (by rw [wrAt_length]; decide) (fillI ?_))
 refine ⟨⟨by decide, by decide, rfl⟩, fillO (l := rngC x) rfl rfl rfl (by decide) (fillI (qNew fun H7 p7 e7 S7 c7 l7 => ?_))⟩
 have c7 : H7[p7]? = some (.cells (rngC x) true 0) := c7
 have T7 : SameX [] H' H7 := (S5.thru S6 (by simp; omega)).trans S7
 have O7 := ownX_keep O T7 (by simp)
 refine ⟨⟨rfl, by decide, by decide, by decide⟩, ownX_more O7 (by decide) (by omega) (e := rngC x) ⟨_, _, rfl, ⟨rfl, rfl⟩, .inr ⟨p7, 0, rfl, .inr ⟨_, _, _, c7, rfl⟩⟩⟩ fun v' H8 p8 e8 O8 S8 => ?_⟩
 refine addI (by omega) ⟨k + 1, by dsimp only; omega, .inl ⟨by omega, (S.trans T7).thru S8 (fun y hy => .inr ?_), ⟨some p8, ?_, fun i hi => ?_⟩, ds, r22, r23, by show vint _ = vint _; congr 1⟩⟩
 ·cases o with
  | none => simp at hy
  | some i =>
   simp at hy
   rw [hy]
   exact ho i rfl
 ·rw [htake, List.flatMap_append, List.flatMap_singleton]
  exact O8
 ·cases hi
  have := T7.1
  omega
end
def mead : Pas := ⟨12, 20, 1, 4, 3, 2⟩
def seas : SkyR := ⟨3, 2, 2⟩
def fives : List Int := [5, 5, 5]
theorem x_asks : askE mead fives [100, 119, 100] = 0 := by decide +kernel
theorem x_ends : endsZ mead fives [100, 119, 100] 3 = [8, 7, 2] := by decide +kernel
theorem x_ckd : ckdE mead fives seas = 0 := by decide +kernel
theorem x_spans : spansR mead fives seas = [(8, 11, true), (4, 10, true), (0, 6, true)] := by decide +kernel
theorem x_worst : wstV mead fives seas = ([100, 100, 119], 2, 0) := by decide +kernel
theorem x_heads : headN mead seas 0 3 = 4 ∧ headE mead seas 0 3 = 0 := by decide +kernel
theorem x_turn : foundR [mead, mead] seas 6 2 0 = some [0, 0, 1] := by decide +kernel
section
variable {main : Bool} {J : JT} {h H : List AObj} {K : Value → List AObj → Prop} {KV : Value → Prop} {HL : List AObj → Prop} {n0 : Nat}
theorem good67 (hJ : Closed prog main J) (hK : ∀ H', SameX [] H H' → K (.agg ⟨mead.cells⟩) H') : Good prog J 67 [] H K := by
 refine g67 hJ fun ok => ?_
 rw [e67]
 refine qAl fun H1 p1 e1 S1 c1 l1 => ?_
 refine fillO (l := [vint 12]) rfl rfl rfl (by decide) (fillO (l := [vint 20]) rfl rfl rfl (by simp [wrAt_length]) (fillO (l := [vint 1]) rfl rfl rfl (by simp [wrAt_length]) (fillO (l := [vint 4]) rfl rfl rfl (by simp [wrAt_length]) (fillO (l := [vint 3]) rfl rfl rfl (by simp [wrAt_length]) (fillO (l := [vint 2]) rfl rfl rfl (by simp [wrAt_length]) (fillI ?_))))))
 refine qStA (c := mead.cells) c1 rfl rfl rfl fun H2 S2 c2 l2 => retQs rfl (resW_cell (gg := true) (s := 6) (by kernel_rfl) ?_)
 exact load_part (c := mead.cells) c2 (by simp [Pas.cells]) rfl rfl (resW_nil (hK H2 (S1.thru S2 (by simp; omega))))
theorem good68 (hJ : Closed prog main J) (hK : ∀ H', SameX [] H H' → K (.agg ⟨seas.cells⟩) H') : Good prog J 68 [] H K := by
 refine g68 hJ fun ok => ?_
 rw [e68]
 refine qAl fun H1 p1 e1 S1 c1 l1 => ?_
 refine fillO (l := [vint 3]) rfl rfl rfl (by decide) (fillO (l := [vint 2]) rfl rfl rfl (by simp [wrAt_length]) (fillO (l := [vint 2]) rfl rfl rfl (by simp [wrAt_length]) (fillI ?_)))
 refine qStA (c := seas.cells) c1 rfl rfl rfl fun H2 S2 c2 l2 => retQs rfl (resW_cell (gg := true) (s := 3) (by kernel_rfl) ?_)
 exact load_part (c := seas.cells) c2 (by simp [SkyR.cells]) rfl rfl (resW_nil (hK H2 (S1.thru S2 (by simp; omega))))
theorem teqR (x : Span) : teq prog 10000 61 (.agg ⟨rngC x⟩) (.agg ⟨rngC x⟩) = some true := by
 have : teq prog 10000 61 (.agg ⟨rngC x⟩) (.agg ⟨rngC x⟩) = mB (some (x.1 == x.1)) (mB (some (x.2.1 == x.2.1)) (some true)) := by kernel_rfl
 rw [this]
 simp [mB_some]
theorem neqR {x : Span} (hk : KV (.bool false)) : aBin prog .neq 61 (.agg ⟨rngC x⟩) (.agg ⟨rngC x⟩) KV := by
 show aEq prog true 61 (.agg ⟨rngC x⟩) (.agg ⟨rngC x⟩) KV
 unfold aEq
 rw [teqR]
 exact ⟨by kernel_rfl, hk⟩
theorem good53 (hJ : Closed prog main J) {av bv : Value} {xs : List Span} (ha : SliE H av 2 rngC xs) (hb : SliE H bv 2 rngC xs) (hl : xs.length < 1000000) (hK : K (.bool true) H) : Good prog J 53 [av, bv] H K := by
 refine g53 hJ fun ok => ?_
 rw [e53, sliE_len ha, sliE_len hb]
 refine neqI (cndI (fun h => absurd rfl h) fun _ => ?_)
 refine l53_1 hJ (fun k : Nat => xs.length - k) (fun k F H' => H' = H ∧ k ≤ xs.length ∧ F.ds = [] ∧ F.r 0 = av ∧ F.r 1 = bv ∧ F.r 5 = vint (k : Nat)) ?_ (s := 0)
  (.inl ⟨rfl, by omega, rfl, rfl, rfl, rfl⟩)
 rintro k F H' ⟨rfl, hk, ds, r0, r1, r5⟩ okc hnc
 rw [s53_1, r0, r1, r5, ds, sliE_len ha]
 refine lssI (cndI (fun hlt => ?_) fun hge => retL_same (by simp [unk]) hK)
 have hkl : k < xs.length := by omega
 obtain ⟨b, o, cs, wr, sz, hidx, hbb, hos, htk, hkn⟩ := sliE_elem (s := 2) (fun _ => rfl) (by decide) ha hkl
 obtain ⟨b', o', cs', wr', sz', hidx', hbb', hos', htk', hkn'⟩ := sliE_elem (s := 2) (fun _ => rfl) (by decide) hb hkl
 refine hidx _ (load_part hbb hos htk hkn (hidx' _ (load_part hbb' hos' htk' hkn' ?_)))
 exact neqR (cnd_false.2 (addI (by omega) ⟨k + 1, by dsimp only; omega, .inl ⟨rfl, by omega, ds, r0, r1, by show vint _ = vint _; congr 1⟩⟩))
theorem eqlStr {KV : Value → Prop} (hk : KV (.bool true)) : aBin prog .eql 9 (strV [100, 100, 119]) (Value.string { data := #[100, 100, 119] }) KV := by
 have e : aBin prog .eql 9 (strV [100, 100, 119]) (Value.string { data := #[100, 100, 119] }) KV = KV (.bool true) := by kernel_rfl
 rw [e]
 exact hk
theorem fill3 {a b c : Int} {KL : List Value → Prop} (hk : KL [vint a, vint b, vint c]) : aFill (zrep [vint 0] 3) [(0, 1, vint a), (1, 1, vint b), (2, 1, vint c)] KL :=
 fillO (l := [vint a]) rfl rfl rfl (by decide) (fillO (l := [vint b]) rfl rfl rfl (by rw [wrAt_length]; decide) (fillO (l := [vint c]) rfl rfl rfl (by rw [wrAt_length, wrAt_length]; decide) (fillI hk)))
theorem sli3 {p : Nat} {a b c : Int} (hc : H[p]? = some (.cells [vint a, vint b, vint c] true 0)) : Sli H (.slice (some ⟨p, 0, none⟩) 3 3) 1 ([a, b, c] : List Int).length (([a, b, c] : List Int).map vint) := ownX_sli (ownX_new (s := 1) (n := 3) hc rfl rfl)
theorem good21 {W0 : World} {Post : Value → World → Prop} (hK : ∀ H', SameX [] (unch H) H' → K (.bool true) H') : Good prog (J2 prog W0 Post) 21 [] H K := by
 have hJ := J2.closed prog W0 Post
 refine g21 hJ fun ok => ?_
 rw [e21]
 refine good67 hJ fun H1 S1 => ⟨⟨by decide, by decide, rfl⟩, fill3 (qNew fun H2 p2 e2 S2 c2 l2 => ?_)⟩
 refine good32 hJ (p := mead) (heads := fives) (w := [100, 119, 100]) (sli3 c2) (by decide) (by decide) (fun h => absurd x_asks h) fun _ H3 v3 S3 s3 => ext0 (ext1 ?_)
 rw [show ([100, 119, 100] : List UInt8).length = 3 from rfl, x_ends] at s3
 refine good67 hJ fun H4 S4 => ⟨⟨by decide, by decide, rfl⟩, fill3 (qNew fun H5 p5 e5 S5 c5 l5 => good68 hJ fun H6 S6 => ?_)⟩
 refine good41 hJ (p := mead) (s := seas) (hs := fives) (S6.sli (sli3 c5) (by simp)) (by decide) (fun h => absurd x_ckd h) fun _ H7 v7 S7 s7 => ext0 (ext1 ?_)
 rw [x_spans] at s7
 refine good67 hJ fun H8 S8 => ⟨⟨by decide, by decide, rfl⟩, fill3 (qNew fun H9 p9 e9 S9 c9 l9 => good68 hJ fun H10 S10 => ?_)⟩
 refine good51 hJ (p := mead) (s := seas) (hs := fives) (S10.sli (sli3 c9) (by simp)) (by decide) fun H11 S11 => ?_
 rw [x_worst]
 refine ext30 (ext31 (ext32 ?_))
 refine good67 hJ fun H12 S12 => good68 hJ fun H13 S13 => good33 hJ (p := mead) (s := seas) (fr := 0) (dy := 3) fun H14 S14 => ?_
 rw [x_heads.1, x_heads.2]
 refine ext0 (ext1 (good67 hJ fun H15 S15 => good67 hJ fun H16 S16 => ⟨⟨by decide, by decide, rfl⟩, ?_⟩))
 refine fillO (l := mead.cells) rfl rfl rfl (by decide) (fillO (l := mead.cells) rfl rfl rfl (by rw [wrAt_length]; decide) (fillI (qNew fun H17 p17 e17 S17 c17 l17 => good68 hJ fun H18 S18 => ?_)))
 have c17 : H17[p17]? = some (.cells ([mead, mead].flatMap Pas.cells) true 0) := c17
 have hl : SliE H18 (.slice (some ⟨p17, 0, none⟩) 2 2) 6 Pas.cells [mead, mead] := S18.sli (ownX_sli (ownX_new (s := 6) (n := 2) c17 rfl rfl)) (by simp)
 refine good27 (q := mead) (s := seas) (heads := 6) (by decide) (by decide) (by decide) 2 rfl hl ?_
 rw [x_turn]
 intro H19 v19 S19 s19
 have T318 : SameX [] H3 H18 := (((((((((((((S4.trans S5).trans S6).trans S7).trans S8).trans S9).trans S10).trans S11).trans S12).trans S13).trans S14).trans S15).trans S16).trans S17).trans S18
 have T718 : SameX [] H7 H18 := (((((((((S8.trans S9).trans S10).trans S11).trans S12).trans S13).trans S14).trans S15).trans S16).trans S17).trans S18
 have T18 : SameX [] H H18 := ((S1.trans S2).trans S3).trans T318
 have TU : SameX [] (unch H) H19 := by
  refine SameX.trans ⟨by rw [unch_len, unch_len]; exact T18.1, fun i hi _ => ?_⟩ S19
  rw [unch_len] at hi
  unfold unch
  rw [List.getElem?_map, List.getElem?_map, T18.2 i hi (by simp)]
 have s3' := S19.sli (unch_sli (T318.sli s3 (by simp))) (by simp)
 have s7' := S19.sli (unch_sli (T718.sli s7 (by simp))) (by simp)
 refine ext0 (ext1 ?_)
 refine eqlI (cndI (fun _ => ?_) fun h => absurd rfl h)
 refine eqlI (cndI (fun _ => ?_) fun h => absurd rfl h)
 refine eqlI (cndI (fun _ => ?_) fun h => absurd rfl h)
 refine eqlI (cndI (fun _ => ?_) fun h => absurd rfl h)
 refine eqlI (cndI (fun _ => ?_) fun h => absurd rfl h)
 refine eqlStr (cnd_true.2 ?_)
 refine eqlI (cndI (fun _ => ?_) fun h => absurd rfl h)
 refine eqlI (cndI (fun _ => ?_) fun h => absurd rfl h)
 refine ⟨⟨by decide, by decide, rfl⟩, fill3 (qNew fun H20 p20 e20 S20 c20 l20 => ?_)⟩
 refine good29 hJ (xs := [8, 7, 2]) (ys := [8, 7, 2]) (S20.sli s3' (by simp)) (sli3 c20) (by decide) (cndI (fun _ => ?_) fun h => absurd rfl h)
 refine fillO (l := [vint 8]) rfl rfl rfl (by decide) (fillO (l := [vint 11]) rfl rfl rfl (by decide) (fillI ?_))
 refine fillO (l := [vint 4]) rfl rfl rfl (by decide) (fillO (l := [vint 10]) rfl rfl rfl (by decide) (fillI ?_))
 refine fillO (l := [vint 6]) rfl rfl rfl (by decide) (fillI ?_)
 refine ⟨⟨by decide, by decide, rfl⟩, fillO (l := [vint 8, vint 11]) rfl rfl rfl (by decide) (fillO (l := [vint 4, vint 10]) rfl rfl rfl (by rw [wrAt_length]; decide) (fillO (l := [vint 0, vint 6]) rfl rfl rfl (by rw [wrAt_length, wrAt_length]; decide) (fillI (qNew fun H21 p21 e21 S21 c21 l21 => ?_))))⟩
 have c21 : H21[p21]? = some (.cells (([(8, 11, true), (4, 10, true), (0, 6, true)] : List Span).flatMap rngC) true 0) := c21
 have T21 := S20.trans S21
 refine good53 hJ (xs := [(8, 11, true), (4, 10, true), (0, 6, true)]) (T21.sli s7' (by simp)) (ownX_sli (ownX_new (s := 2) (n := 3) c21 rfl rfl)) (by decide) (cnd_true.2 ?_)
 refine ⟨⟨by decide, by decide, rfl⟩, fill3 (qNew fun H22 p22 e22 S22 c22 l22 => ?_)⟩
 refine good29 hJ (xs := [0, 0, 1]) (ys := [0, 0, 1]) ((T21.trans S22).sli s19 (by simp)) (sli3 c22) (by decide) (retL_same (by simp [unk]) ?_)
 have := hK H22 (TU.trans (T21.trans S22))
 simpa [pack] using this
end
end Go.Proofs.Ythnccaajpdnndaa
namespace Go.Proofs.Ythnccaajpdnndaa
open Go.Conc Go.Proofs.Try
set_option maxRecDepth 100000
set_option maxHeartbeats 4000000
set_option linter.unusedVariables false
section
variable {main : Bool} {J : JT} {n0 : Nat} {h : List AObj} {K : Value → List AObj → Prop}
theorem at100 : prog.funcs[100]? = some f100 := by kernel_rfl
theorem body100 : f100.body = some (codeOf f100) := by kernel_rfl
def pl100 : Plans := []
def ct100 : Cuts := .go
theorem pok100 : plansOk prog pl100 (codeOf f100) = true := by kernel_rfl
theorem e100 {a0 a1 a2 a3 : Value} : W prog J 26 h.length 100 (codeOf f100) (RG.mk (regs [a0, a1, a2, a3]) []) h (RetQ prog [.tmp 8] h.length K) =
(((List.length [(vint 0)] = 1 ∧ (8 : Nat) ≤ 1024) ∧ aMkS [(vint 0)] a0 a0 h fun v1 h2 =>
 Sem J 26 h.length 100 (subC [1, 1, 0, 1, 0] (codeOf f100)) (RG.p (RG.p (RG.p (RG.p (RG.p (RG.p (RG.mk (regs [a0, a1, a2, a3]) []) 8 (Value.slice none 0 0)) 11 a0) 12 v1) 9 v1) 13 a2) 10 a2) h2 (contX pl100 prog J 26 h.length 100 ct100 [1, 1, 0, 1, 0] (codeOf f100) [] (RetQ prog [.tmp 8] h.length K)))) := top_eq pok100 ct100 (by kernel_rfl)
theorem g100 (hJ : Closed prog main J) {a0 a1 a2 a3 : Value} (hs : heapOk h → W prog J 26 h.length 100 (codeOf f100) (RG.mk (regs [a0, a1, a2, a3]) []) h (RetQ prog [.tmp 8] h.length K)) : Good prog J 100 [a0, a1, a2, a3] h K :=
 good_of_W hJ mixed at100 body100 (by kernel_rfl) (Nat.le_of_ble_eq_true rfl) hs
theorem s100_1 {f : RG} {nx0 : RG → List AObj → Prop} : W prog J 26 n0 100 (subC [1, 1, 0, 1, 0, 0] (codeOf f100)) f h (thenK nx0 (contX pl100 prog J 26 n0 100 ct100 [1, 1, 0, 1, 0] (codeOf f100) [] (RetQ prog [.tmp 8] n0 K))) =
(aBin prog .add 3 (f.r 2) (f.r 3) fun v1 =>
 aBin prog .lss 3 (f.r 10) v1 fun v2 =>
 cnd v2
(aIdx 1 (f.r 9) (f.r 10) fun v3 =>
 aStore 1 v3 (f.r 1) h fun h4 =>
 aBin prog .add 3 (f.r 10) (vint 1) fun v5 =>
 nx0 (RG.p (RG.p (RG.p (RG.p (RG.p (RG.p (RG.p (RG.p (RG.p (RG.p (RG.p (RG.p f 14 (f.r 10)) 15 (f.r 2)) 16 (f.r 3)) 17 v1) 18 v2) 21 (f.r 9)) 22 (f.r 10)) 23 (f.r 1)) 24 v3) 19 (f.r 10)) 20 v5) 10 v5) h4)
(retL n0 K f.ds [(f.r 9)] h)) := sub_eq pok100 ct100 (by kernel_rfl)
theorem l100_1 (hJ : Closed prog main J) {S : Type} (μ : S → Nat) (I : S → RG → List AObj → Prop) (hI : ∀ s f h, I s f h → heapOk h → n0 ≤ h.length → W prog J 26 n0 100 (subC [1, 1, 0, 1, 0, 0] (codeOf f100)) f h (thenK (Nx n0 μ I s) (contX pl100 prog J 26 n0 100 ct100 [1, 1, 0, 1, 0] (codeOf f100) [] (RetQ prog [.tmp 8] n0 K))))
 {s : S} {f : RG} (hi : Gets n0 I s f h) : Sem J 26 n0 100 (subC [1, 1, 0, 1, 0] (codeOf f100)) f h (contX pl100 prog J 26 n0 100 ct100 [1, 1, 0, 1, 0] (codeOf f100) [] (RetQ prog [.tmp 8] n0 K)) :=
 loop_rule hJ mixed (b := subC [1, 1, 0, 1, 0, 0] (codeOf f100)) (by kernel_rfl) μ I hI hi
theorem at99 : prog.funcs[99]? = some f99 := by kernel_rfl
theorem body99 : f99.body = some (codeOf f99) := by kernel_rfl
def pl99 : Plans := [(6, true, .take 0 (.take 1 (.take 2 (.take 3 (.take 4 (.take 5 (.last 6 false (.take 7 (.take 8 (.take 9 (.take 10 (.take 11 (.take 12 (.take 13 (.fin)))))))))))))))]
def ct99 : Cuts := .go
theorem pok99 : plansOk prog pl99 (codeOf f99) = true := by kernel_rfl
theorem e99 {a0 a1 a2 : Value} : W prog J 41 h.length 99 (codeOf f99) (RG.mk (regs [a0, a1, a2]) []) h (RetQ prog [.tmp 6, .tmp 7] h.length K) =
(aBox a0 h fun v1 h2 =>
 aBox a2 h2 fun v3 h4 =>
 aLoad true 3 v3 h4 fun v5 =>
 Good prog J 91 [v5] h4 fun v6 h7 =>
 Sem J 41 h.length 99 (subC [1, 1, 1, 0, 1, 0] (codeOf f99)) (RG.p (RG.p (RG.p (RG.p (RG.p (RG.p (RG.p (RG.p (RG.p (RG.mk (regs [a0, a1, a2]) []) 3 v1) 5 v3) 6 (vint 0)) 7 (vint 0)) 8 (vint 0)) 14 v5) 15 v6) 9 v6) 10 (vint 0)) h7 (contX pl99 prog J 41 h.length 99 ct99 [1, 1, 1, 0, 1, 0] (codeOf f99) [] (RetQ prog [.tmp 6, .tmp 7] h.length K))) := top_eq pok99 ct99 (by kernel_rfl)
theorem g99 (hJ : Closed prog main J) {a0 a1 a2 : Value} (hs : heapOk h → W prog J 41 h.length 99 (codeOf f99) (RG.mk (regs [a0, a1, a2]) []) h (RetQ prog [.tmp 6, .tmp 7] h.length K)) : Good prog J 99 [a0, a1, a2] h K :=
 good_of_W hJ mixed at99 body99 (by kernel_rfl) (Nat.le_of_ble_eq_true rfl) hs
theorem s99_1 {f : RG} {nx0 : RG → List AObj → Prop} : W prog J 41 n0 99 (subC [1, 1, 1, 0, 1, 0, 0] (codeOf f99)) f h (thenK nx0 (contX pl99 prog J 41 n0 99 ct99 [1, 1, 1, 0, 1, 0] (codeOf f99) [] (RetQ prog [.tmp 6, .tmp 7] n0 K))) =
(aLenS (f.r 9) fun v1 =>
 aBin prog .lss 3 (f.r 10) v1 fun v2 =>
 cnd v2
(aLoad true 6 (f.r 3) h fun v3 =>
 aIdx 1 (f.r 9) (f.r 10) fun v4 =>
 aLoad false 1 v4 h fun v5 =>
 Good prog J 97 [v3, (f.r 1), v5] h fun v6 h7 =>
 aExt v6 0 fun v8 =>
 aExt v6 1 fun v9 =>
 aExt v6 2 fun v10 =>
 aLenS v10 fun v11 =>
 aBin prog .eql 3 v11 (vint 0) fun v12 =>
 cnd v12
(aBin prog .add 3 (f.r 8) (vint 1) fun v13 =>
 aBin prog .add 3 (f.r 10) (vint 1) fun v14 =>
 nx0 (RG.p (RG.p (RG.p (RG.p (RG.p (RG.p (RG.p (RG.p (RG.p (RG.p (RG.p (RG.p (RG.p (RG.p (RG.p (RG.p (RG.p (RG.p (RG.p (RG.p (RG.p (RG.p (RG.p (RG.p (RG.p (RG.p (RG.p f 16 (f.r 10)) 17 (f.r 9)) 18 v1) 19 v2) 23 v3) 24 (f.r 1)) 25 (f.r 9)) 26 (f.r 10)) 27 v4) 28 v5) 29 v6) 22 v6) 30 v8) 31 v9) 32 v10) 11 v8) 12 v9) 13 v10) 33 v10) 34 v11) 35 v12) 36 (f.r 8)) 37 v13) 8 v13) 20 (f.r 10)) 21 v14) 10 v14) h7)
(aBin prog .add 3 (f.r 10) (vint 1) fun v15 =>
 nx0 (RG.p (RG.p (RG.p (RG.p (RG.p (RG.p (RG.p (RG.p (RG.p (RG.p (RG.p (RG.p (RG.p (RG.p (RG.p (RG.p (RG.p (RG.p (RG.p (RG.p (RG.p (RG.p (RG.p (RG.p f 16 (f.r 10)) 17 (f.r 9)) 18 v1) 19 v2) 23 v3) 24 (f.r 1)) 25 (f.r 9)) 26 (f.r 10)) 27 v4) 28 v5) 29 v6) 22 v6) 30 v8) 31 v9) 32 v10) 11 v8) 12 v9) 13 v10) 33 v10) 34 v11) 35 v12) 20 (f.r 10)) 21 v15) 10 v15) h7))
(aLenS (f.r 9) fun v16 =>
 retL n0 K f.ds [(f.r 8), v16] h)) := sub_eq pok99 ct99 (by kernel_rfl)
theorem l99_1 (hJ : Closed prog main J) {S : Type} (μ : S → Nat) (I : S → RG → List AObj → Prop) (hI : ∀ s f h, I s f h → heapOk h → n0 ≤ h.length → W prog J 41 n0 99 (subC [1, 1, 1, 0, 1, 0, 0] (codeOf f99)) f h (thenK (Nx n0 μ I s) (contX pl99 prog J 41 n0 99 ct99 [1, 1, 1, 0, 1, 0] (codeOf f99) [] (RetQ prog [.tmp 6, .tmp 7] n0 K))))
 {s : S} {f : RG} (hi : Gets n0 I s f h) : Sem J 41 n0 99 (subC [1, 1, 1, 0, 1, 0] (codeOf f99)) f h (contX pl99 prog J 41 n0 99 ct99 [1, 1, 1, 0, 1, 0] (codeOf f99) [] (RetQ prog [.tmp 6, .tmp 7] n0 K)) :=
 loop_rule hJ mixed (b := subC [1, 1, 1, 0, 1, 0, 0] (codeOf f99)) (by kernel_rfl) μ I hI hi
theorem at95 : prog.funcs[95]? = some f95 := by kernel_rfl
theorem body95 : f95.body = some (codeOf f95) := by kernel_rfl
def pl95 : Plans := [(1, false, .take 0 (.take 1 (.take 2 (.take 3 (.take 4 (.take 5 (.take 7 (.last 6 true (.last 8 true (.take 9 (.take 10 (.take 11 (.take 12 (.take 13 (.fin)))))))))))))))]
def ct95 : Cuts := .go
theorem pok95 : plansOk prog pl95 (codeOf f95) = true := by kernel_rfl
theorem e95 {a0 a1 a2 a3 a4 : Value} : W prog J 28 h.length 95 (codeOf f95) (RG.mk (regs [a0, a1, a2, a3, a4]) []) h (RetQ prog [.tmp 10] h.length K) =
(aBox a0 h fun v1 h2 =>
 aBox a1 h2 fun v3 h4 =>
(∃ B, aLoad true 6 v1 h4 fun v5 =>
 RdOk (some B) (ptrBlk v1) ∧ (aOff v3 0 fun v6 =>
 aLoad false 1 v6 h4 fun v7 =>
 RdOk (some B) (ptrBlk v6) ∧ (aLoad true 3 v3 h4 fun v8 =>
 RdOk (some B) (ptrBlk v3) ∧ (Good prog J 100 [v7, a2, a3, a4] h4 fun v9 h10 =>
 SameB (some B) h4 h10 ∧ (Good prog J 99 [v5, v9, v8] h10 fun v11 h12 =>
 SameB (some B) h4 h12 ∧ (aExt v11 0 fun v13 =>
 aExt v11 1 fun v14 =>
 aBin prog .eql 3 v13 v14 fun v15 =>
 retL h.length K [] [v15] h12))))))) := top_eq pok95 ct95 (by kernel_rfl)
theorem g95 (hJ : Closed prog main J) {a0 a1 a2 a3 a4 : Value} (hs : heapOk h → W prog J 28 h.length 95 (codeOf f95) (RG.mk (regs [a0, a1, a2, a3, a4]) []) h (RetQ prog [.tmp 10] h.length K)) : Good prog J 95 [a0, a1, a2, a3, a4] h K :=
 good_of_W hJ mixed at95 body95 (by kernel_rfl) (Nat.le_of_ble_eq_true rfl) hs
end
section
variable {main : Bool} {J : JT} {n0 : Nat} {h : List AObj} {K : Value → List AObj → Prop}
theorem at82 : prog.funcs[82]? = some f82 := by kernel_rfl
theorem body82 : f82.body = some (codeOf f82) := by kernel_rfl
def pl82 : Plans := []
def ct82 : Cuts := .go
theorem pok82 : plansOk prog pl82 (codeOf f82) = true := by kernel_rfl
theorem e82 {a0 a1 a2 : Value} : W prog J 15 h.length 82 (codeOf f82) (RG.mk (regs [a0, a1, a2]) []) h (RetQ prog [.tmp 6] h.length K) =
(aBin prog .geq 3 a0 a1 fun v1 =>
 cnd v1
(aBin prog .leq 3 a0 a2 fun v2 =>
 retL h.length K [] [v2] h)
(retL h.length K [] [(Value.bool false)] h)) := top_eq pok82 ct82 (by kernel_rfl)
theorem g82 (hJ : Closed prog main J) {a0 a1 a2 : Value} (hs : heapOk h → W prog J 15 h.length 82 (codeOf f82) (RG.mk (regs [a0, a1, a2]) []) h (RetQ prog [.tmp 6] h.length K)) : Good prog J 82 [a0, a1, a2] h K :=
 good_of_W hJ mixed at82 body82 (by kernel_rfl) (Nat.le_of_ble_eq_true rfl) hs
theorem at37 : prog.funcs[37]? = some f37 := by kernel_rfl
theorem body37 : f37.body = some (codeOf f37) := by kernel_rfl
def pl37 : Plans := []
def ct37 : Cuts := .bin (.go) (.bin (.bin (.go) (.cut (.go))) (.go))
theorem pok37 : plansOk prog pl37 (codeOf f37) = true := by kernel_rfl
theorem e37 {a0 : Value} : W prog J 43 h.length 37 (codeOf f37) (RG.mk (regs [a0]) []) h (RetQ prog [.tmp 2] h.length K) =
(aBox a0 h fun v1 h2 =>
 aOff v1 1 fun v3 =>
 aLoad false 1 v3 h2 fun v4 =>
 Good prog J 82 [v4, (vint 1), (vint 99)] h2 fun v5 h6 =>
 aUn .not v5 fun v7 =>
 cnd v7
(Hold (W prog J 43 h.length 37 (subC [1, 0, 1] (codeOf f37)) (RG.p (RG.p (RG.p (RG.p (RG.p (RG.p (RG.p (RG.p (RG.p (RG.p (RG.p (RG.p (RG.p (RG.p (RG.p (RG.p (RG.p (RG.p (RG.p (RG.p (RG.p (RG.p (RG.p (RG.p (RG.p (RG.p (RG.p (RG.p (RG.p (RG.p (RG.p (RG.p (RG.p (RG.p (RG.p (RG.p (RG.p (RG.p (RG.p (RG.p (RG.p (RG.p (RG.p (RG.p (RG.p (RG.p (RG.p (RG.mk (regs [a0]) []) 1 v1) 2 (vint 0)) 3 v3) 4 v4) 5 v5) 6 v7) 7 v7) 7 (Value.bool true)) 8 undef) 9 undef) 10 undef) 11 undef) 12 undef) 13 undef) 14 (Value.bool true)) 15 (Value.bool true)) 15 (Value.bool true)) 16 undef) 17 undef) 18 undef) 19 undef) 20 (Value.bool true)) 21 (Value.bool true)) 21 (Value.bool true)) 22 undef) 23 undef) 24 undef) 25 undef) 26 undef) 27 undef) 28 (Value.bool true)) 29 (Value.bool true)) 29 (Value.bool true)) 30 undef) 31 undef) 32 undef) 33 undef) 34 undef) 35 undef) 36 (Value.bool true)) 37 (Value.bool true)) 37 (Value.bool true)) 38 undef) 39 undef) 40 undef) 41 undef) 42 (Value.bool true)) h6 (contX pl37 prog J 43 h.length 37 ct37 [1, 0, 1] (codeOf f37) [] (RetQ prog [.tmp 2] h.length K))))
(aOff v1 0 fun v8 =>
 aLoad false 1 v8 h6 fun v9 =>
 aOff v1 1 fun v10 =>
 aLoad false 1 v10 h6 fun v11 =>
 Good prog J 82 [v9, (vint 0), v11] h6 fun v12 h13 =>
 aUn .not v12 fun v14 =>
 cnd v14
(Hold (W prog J 43 h.length 37 (subC [1, 0, 1] (codeOf f37)) (RG.p (RG.p (RG.p (RG.p (RG.p (RG.p (RG.p (RG.p (RG.p (RG.p (RG.p (RG.p (RG.p (RG.p (RG.p (RG.p (RG.p (RG.p (RG.p (RG.p (RG.p (RG.p (RG.p (RG.p (RG.p (RG.p (RG.p (RG.p (RG.p (RG.p (RG.p (RG.p (RG.p (RG.p (RG.p (RG.p (RG.p (RG.p (RG.p (RG.p (RG.p (RG.p (RG.p (RG.p (RG.p (RG.p (RG.p (RG.mk (regs [a0]) []) 1 v1) 2 (vint 0)) 3 v3) 4 v4) 5 v5) 6 v7) 7 v7) 7 (Value.bool false)) 8 v8) 9 v9) 10 v10) 11 v11) 12 v12) 13 v14) 14 v14) 15 v14) 15 (Value.bool true)) 16 undef) 17 undef) 18 undef) 19 undef) 20 (Value.bool true)) 21 (Value.bool true)) 21 (Value.bool true)) 22 undef) 23 undef) 24 undef) 25 undef) 26 undef) 27 undef) 28 (Value.bool true)) 29 (Value.bool true)) 29 (Value.bool true)) 30 undef) 31 undef) 32 undef) 33 undef) 34 undef) 35 undef) 36 (Value.bool true)) 37 (Value.bool true)) 37 (Value.bool true)) 38 undef) 39 undef) 40 undef) 41 undef) 42 (Value.bool true)) h13 (contX pl37 prog J 43 h.length 37 ct37 [1, 0, 1] (codeOf f37) [] (RetQ prog [.tmp 2] h.length K))))
(aOff v1 2 fun v15 =>
 aLoad false 1 v15 h13 fun v16 =>
 Good prog J 82 [v16, (vint 0), (vint 9)] h13 fun v17 h18 =>
 aUn .not v17 fun v19 =>
 cnd v19
(Hold (W prog J 43 h.length 37 (subC [1, 0, 1] (codeOf f37)) (RG.p (RG.p (RG.p (RG.p (RG.p (RG.p (RG.p (RG.p (RG.p (RG.p (RG.p (RG.p (RG.p (RG.p (RG.p (RG.p (RG.p (RG.p (RG.p (RG.p (RG.p (RG.p (RG.p (RG.p (RG.p (RG.p (RG.p (RG.p (RG.p (RG.p (RG.p (RG.p (RG.p (RG.p (RG.p (RG.p (RG.p (RG.p (RG.p (RG.p (RG.p (RG.p (RG.p (RG.p (RG.p (RG.p (RG.p (RG.mk (regs [a0]) []) 1 v1) 2 (vint 0)) 3 v3) 4 v4) 5 v5) 6 v7) 7 v7) 7 (Value.bool false)) 8 v8) 9 v9) 10 v10) 11 v11) 12 v12) 13 v14) 14 v14) 15 v14) 15 (Value.bool false)) 16 v15) 17 v16) 18 v17) 19 v19) 20 v19) 21 v19) 21 (Value.bool true)) 22 undef) 23 undef) 24 undef) 25 undef) 26 undef) 27 undef) 28 (Value.bool true)) 29 (Value.bool true)) 29 (Value.bool true)) 30 undef) 31 undef) 32 undef) 33 undef) 34 undef) 35 undef) 36 (Value.bool true)) 37 (Value.bool true)) 37 (Value.bool true)) 38 undef) 39 undef) 40 undef) 41 undef) 42 (Value.bool true)) h18 (contX pl37 prog J 43 h.length 37 ct37 [1, 0, 1] (codeOf f37) [] (RetQ prog [.tmp 2] h.length K))))
(aOff v1 3 fun v20 =>
 aLoad false 1 v20 h18 fun v21 =>
 aOff v1 2 fun v22 =>
 aLoad false 1 v22 h18 fun v23 =>
 Good prog J 82 [v21, v23, (vint 9)] h18 fun v24 h25 =>
 aUn .not v24 fun v26 =>
 cnd v26
(Hold (W prog J 43 h.length 37 (subC [1, 0, 1] (codeOf f37)) (RG.p (RG.p (RG.p (RG.p (RG.p (RG.p (RG.p (RG.p (RG.p (RG.p (RG.p (RG.p (RG.p (RG.p (RG.p (RG.p (RG.p (RG.p (RG.p (RG.p (RG.p (RG.p (RG.p (RG.p (RG.p (RG.p (RG.p (RG.p (RG.p (RG.p (RG.p (RG.p (RG.p (RG.p (RG.p (RG.p (RG.p (RG.p (RG.p (RG.p (RG.p (RG.p (RG.p (RG.p (RG.p (RG.p (RG.p (RG.mk (regs [a0]) []) 1 v1) 2 (vint 0)) 3 v3) 4 v4) 5 v5) 6 v7) 7 v7) 7 (Value.bool false)) 8 v8) 9 v9) 10 v10) 11 v11) 12 v12) 13 v14) 14 v14) 15 v14) 15 (Value.bool false)) 16 v15) 17 v16) 18 v17) 19 v19) 20 v19) 21 v19) 21 (Value.bool false)) 22 v20) 23 v21) 24 v22) 25 v23) 26 v24) 27 v26) 28 v26) 29 v26) 29 (Value.bool true)) 30 undef) 31 undef) 32 undef) 33 undef) 34 undef) 35 undef) 36 (Value.bool true)) 37 (Value.bool true)) 37 (Value.bool true)) 38 undef) 39 undef) 40 undef) 41 undef) 42 (Value.bool true)) h25 (contX pl37 prog J 43 h.length 37 ct37 [1, 0, 1] (codeOf f37) [] (RetQ prog [.tmp 2] h.length K))))
(aOff v1 4 fun v27 =>
 aLoad false 1 v27 h25 fun v28 =>
 aOff v1 1 fun v29 =>
 aLoad false 1 v29 h25 fun v30 =>
 Good prog J 82 [v28, (vint 0), v30] h25 fun v31 h32 =>
 aUn .not v31 fun v33 =>
 cnd v33
(Hold (W prog J 43 h.length 37 (subC [1, 0, 1] (codeOf f37)) (RG.p (RG.p (RG.p (RG.p (RG.p (RG.p (RG.p (RG.p (RG.p (RG.p (RG.p (RG.p (RG.p (RG.p (RG.p (RG.p (RG.p (RG.p (RG.p (RG.p (RG.p (RG.p (RG.p (RG.p (RG.p (RG.p (RG.p (RG.p (RG.p (RG.p (RG.p (RG.p (RG.p (RG.p (RG.p (RG.p (RG.p (RG.p (RG.p (RG.p (RG.p (RG.p (RG.p (RG.p (RG.p (RG.p (RG.p (RG.mk (regs [a0]) []) 1 v1) 2 (vint 0)) 3 v3) 4 v4) 5 v5) 6 v7) 7 v7) 7 (Value.bool false)) 8 v8) 9 v9) 10 v10) 11 v11) 12 v12) 13 v14) 14 v14) 15 v14) 15 (Value.bool false)) 16 v15) 17 v16) 18 v17) 19 v19) 20 v19) 21 v19) 21 (Value.bool false)) 22 v20) 23 v21) 24 v22) 25 v23) 26 v24) 27 v26) 28 v26) 29 v26) 29 (Value.bool false)) 30 v27) 31 v28) 32 v29) 33 v30) 34 v31) 35 v33) 36 v33) 37 v33) 37 (Value.bool true)) 38 undef) 39 undef) 40 undef) 41 undef) 42 (Value.bool true)) h32 (contX pl37 prog J 43 h.length 37 ct37 [1, 0, 1] (codeOf f37) [] (RetQ prog [.tmp 2] h.length K))))
(aOff v1 5 fun v34 =>
 aLoad false 1 v34 h32 fun v35 =>
 Good prog J 82 [v35, (vint 0), (vint 5)] h32 fun v36 h37 =>
 aUn .not v36 fun v38 =>
 Hold (W prog J 43 h.length 37 (subC [1, 0, 1] (codeOf f37)) (RG.p (RG.p (RG.p (RG.p (RG.p (RG.p (RG.p (RG.p (RG.p (RG.p (RG.p (RG.p (RG.p (RG.p (RG.p (RG.p (RG.p (RG.p (RG.p (RG.p (RG.p (RG.p (RG.p (RG.p (RG.p (RG.p (RG.p (RG.p (RG.p (RG.p (RG.p (RG.p (RG.p (RG.p (RG.p (RG.p (RG.p (RG.p (RG.p (RG.p (RG.p (RG.p (RG.p (RG.p (RG.p (RG.p (RG.p (RG.mk (regs [a0]) []) 1 v1) 2 (vint 0)) 3 v3) 4 v4) 5 v5) 6 v7) 7 v7) 7 (Value.bool false)) 8 v8) 9 v9) 10 v10) 11 v11) 12 v12) 13 v14) 14 v14) 15 v14) 15 (Value.bool false)) 16 v15) 17 v16) 18 v17) 19 v19) 20 v19) 21 v19) 21 (Value.bool false)) 22 v20) 23 v21) 24 v22) 25 v23) 26 v24) 27 v26) 28 v26) 29 v26) 29 (Value.bool false)) 30 v27) 31 v28) 32 v29) 33 v30) 34 v31) 35 v33) 36 v33) 37 v33) 37 (Value.bool false)) 38 v34) 39 v35) 40 v36) 41 v38) 42 v38) h37 (contX pl37 prog J 43 h.length 37 ct37 [1, 0, 1] (codeOf f37) [] (RetQ prog [.tmp 2] h.length K))))))))) := top_eq pok37 ct37 (by kernel_rfl)
theorem g37 (hJ : Closed prog main J) {a0 : Value} (hs : heapOk h → W prog J 43 h.length 37 (codeOf f37) (RG.mk (regs [a0]) []) h (RetQ prog [.tmp 2] h.length K)) : Good prog J 37 [a0] h K :=
 good_of_W hJ mixed at37 body37 (by kernel_rfl) (Nat.le_of_ble_eq_true rfl) hs
theorem s37_1 {f : RG} : W prog J 43 n0 37 (subC [1, 0, 1] (codeOf f37)) f h (contX pl37 prog J 43 n0 37 ct37 [1, 0, 1] (codeOf f37) [] (RetQ prog [.tmp 2] n0 K)) =
(cnd (f.r 42)
(retL n0 K f.ds [(vint 1)] h)
(retL n0 K f.ds [(vint 0)] h)) := sub_eq pok37 ct37 (by kernel_rfl)
theorem at81 : prog.funcs[81]? = some f81 := by kernel_rfl
theorem body81 : f81.body = some (codeOf f81) := by kernel_rfl
def pl81 : Plans := []
def ct81 : Cuts := .bin (.go) (.bin (.bin (.go) (.cut (.go))) (.go))
theorem pok81 : plansOk prog pl81 (codeOf f81) = true := by kernel_rfl
theorem e81 {a0 : Value} : W prog J 23 h.length 81 (codeOf f81) (RG.mk (regs [a0]) []) h (RetQ prog [.tmp 2] h.length K) =
(aBox a0 h fun v1 h2 =>
 aOff v1 0 fun v3 =>
 aLoad false 1 v3 h2 fun v4 =>
 Good prog J 82 [v4, (vint 1), (vint 8)] h2 fun v5 h6 =>
 aUn .not v5 fun v7 =>
 cnd v7
(Hold (W prog J 23 h.length 81 (subC [1, 0, 1] (codeOf f81)) (RG.p (RG.p (RG.p (RG.p (RG.p (RG.p (RG.p (RG.p (RG.p (RG.p (RG.p (RG.p (RG.p (RG.p (RG.p (RG.p (RG.p (RG.p (RG.p (RG.p (RG.p (RG.p (RG.p (RG.p (RG.mk (regs [a0]) []) 1 v1) 2 (vint 0)) 3 v3) 4 v4) 5 v5) 6 v7) 7 v7) 7 (Value.bool true)) 8 undef) 9 undef) 10 undef) 11 undef) 12 undef) 13 undef) 14 (Value.bool true)) 15 (Value.bool true)) 15 (Value.bool true)) 16 undef) 17 undef) 18 undef) 19 undef) 20 undef) 21 undef) 22 (Value.bool true)) h6 (contX pl81 prog J 23 h.length 81 ct81 [1, 0, 1] (codeOf f81) [] (RetQ prog [.tmp 2] h.length K))))
(aOff v1 1 fun v8 =>
 aLoad false 1 v8 h6 fun v9 =>
 aOff v1 0 fun v10 =>
 aLoad false 1 v10 h6 fun v11 =>
 Good prog J 82 [v9, (vint 1), v11] h6 fun v12 h13 =>
 aUn .not v12 fun v14 =>
 cnd v14
(Hold (W prog J 23 h.length 81 (subC [1, 0, 1] (codeOf f81)) (RG.p (RG.p (RG.p (RG.p (RG.p (RG.p (RG.p (RG.p (RG.p (RG.p (RG.p (RG.p (RG.p (RG.p (RG.p (RG.p (RG.p (RG.p (RG.p (RG.p (RG.p (RG.p (RG.p (RG.p (RG.mk (regs [a0]) []) 1 v1) 2 (vint 0)) 3 v3) 4 v4) 5 v5) 6 v7) 7 v7) 7 (Value.bool false)) 8 v8) 9 v9) 10 v10) 11 v11) 12 v12) 13 v14) 14 v14) 15 v14) 15 (Value.bool true)) 16 undef) 17 undef) 18 undef) 19 undef) 20 undef) 21 undef) 22 (Value.bool true)) h13 (contX pl81 prog J 23 h.length 81 ct81 [1, 0, 1] (codeOf f81) [] (RetQ prog [.tmp 2] h.length K))))
(aOff v1 2 fun v15 =>
 aLoad false 1 v15 h13 fun v16 =>
 aOff v1 0 fun v17 =>
 aLoad false 1 v17 h13 fun v18 =>
 Good prog J 82 [v16, (vint 1), v18] h13 fun v19 h20 =>
 aUn .not v19 fun v21 =>
 Hold (W prog J 23 h.length 81 (subC [1, 0, 1] (codeOf f81)) (RG.p (RG.p (RG.p (RG.p (RG.p (RG.p (RG.p (RG.p (RG.p (RG.p (RG.p (RG.p (RG.p (RG.p (RG.p (RG.p (RG.p (RG.p (RG.p (RG.p (RG.p (RG.p (RG.p (RG.p (RG.mk (regs [a0]) []) 1 v1) 2 (vint 0)) 3 v3) 4 v4) 5 v5) 6 v7) 7 v7) 7 (Value.bool false)) 8 v8) 9 v9) 10 v10) 11 v11) 12 v12) 13 v14) 14 v14) 15 v14) 15 (Value.bool false)) 16 v15) 17 v16) 18 v17) 19 v18) 20 v19) 21 v21) 22 v21) h20 (contX pl81 prog J 23 h.length 81 ct81 [1, 0, 1] (codeOf f81) [] (RetQ prog [.tmp 2] h.length K)))))) := top_eq pok81 ct81 (by kernel_rfl)
theorem g81 (hJ : Closed prog main J) {a0 : Value} (hs : heapOk h → W prog J 23 h.length 81 (codeOf f81) (RG.mk (regs [a0]) []) h (RetQ prog [.tmp 2] h.length K)) : Good prog J 81 [a0] h K :=
 good_of_W hJ mixed at81 body81 (by kernel_rfl) (Nat.le_of_ble_eq_true rfl) hs
theorem s81_1 {f : RG} : W prog J 23 n0 81 (subC [1, 0, 1] (codeOf f81)) f h (contX pl81 prog J 23 n0 81 ct81 [1, 0, 1] (codeOf f81) [] (RetQ prog [.tmp 2] n0 K)) =
(cnd (f.r 22)
(retL n0 K f.ds [(vint 1)] h)
(retL n0 K f.ds [(vint 0)] h)) := sub_eq pok81 ct81 (by kernel_rfl)
theorem at133 : prog.funcs[133]? = some f133 := by kernel_rfl
theorem body133 : f133.body = some (codeOf f133) := by kernel_rfl
def pl133 : Plans := []
def ct133 : Cuts := .bin (.go) (.bin (.go) (.bin (.go) (.bin (.bin (.go) (.cut (.go))) (.go))))
theorem pok133 : plansOk prog pl133 (codeOf f133) = true := by kernel_rfl
theorem e133 {a0 a1 a2 a3 : Value} : W prog J 58 h.length 133 (codeOf f133) (RG.mk (regs [a0, a1, a2, a3]) []) h (RetQ prog [.cell 8 167, .tmp 9, .tmp 10] h.length K) =
(aBox a0 h fun v1 h2 =>
 aBox a1 h2 fun v3 h4 =>
 aAlloc [(vint 0), (vint 0)] h4 fun v5 h6 =>
 aOff v3 0 fun v7 =>
 aLoad false 1 v7 h6 fun v8 =>
 aBin prog .lss 3 v8 a2 fun v9 =>
 aOff v3 0 fun v10 =>
 aLoad false 1 v10 h6 fun v11 =>
 aBin prog .sub 3 v11 a2 fun v12 =>
 aMax (vint 0) [v12] fun v13 =>
 aBin prog .gtr 3 a2 (vint 0) fun v14 =>
 cnd v14
(aOff v1 4 fun v15 =>
 aLoad false 1 v15 h6 fun v16 =>
 aBin prog .lss 3 v13 v16 fun v17 =>
 Hold (W prog J 58 h.length 133 (subC [1, 1, 1, 0, 1] (codeOf f133)) (RG.p (RG.p (RG.p (RG.p (RG.p (RG.p (RG.p (RG.p (RG.p (RG.p (RG.p (RG.p (RG.p (RG.p (RG.p (RG.p (RG.p (RG.p (RG.p (RG.p (RG.p (RG.p (RG.p (RG.p (RG.p (RG.mk (regs [a0, a1, a2, a3]) []) 4 v1) 5 v3) 8 v5) 9 (Value.bool false)) 10 (Value.bool false)) 14 v7) 15 v8) 16 a2) 17 v9) 11 v9) 18 v10) 19 v11) 20 a2) 21 v12) 22 v13) 12 v13) 23 a2) 24 v14) 25 v14) 25 (Value.bool true)) 26 v13) 27 v15) 28 v16) 29 v17) 30 v17) h6 (contX pl133 prog J 58 h.length 133 ct133 [1, 1, 1, 0, 1] (codeOf f133) [] (RetQ prog [.cell 8 167, .tmp 9, .tmp 10] h.length K))))
(Hold (W prog J 58 h.length 133 (subC [1, 1, 1, 0, 1] (codeOf f133)) (RG.p (RG.p (RG.p (RG.p (RG.p (RG.p (RG.p (RG.p (RG.p (RG.p (RG.p (RG.p (RG.p (RG.p (RG.p (RG.p (RG.p (RG.p (RG.p (RG.p (RG.p (RG.p (RG.p (RG.p (RG.p (RG.mk (regs [a0, a1, a2, a3]) []) 4 v1) 5 v3) 8 v5) 9 (Value.bool false)) 10 (Value.bool false)) 14 v7) 15 v8) 16 a2) 17 v9) 11 v9) 18 v10) 19 v11) 20 a2) 21 v12) 22 v13) 12 v13) 23 a2) 24 v14) 25 v14) 25 (Value.bool false)) 26 undef) 27 undef) 28 undef) 29 undef) 30 (Value.bool false)) h6 (contX pl133 prog J 58 h.length 133 ct133 [1, 1, 1, 0, 1] (codeOf f133) [] (RetQ prog [.cell 8 167, .tmp 9, .tmp 10] h.length K))))) := top_eq pok133 ct133 (by kernel_rfl)
theorem g133 (hJ : Closed prog main J) {a0 a1 a2 a3 : Value} (hs : heapOk h → W prog J 58 h.length 133 (codeOf f133) (RG.mk (regs [a0, a1, a2, a3]) []) h (RetQ prog [.cell 8 167, .tmp 9, .tmp 10] h.length K)) : Good prog J 133 [a0, a1, a2, a3] h K :=
 good_of_W hJ mixed at133 body133 (by kernel_rfl) (Nat.le_of_ble_eq_true rfl) hs
theorem s133_1 {f : RG} : W prog J 58 n0 133 (subC [1, 1, 1, 0, 1] (codeOf f133)) f h (contX pl133 prog J 58 n0 133 ct133 [1, 1, 1, 0, 1] (codeOf f133) [] (RetQ prog [.cell 8 167, .tmp 9, .tmp 10] n0 K)) =
(cnd (f.r 30)
(aOff (f.r 4) 5 fun v1 =>
 aLoad false 1 v1 h fun v2 =>
 aFill [(vint 0), (vint 0)] [(0, 1, (f.r 12)), (1, 1, v2)] fun c3 =>
 aStore 2 (f.r 8) (Value.agg ⟨c3⟩) h fun h4 =>
 RetQ prog [.cell 8 167, .tmp 9, .tmp 10] n0 K .ret (RG.p (RG.p (RG.p (RG.p (RG.p (RG.p (RG.p f 31 (f.r 12)) 32 v1) 33 v2) 34 (Value.agg ⟨c3⟩)) 35 (f.r 11)) 9 (Value.bool true)) 10 (f.r 11)) h4)
(aOff (f.r 5) 1 fun v5 =>
 aLoad false 1 v5 h fun v6 =>
 aBin prog .gtr 3 v6 (vint 0) fun v7 =>
 cnd v7
(aOff (f.r 5) 1 fun v8 =>
 aLoad false 1 v8 h fun v9 =>
 aBin prog .sub 3 v9 (vint 1) fun v10 =>
 aFill [(vint 0), (vint 0)] [(0, 1, (f.r 12)), (1, 1, v10)] fun c11 =>
 aStore 2 (f.r 8) (Value.agg ⟨c11⟩) h fun h12 =>
 RetQ prog [.cell 8 167, .tmp 9, .tmp 10] n0 K .ret (RG.p (RG.p (RG.p (RG.p (RG.p (RG.p (RG.p (RG.p (RG.p (RG.p (RG.p f 36 v5) 37 v6) 38 v7) 39 (f.r 12)) 40 v8) 41 v9) 42 v10) 43 (Value.agg ⟨c11⟩)) 44 (f.r 11)) 9 (Value.bool false)) 10 (f.r 11)) h12)
(aOff (f.r 4) 2 fun v13 =>
 aLoad false 1 v13 h fun v14 =>
 cnd (f.r 3)
(aOff (f.r 4) 3 fun v15 =>
 aLoad false 1 v15 h fun v16 =>
 aOff (f.r 4) 1 fun v17 =>
 aLoad false 1 v17 h fun v18 =>
 aBin prog .add 3 (f.r 12) v16 fun v19 =>
 aMin v18 [v19] fun v20 =>
 aFill [(vint 0), (vint 0)] [(0, 1, v20), (1, 1, (vint 0))] fun c21 =>
 aStore 2 (f.r 8) (Value.agg ⟨c21⟩) h fun h22 =>
 RetQ prog [.cell 8 167, .tmp 9, .tmp 10] n0 K .ret (RG.p (RG.p (RG.p (RG.p (RG.p (RG.p (RG.p (RG.p (RG.p (RG.p (RG.p (RG.p (RG.p (RG.p (RG.p (RG.p (RG.p (RG.p (RG.p (RG.p f 36 v5) 37 v6) 38 v7) 45 v13) 46 v14) 13 v14) 47 (f.r 3)) 48 v15) 49 v16) 13 v16) 50 v17) 51 v18) 52 (f.r 12)) 53 v16) 54 v19) 55 v20) 56 (Value.agg ⟨c21⟩)) 57 (f.r 11)) 9 (Value.bool false)) 10 (f.r 11)) h22)
(aOff (f.r 4) 1 fun v23 =>
 aLoad false 1 v23 h fun v24 =>
 aBin prog .add 3 (f.r 12) v14 fun v25 =>
 aMin v24 [v25] fun v26 =>
 aFill [(vint 0), (vint 0)] [(0, 1, v26), (1, 1, (vint 0))] fun c27 =>
 aStore 2 (f.r 8) (Value.agg ⟨c27⟩) h fun h28 =>
 RetQ prog [.cell 8 167, .tmp 9, .tmp 10] n0 K .ret (RG.p (RG.p (RG.p (RG.p (RG.p (RG.p (RG.p (RG.p (RG.p (RG.p (RG.p (RG.p (RG.p (RG.p (RG.p (RG.p (RG.p f 36 v5) 37 v6) 38 v7) 45 v13) 46 v14) 13 v14) 47 (f.r 3)) 50 v23) 51 v24) 52 (f.r 12)) 53 v14) 54 v25) 55 v26) 56 (Value.agg ⟨c27⟩)) 57 (f.r 11)) 9 (Value.bool false)) 10 (f.r 11)) h28)))) := sub_eq pok133 ct133 (by kernel_rfl)
theorem at129 : prog.funcs[129]? = some f129 := by kernel_rfl
theorem body129 : f129.body = some (codeOf f129) := by kernel_rfl
def pl129 : Plans := [(7, true, .take 0 (.take 1 (.take 2 (.take 3 (.take 4 (.take 5 (.take 6 (.take 7 (.take 8 (.take 9 (.take 10 (.take 11 (.fin)))))))))))))]
def ct129 : Cuts := .bin (.go) (.bin (.go) (.bin (.go) (.bin (.bin (.go) (.un (.un (.bin (.go) (.bin (.un (.bin (.bin (.go) (.cut (.go))) (.cut (.bin (.go) (.cut (.go)))))) (.go)))))) (.go))))
theorem pok129 : plansOk prog pl129 (codeOf f129) = true := by kernel_rfl
theorem e129 {a0 a1 : Value} : W prog J 54 h.length 129 (codeOf f129) (RG.mk (regs [a0, a1]) []) h (RetQ prog [.tmp 4] h.length K) =
(aBox a0 h fun v1 h2 =>
 aLenStr a1 fun v3 =>
 aOff v1 0 fun v4 =>
 aLoad false 1 v4 h2 fun v5 =>
 aBin prog .neq 3 v3 v5 fun v6 =>
 cnd v6
(retL h.length K [] [(Value.bool false)] h2)
(Sem J 54 h.length 129 (subC [1, 1, 1, 0, 1, 0] (codeOf f129)) (RG.p (RG.p (RG.p (RG.p (RG.p (RG.p (RG.p (RG.p (RG.p (RG.mk (regs [a0, a1]) []) 2 v1) 4 (Value.bool false)) 7 a1) 8 v3) 9 v4) 10 v5) 11 v6) 5 (vint 0)) 6 (vint 0)) h2 (contX pl129 prog J 54 h.length 129 ct129 [1, 1, 1, 0, 1, 0] (codeOf f129) [] (RetQ prog [.tmp 4] h.length K)))) := top_eq pok129 ct129 (by kernel_rfl)
theorem g129 (hJ : Closed prog main J) {a0 a1 : Value} (hs : heapOk h → W prog J 54 h.length 129 (codeOf f129) (RG.mk (regs [a0, a1]) []) h (RetQ prog [.tmp 4] h.length K)) : Good prog J 129 [a0, a1] h K :=
 good_of_W hJ mixed at129 body129 (by kernel_rfl) (Nat.le_of_ble_eq_true rfl) hs
theorem s129_1 {f : RG} {nx0 : RG → List AObj → Prop} : W prog J 54 n0 129 (subC [1, 1, 1, 0, 1, 0, 0] (codeOf f129)) f h (thenK nx0 (contX pl129 prog J 54 n0 129 ct129 [1, 1, 1, 0, 1, 0] (codeOf f129) [] (RetQ prog [.tmp 4] n0 K))) =
(aLenStr (f.r 1) fun v1 =>
 aBin prog .lss 3 (f.r 6) v1 fun v2 =>
 cnd v2
(aBin prog .gtr 3 (f.r 6) (vint 0) fun v3 =>
 cnd v3
(aIdxStr (f.r 1) (f.r 6) fun v4 =>
 aBin prog .sub 3 (f.r 6) (vint 1) fun v5 =>
 aIdxStr (f.r 1) v5 fun v6 =>
 aBin prog .eql 5 v4 v6 fun v7 =>
 Hold (W prog J 54 n0 129 (subC [1, 1, 1, 0, 1, 0, 0, 1, 0, 0, 0, 1] (codeOf f129)) (RG.p (RG.p (RG.p (RG.p (RG.p (RG.p (RG.p (RG.p (RG.p (RG.p (RG.p (RG.p (RG.p (RG.p (RG.p (RG.p (RG.p f 12 (f.r 6)) 13 (f.r 1)) 14 v1) 15 v2) 18 (f.r 6)) 19 v3) 20 v3) 20 (Value.bool true)) 21 (f.r 1)) 22 (f.r 6)) 23 v4) 24 (f.r 1)) 25 (f.r 6)) 26 v5) 27 v6) 28 v7) 29 v7) h (contX pl129 prog J 54 n0 129 ct129 [1, 1, 1, 0, 1, 0, 0, 1, 0, 0, 0, 1] (codeOf f129) [nx0] (RetQ prog [.tmp 4] n0 K))))
(Hold (W prog J 54 n0 129 (subC [1, 1, 1, 0, 1, 0, 0, 1, 0, 0, 0, 1] (codeOf f129)) (RG.p (RG.p (RG.p (RG.p (RG.p (RG.p (RG.p (RG.p (RG.p (RG.p (RG.p (RG.p (RG.p (RG.p (RG.p (RG.p (RG.p f 12 (f.r 6)) 13 (f.r 1)) 14 v1) 15 v2) 18 (f.r 6)) 19 v3) 20 v3) 20 (Value.bool false)) 21 undef) 22 undef) 23 undef) 24 undef) 25 undef) 26 undef) 27 undef) 28 undef) 29 (Value.bool false)) h (contX pl129 prog J 54 n0 129 ct129 [1, 1, 1, 0, 1, 0, 0, 1, 0, 0, 0, 1] (codeOf f129) [nx0] (RetQ prog [.tmp 4] n0 K)))))
(retL n0 K f.ds [(Value.bool true)] h)) := sub_eq pok129 ct129 (by kernel_rfl)
theorem l129_1 (hJ : Closed prog main J) {S : Type} (μ : S → Nat) (I : S → RG → List AObj → Prop) (hI : ∀ s f h, I s f h → heapOk h → n0 ≤ h.length → W prog J 54 n0 129 (subC [1, 1, 1, 0, 1, 0, 0] (codeOf f129)) f h (thenK (Nx n0 μ I s) (contX pl129 prog J 54 n0 129 ct129 [1, 1, 1, 0, 1, 0] (codeOf f129) [] (RetQ prog [.tmp 4] n0 K))))
 {s : S} {f : RG} (hi : Gets n0 I s f h) : Sem J 54 n0 129 (subC [1, 1, 1, 0, 1, 0] (codeOf f129)) f h (contX pl129 prog J 54 n0 129 ct129 [1, 1, 1, 0, 1, 0] (codeOf f129) [] (RetQ prog [.tmp 4] n0 K)) :=
 loop_rule hJ mixed (b := subC [1, 1, 1, 0, 1, 0, 0] (codeOf f129)) (by kernel_rfl) μ I hI hi
theorem s129_2 {f : RG} {nx0 : RG → List AObj → Prop} : W prog J 54 n0 129 (subC [1, 1, 1, 0, 1, 0, 0, 1, 0, 0, 0, 1] (codeOf f129)) f h (contX pl129 prog J 54 n0 129 ct129 [1, 1, 1, 0, 1, 0, 0, 1, 0, 0, 0, 1] (codeOf f129) [nx0] (RetQ prog [.tmp 4] n0 K)) =
(cnd (f.r 29)
(aBin prog .add 3 (f.r 5) (vint 1) fun v1 =>
 Hold (W prog J 54 n0 129 (subC [1, 1, 1, 0, 1, 0, 0, 1, 0, 0, 1] (codeOf f129)) (RG.p (RG.p (RG.p f 30 (f.r 5)) 31 v1) 5 v1) h (contX pl129 prog J 54 n0 129 ct129 [1, 1, 1, 0, 1, 0, 0, 1, 0, 0, 1] (codeOf f129) [nx0] (RetQ prog [.tmp 4] n0 K))))
(Hold (W prog J 54 n0 129 (subC [1, 1, 1, 0, 1, 0, 0, 1, 0, 0, 1] (codeOf f129)) (RG.p f 5 (vint 1)) h (contX pl129 prog J 54 n0 129 ct129 [1, 1, 1, 0, 1, 0, 0, 1, 0, 0, 1] (codeOf f129) [nx0] (RetQ prog [.tmp 4] n0 K))))) := sub_eq pok129 ct129 (by kernel_rfl)
theorem s129_3 {f : RG} {nx0 : RG → List AObj → Prop} : W prog J 54 n0 129 (subC [1, 1, 1, 0, 1, 0, 0, 1, 0, 0, 1] (codeOf f129)) f h (contX pl129 prog J 54 n0 129 ct129 [1, 1, 1, 0, 1, 0, 0, 1, 0, 0, 1] (codeOf f129) [nx0] (RetQ prog [.tmp 4] n0 K)) =
(aIdxStr (f.r 1) (f.r 6) fun v1 =>
 aBin prog .eql 5 v1 (Value.int .u8 100) fun v2 =>
 cnd v2
(aOff (f.r 2) 1 fun v3 =>
 aLoad false 1 v3 h fun v4 =>
 aBin prog .gtr 3 (f.r 5) v4 fun v5 =>
 cnd v5
(Hold (W prog J 54 n0 129 (subC [1, 1, 1, 0, 1, 0, 0, 1, 0, 0, 1, 1] (codeOf f129)) (RG.p (RG.p (RG.p (RG.p (RG.p (RG.p (RG.p (RG.p (RG.p (RG.p (RG.p (RG.p (RG.p (RG.p (RG.p (RG.p (RG.p (RG.p (RG.p (RG.p (RG.p (RG.p (RG.p (RG.p f 32 (f.r 1)) 33 (f.r 6)) 34 v1) 35 v2) 36 v2) 36 (Value.bool true)) 37 (f.r 5)) 38 v3) 39 v4) 40 v5) 41 v5) 42 v5) 42 (Value.bool true)) 43 undef) 44 undef) 45 undef) 46 undef) 47 undef) 48 undef) 49 undef) 50 undef) 51 undef) 52 undef) 53 (Value.bool true)) h (contX pl129 prog J 54 n0 129 ct129 [1, 1, 1, 0, 1, 0, 0, 1, 0, 0, 1, 1] (codeOf f129) [nx0] (RetQ prog [.tmp 4] n0 K))))
(aIdxStr (f.r 1) (f.r 6) fun v6 =>
 aBin prog .eql 5 v6 (Value.int .u8 119) fun v7 =>
 cnd v7
(aOff (f.r 2) 2 fun v8 =>
 aLoad false 1 v8 h fun v9 =>
 aBin prog .gtr 3 (f.r 5) v9 fun v10 =>
 Hold (W prog J 54 n0 129 (subC [1, 1, 1, 0, 1, 0, 0, 1, 0, 0, 1, 1] (codeOf f129)) (RG.p (RG.p (RG.p (RG.p (RG.p (RG.p (RG.p (RG.p (RG.p (RG.p (RG.p (RG.p (RG.p (RG.p (RG.p (RG.p (RG.p (RG.p (RG.p (RG.p (RG.p (RG.p (RG.p (RG.p (RG.p f 32 (f.r 1)) 33 (f.r 6)) 34 v1) 35 v2) 36 v2) 36 (Value.bool true)) 37 (f.r 5)) 38 v3) 39 v4) 40 v5) 41 v5) 42 v5) 42 (Value.bool false)) 43 (f.r 1)) 44 (f.r 6)) 45 v6) 46 v7) 47 v7) 47 (Value.bool true)) 48 (f.r 5)) 49 v8) 50 v9) 51 v10) 52 v10) 53 v10) h (contX pl129 prog J 54 n0 129 ct129 [1, 1, 1, 0, 1, 0, 0, 1, 0, 0, 1, 1] (codeOf f129) [nx0] (RetQ prog [.tmp 4] n0 K))))
(Hold (W prog J 54 n0 129 (subC [1, 1, 1, 0, 1, 0, 0, 1, 0, 0, 1, 1] (codeOf f129)) (RG.p (RG.p (RG.p (RG.p (RG.p (RG.p (RG.p (RG.p (RG.p (RG.p (RG.p (RG.p (RG.p (RG.p (RG.p (RG.p (RG.p (RG.p (RG.p (RG.p (RG.p (RG.p (RG.p (RG.p (RG.p f 32 (f.r 1)) 33 (f.r 6)) 34 v1) 35 v2) 36 v2) 36 (Value.bool true)) 37 (f.r 5)) 38 v3) 39 v4) 40 v5) 41 v5) 42 v5) 42 (Value.bool false)) 43 (f.r 1)) 44 (f.r 6)) 45 v6) 46 v7) 47 v7) 47 (Value.bool false)) 48 undef) 49 undef) 50 undef) 51 undef) 52 (Value.bool false)) 53 (Value.bool false)) h (contX pl129 prog J 54 n0 129 ct129 [1, 1, 1, 0, 1, 0, 0, 1, 0, 0, 1, 1] (codeOf f129) [nx0] (RetQ prog [.tmp 4] n0 K))))))
(aIdxStr (f.r 1) (f.r 6) fun v11 =>
 aBin prog .eql 5 v11 (Value.int .u8 119) fun v12 =>
 cnd v12
(aOff (f.r 2) 2 fun v13 =>
 aLoad false 1 v13 h fun v14 =>
 aBin prog .gtr 3 (f.r 5) v14 fun v15 =>
 Hold (W prog J 54 n0 129 (subC [1, 1, 1, 0, 1, 0, 0, 1, 0, 0, 1, 1] (codeOf f129)) (RG.p (RG.p (RG.p (RG.p (RG.p (RG.p (RG.p (RG.p (RG.p (RG.p (RG.p (RG.p (RG.p (RG.p (RG.p (RG.p (RG.p (RG.p (RG.p (RG.p (RG.p (RG.p (RG.p (RG.p (RG.p f 32 (f.r 1)) 33 (f.r 6)) 34 v1) 35 v2) 36 v2) 36 (Value.bool false)) 37 undef) 38 undef) 39 undef) 40 undef) 41 (Value.bool false)) 42 (Value.bool false)) 42 (Value.bool false)) 43 (f.r 1)) 44 (f.r 6)) 45 v11) 46 v12) 47 v12) 47 (Value.bool true)) 48 (f.r 5)) 49 v13) 50 v14) 51 v15) 52 v15) 53 v15) h (contX pl129 prog J 54 n0 129 ct129 [1, 1, 1, 0, 1, 0, 0, 1, 0, 0, 1, 1] (codeOf f129) [nx0] (RetQ prog [.tmp 4] n0 K))))
(Hold (W prog J 54 n0 129 (subC [1, 1, 1, 0, 1, 0, 0, 1, 0, 0, 1, 1] (codeOf f129)) (RG.p (RG.p (RG.p (RG.p (RG.p (RG.p (RG.p (RG.p (RG.p (RG.p (RG.p (RG.p (RG.p (RG.p (RG.p (RG.p (RG.p (RG.p (RG.p (RG.p (RG.p (RG.p (RG.p (RG.p (RG.p f 32 (f.r 1)) 33 (f.r 6)) 34 v1) 35 v2) 36 v2) 36 (Value.bool false)) 37 undef) 38 undef) 39 undef) 40 undef) 41 (Value.bool false)) 42 (Value.bool false)) 42 (Value.bool false)) 43 (f.r 1)) 44 (f.r 6)) 45 v11) 46 v12) 47 v12) 47 (Value.bool false)) 48 undef) 49 undef) 50 undef) 51 undef) 52 (Value.bool false)) 53 (Value.bool false)) h (contX pl129 prog J 54 n0 129 ct129 [1, 1, 1, 0, 1, 0, 0, 1, 0, 0, 1, 1] (codeOf f129) [nx0] (RetQ prog [.tmp 4] n0 K)))))) := sub_eq pok129 ct129 (by kernel_rfl)
theorem s129_4 {f : RG} {nx0 : RG → List AObj → Prop} : W prog J 54 n0 129 (subC [1, 1, 1, 0, 1, 0, 0, 1, 0, 0, 1, 1] (codeOf f129)) f h (contX pl129 prog J 54 n0 129 ct129 [1, 1, 1, 0, 1, 0, 0, 1, 0, 0, 1, 1] (codeOf f129) [nx0] (RetQ prog [.tmp 4] n0 K)) =
(cnd (f.r 53)
(retL n0 K f.ds [(Value.bool false)] h)
(aBin prog .add 3 (f.r 6) (vint 1) fun v1 =>
 nx0 (RG.p (RG.p (RG.p f 16 (f.r 6)) 17 v1) 6 v1) h)) := sub_eq pok129 ct129 (by kernel_rfl)
theorem at39 : prog.funcs[39]? = some f39 := by kernel_rfl
theorem body39 : f39.body = some (codeOf f39) := by kernel_rfl
def pl39 : Plans := []
def ct39 : Cuts := .go
theorem pok39 : plansOk prog pl39 (codeOf f39) = true := by kernel_rfl
theorem e39 {a0 : Value} : W prog J 42 h.length 39 (codeOf f39) (RG.mk (regs [a0]) []) h (RetQ prog [.tmp 2] h.length K) =
(aBin prog .eql 3 a0 (vint 0) fun v1 =>
 cnd v1
((((1 * 1 : Nat) ≤ 16777216 ∧ (1 : Nat) ≤ 16777216 ∧ List.length [(Value.string { data := #[] })] = 1) ∧ aFill (zrep [(Value.string { data := #[] })] 1) [(0, 1, (Value.string { data := #[] }))] fun c2 =>
 aNewS 1 c2 h fun v3 h4 =>
 retL h.length K [] [v3] h4))
(aBin prog .sub 3 a0 (vint 1) fun v5 =>
 Good prog J 39 [v5] h fun v6 h7 =>
 Sem J 42 h.length 39 (subC [1, 1, 1, 1, 0, 1, 0] (codeOf f39)) (RG.p (RG.p (RG.p (RG.p (RG.p (RG.p (RG.p (RG.p (RG.p (RG.mk (regs [a0]) []) 2 (Value.slice none 0 0)) 7 a0) 8 v1) 3 (Value.slice none 0 0)) 10 a0) 11 v5) 12 v6) 4 v6) 5 (vint 0)) h7 (contX pl39 prog J 42 h.length 39 ct39 [1, 1, 1, 1, 0, 1, 0] (codeOf f39) [] (RetQ prog [.tmp 2] h.length K)))) := top_eq pok39 ct39 (by kernel_rfl)
theorem g39 (hJ : Closed prog main J) {a0 : Value} (hs : heapOk h → W prog J 42 h.length 39 (codeOf f39) (RG.mk (regs [a0]) []) h (RetQ prog [.tmp 2] h.length K)) : Good prog J 39 [a0] h K :=
 good_of_W hJ mixed at39 body39 (by kernel_rfl) (Nat.le_of_ble_eq_true rfl) hs
theorem s39_1 {f : RG} {nx0 : RG → List AObj → Prop} : W prog J 42 n0 39 (subC [1, 1, 1, 1, 0, 1, 0, 0] (codeOf f39)) f h (thenK nx0 (contX pl39 prog J 42 n0 39 ct39 [1, 1, 1, 1, 0, 1, 0] (codeOf f39) [] (RetQ prog [.tmp 2] n0 K))) =
(aLenS (f.r 4) fun v1 =>
 aBin prog .lss 3 (f.r 5) v1 fun v2 =>
 cnd v2
(aIdx 1 (f.r 4) (f.r 5) fun v3 =>
 aLoad false 1 v3 h fun v4 =>
 aBin prog .add 9 (Value.string { data := #[100] }) v4 fun v5 =>
(((1 * 1 : Nat) ≤ 16777216 ∧ (1 : Nat) ≤ 16777216 ∧ List.length [(Value.string { data := #[] })] = 1) ∧ aFill (zrep [(Value.string { data := #[] })] 1) [(0, 1, v5)] fun c6 =>
 aNewS 1 c6 h fun v7 h8 =>
((List.length [(Value.string { data := #[] })] = 1 ∧ 0 < (1 : Nat) ∧ 0 < (16 : Nat) ∧ (16 : Nat) ≤ 1024) ∧ aApp 1 (f.r 3) v7 h8 fun v9 h10 =>
 aBin prog .add 3 (f.r 5) (vint 1) fun v11 =>
 nx0 (RG.p (RG.p (RG.p (RG.p (RG.p (RG.p (RG.p (RG.p (RG.p (RG.p (RG.p (RG.p (RG.p (RG.p (RG.p (RG.p f 13 (f.r 5)) 14 (f.r 4)) 15 v1) 16 v2) 19 (f.r 3)) 20 (f.r 4)) 21 (f.r 5)) 22 v3) 23 v4) 24 v5) 25 v7) 26 v9) 3 v9) 17 (f.r 5)) 18 v11) 5 v11) h10)))
(Sem J 42 n0 39 (subC [1, 1, 1, 1, 1, 0, 1, 0] (codeOf f39)) (RG.p (RG.p (RG.p (RG.p (RG.p f 13 (f.r 5)) 14 (f.r 4)) 15 v1) 16 v2) 6 (vint 0)) h (contX pl39 prog J 42 n0 39 ct39 [1, 1, 1, 1, 1, 0, 1, 0] (codeOf f39) [] (RetQ prog [.tmp 2] n0 K)))) := sub_eq pok39 ct39 (by kernel_rfl)
theorem l39_1 (hJ : Closed prog main J) {S : Type} (μ : S → Nat) (I : S → RG → List AObj → Prop) (hI : ∀ s f h, I s f h → heapOk h → n0 ≤ h.length → W prog J 42 n0 39 (subC [1, 1, 1, 1, 0, 1, 0, 0] (codeOf f39)) f h (thenK (Nx n0 μ I s) (contX pl39 prog J 42 n0 39 ct39 [1, 1, 1, 1, 0, 1, 0] (codeOf f39) [] (RetQ prog [.tmp 2] n0 K))))
 {s : S} {f : RG} (hi : Gets n0 I s f h) : Sem J 42 n0 39 (subC [1, 1, 1, 1, 0, 1, 0] (codeOf f39)) f h (contX pl39 prog J 42 n0 39 ct39 [1, 1, 1, 1, 0, 1, 0] (codeOf f39) [] (RetQ prog [.tmp 2] n0 K)) :=
 loop_rule hJ mixed (b := subC [1, 1, 1, 1, 0, 1, 0, 0] (codeOf f39)) (by kernel_rfl) μ I hI hi
theorem s39_2 {f : RG} {nx0 : RG → List AObj → Prop} : W prog J 42 n0 39 (subC [1, 1, 1, 1, 1, 0, 1, 0, 0] (codeOf f39)) f h (thenK nx0 (contX pl39 prog J 42 n0 39 ct39 [1, 1, 1, 1, 1, 0, 1, 0] (codeOf f39) [] (RetQ prog [.tmp 2] n0 K))) =
(aLenS (f.r 4) fun v1 =>
 aBin prog .lss 3 (f.r 6) v1 fun v2 =>
 cnd v2
(aIdx 1 (f.r 4) (f.r 6) fun v3 =>
 aLoad false 1 v3 h fun v4 =>
 aBin prog .add 9 (Value.string { data := #[119] }) v4 fun v5 =>
(((1 * 1 : Nat) ≤ 16777216 ∧ (1 : Nat) ≤ 16777216 ∧ List.length [(Value.string { data := #[] })] = 1) ∧ aFill (zrep [(Value.string { data := #[] })] 1) [(0, 1, v5)] fun c6 =>
 aNewS 1 c6 h fun v7 h8 =>
((List.length [(Value.string { data := #[] })] = 1 ∧ 0 < (1 : Nat) ∧ 0 < (16 : Nat) ∧ (16 : Nat) ≤ 1024) ∧ aApp 1 (f.r 3) v7 h8 fun v9 h10 =>
 aBin prog .add 3 (f.r 6) (vint 1) fun v11 =>
 nx0 (RG.p (RG.p (RG.p (RG.p (RG.p (RG.p (RG.p (RG.p (RG.p (RG.p (RG.p (RG.p (RG.p (RG.p (RG.p (RG.p f 27 (f.r 6)) 28 (f.r 4)) 29 v1) 30 v2) 33 (f.r 3)) 34 (f.r 4)) 35 (f.r 6)) 36 v3) 37 v4) 38 v5) 39 v7) 40 v9) 3 v9) 31 (f.r 6)) 32 v11) 6 v11) h10)))
(retL n0 K f.ds [(f.r 3)] h)) := sub_eq pok39 ct39 (by kernel_rfl)
theorem l39_2 (hJ : Closed prog main J) {S : Type} (μ : S → Nat) (I : S → RG → List AObj → Prop) (hI : ∀ s f h, I s f h → heapOk h → n0 ≤ h.length → W prog J 42 n0 39 (subC [1, 1, 1, 1, 1, 0, 1, 0, 0] (codeOf f39)) f h (thenK (Nx n0 μ I s) (contX pl39 prog J 42 n0 39 ct39 [1, 1, 1, 1, 1, 0, 1, 0] (codeOf f39) [] (RetQ prog [.tmp 2] n0 K))))
 {s : S} {f : RG} (hi : Gets n0 I s f h) : Sem J 42 n0 39 (subC [1, 1, 1, 1, 1, 0, 1, 0] (codeOf f39)) f h (contX pl39 prog J 42 n0 39 ct39 [1, 1, 1, 1, 1, 0, 1, 0] (codeOf f39) [] (RetQ prog [.tmp 2] n0 K)) :=
 loop_rule hJ mixed (b := subC [1, 1, 1, 1, 1, 0, 1, 0, 0] (codeOf f39)) (by kernel_rfl) μ I hI hi
theorem at91 : prog.funcs[91]? = some f91 := by kernel_rfl
theorem body91 : f91.body = some (codeOf f91) := by kernel_rfl
def pl91 : Plans := [(6, true, .take 0 (.take 1 (.take 2 (.take 3 (.take 4 (.last 5 false (.fin)))))))]
def ct91 : Cuts := .go
theorem pok91 : plansOk prog pl91 (codeOf f91) = true := by kernel_rfl
theorem e91 {a0 : Value} : W prog J 29 h.length 91 (codeOf f91) (RG.mk (regs [a0]) []) h (RetQ prog [.tmp 2] h.length K) =
(aBox a0 h fun v1 h2 =>
 aOff v1 0 fun v3 =>
 aLoad false 1 v3 h2 fun v4 =>
 Good prog J 39 [v4] h2 fun v5 h6 =>
 Sem J 29 h.length 91 (subC [1, 1, 1, 0, 1, 0] (codeOf f91)) (RG.p (RG.p (RG.p (RG.p (RG.p (RG.p (RG.p (RG.p (RG.mk (regs [a0]) []) 1 v1) 2 (Value.slice none 0 0)) 3 (Value.slice none 0 0)) 6 v3) 7 v4) 8 v5) 4 v5) 5 (vint 0)) h6 (contX pl91 prog J 29 h.length 91 ct91 [1, 1, 1, 0, 1, 0] (codeOf f91) [] (RetQ prog [.tmp 2] h.length K))) := top_eq pok91 ct91 (by kernel_rfl)
theorem g91 (hJ : Closed prog main J) {a0 : Value} (hs : heapOk h → W prog J 29 h.length 91 (codeOf f91) (RG.mk (regs [a0]) []) h (RetQ prog [.tmp 2] h.length K)) : Good prog J 91 [a0] h K :=
 good_of_W hJ mixed at91 body91 (by kernel_rfl) (Nat.le_of_ble_eq_true rfl) hs
theorem s91_1 {f : RG} {nx0 : RG → List AObj → Prop} : W prog J 29 n0 91 (subC [1, 1, 1, 0, 1, 0, 0] (codeOf f91)) f h (thenK nx0 (contX pl91 prog J 29 n0 91 ct91 [1, 1, 1, 0, 1, 0] (codeOf f91) [] (RetQ prog [.tmp 2] n0 K))) =
(aLenS (f.r 4) fun v1 =>
 aBin prog .lss 3 (f.r 5) v1 fun v2 =>
 cnd v2
(aLoad true 3 (f.r 1) h fun v3 =>
 aIdx 1 (f.r 4) (f.r 5) fun v4 =>
 aLoad false 1 v4 h fun v5 =>
 Good prog J 129 [v3, v5] h fun v6 h7 =>
 cnd v6
(aIdx 1 (f.r 4) (f.r 5) fun v8 =>
 aLoad false 1 v8 h7 fun v9 =>
(((1 * 1 : Nat) ≤ 16777216 ∧ (1 : Nat) ≤ 16777216 ∧ List.length [(Value.string { data := #[] })] = 1) ∧ aFill (zrep [(Value.string { data := #[] })] 1) [(0, 1, v9)] fun c10 =>
 aNewS 1 c10 h7 fun v11 h12 =>
((List.length [(Value.string { data := #[] })] = 1 ∧ 0 < (1 : Nat) ∧ 0 < (16 : Nat) ∧ (16 : Nat) ≤ 1024) ∧ aApp 1 (f.r 3) v11 h12 fun v13 h14 =>
 aBin prog .add 3 (f.r 5) (vint 1) fun v15 =>
 nx0 (RG.p (RG.p (RG.p (RG.p (RG.p (RG.p (RG.p (RG.p (RG.p (RG.p (RG.p (RG.p (RG.p (RG.p (RG.p (RG.p (RG.p (RG.p (RG.p (RG.p (RG.p f 9 (f.r 5)) 10 (f.r 4)) 11 v1) 12 v2) 15 v3) 16 (f.r 4)) 17 (f.r 5)) 18 v4) 19 v5) 20 v6) 21 (f.r 3)) 22 (f.r 4)) 23 (f.r 5)) 24 v8) 25 v9) 26 v11) 27 v13) 3 v13) 13 (f.r 5)) 14 v15) 5 v15) h14)))
(aBin prog .add 3 (f.r 5) (vint 1) fun v16 =>
 nx0 (RG.p (RG.p (RG.p (RG.p (RG.p (RG.p (RG.p (RG.p (RG.p (RG.p (RG.p (RG.p (RG.p f 9 (f.r 5)) 10 (f.r 4)) 11 v1) 12 v2) 15 v3) 16 (f.r 4)) 17 (f.r 5)) 18 v4) 19 v5) 20 v6) 13 (f.r 5)) 14 v16) 5 v16) h7))
(retL n0 K f.ds [(f.r 3)] h)) := sub_eq pok91 ct91 (by kernel_rfl)
theorem l91_1 (hJ : Closed prog main J) {S : Type} (μ : S → Nat) (I : S → RG → List AObj → Prop) (hI : ∀ s f h, I s f h → heapOk h → n0 ≤ h.length → W prog J 29 n0 91 (subC [1, 1, 1, 0, 1, 0, 0] (codeOf f91)) f h (thenK (Nx n0 μ I s) (contX pl91 prog J 29 n0 91 ct91 [1, 1, 1, 0, 1, 0] (codeOf f91) [] (RetQ prog [.tmp 2] n0 K))))
 {s : S} {f : RG} (hi : Gets n0 I s f h) : Sem J 29 n0 91 (subC [1, 1, 1, 0, 1, 0] (codeOf f91)) f h (contX pl91 prog J 29 n0 91 ct91 [1, 1, 1, 0, 1, 0] (codeOf f91) [] (RetQ prog [.tmp 2] n0 K)) :=
 loop_rule hJ mixed (b := subC [1, 1, 1, 0, 1, 0, 0] (codeOf f91)) (by kernel_rfl) μ I hI hi
theorem at97 : prog.funcs[97]? = some f97 := by kernel_rfl
theorem body97 : f97.body = some (codeOf f97) := by kernel_rfl
def pl97 : Plans := [(6, false, .take 0 (.take 1 (.take 2 (.take 3 (.take 4 (.take 5 (.take 6 (.take 7 (.take 8 (.take 9 (.alt 10 false (.take 11 (.take 12 (.take 13 (.take 14 (.last 15 true (.last 16 false (.take 17 (.take 18 (.fin))))))))) (.last 15 true (.last 10 false (.take 11 (.take 12 (.take 13 (.take 14 (.last 16 false (.take 17 (.take 18 (.fin)))))))))))))))))))))]
def ct97 : Cuts := .bin (.go) (.bin (.go) (.bin (.go) (.bin (.bin (.go) (.un (.un (.bin (.go) (.bin (.un (.bin (.go) (.cut (.bin (.go) (.bin (.go) (.bin (.go) (.cut (.go)))))))) (.go)))))) (.go))))
theorem pok97 : plansOk prog pl97 (codeOf f97) = true := by kernel_rfl
theorem e97 {a0 a1 a2 : Value} : W prog J 60 h.length 97 (codeOf f97) (RG.mk (regs [a0, a1, a2]) []) h (RetQ prog [.tmp 6, .tmp 7, .tmp 8] h.length K) =
(aBox a0 h fun v1 h2 =>
 aOff v1 0 fun v3 =>
 aLoad false 1 v3 h2 fun v4 =>
 aFill [(vint 0), (vint 0)] [(0, 1, v4), (1, 1, (vint 0))] fun c5 =>
 aAlloc [(vint 0), (vint 0)] h2 fun v6 h7 =>
 aStore 2 v6 (Value.agg ⟨c5⟩) h7 fun h8 =>
 Sem J 60 h.length 97 (subC [1, 1, 1, 0, 1, 0] (codeOf f97)) (RG.p (RG.p (RG.p (RG.p (RG.p (RG.p (RG.p (RG.p (RG.p (RG.p (RG.p (RG.p (RG.mk (regs [a0, a1, a2]) []) 3 v1) 6 (Value.slice none 0 0)) 7 (Value.slice none 0 0)) 8 (Value.slice none 0 0)) 9 (Value.slice none 0 0)) 10 (Value.slice none 0 0)) 11 (Value.slice none 0 0)) 17 v3) 18 v4) 19 (Value.agg ⟨c5⟩)) 12 v6) 13 (vint 0)) h8 (contX pl97 prog J 60 h.length 97 ct97 [1, 1, 1, 0, 1, 0] (codeOf f97) [] (RetQ prog [.tmp 6, .tmp 7, .tmp 8] h.length K))) := top_eq pok97 ct97 (by kernel_rfl)
theorem g97 (hJ : Closed prog main J) {a0 a1 a2 : Value} (hs : heapOk h → W prog J 60 h.length 97 (codeOf f97) (RG.mk (regs [a0, a1, a2]) []) h (RetQ prog [.tmp 6, .tmp 7, .tmp 8] h.length K)) : Good prog J 97 [a0, a1, a2] h K :=
 good_of_W hJ mixed at97 body97 (by kernel_rfl) (Nat.le_of_ble_eq_true rfl) hs
theorem s97_1 {f : RG} {nx0 : RG → List AObj → Prop} : W prog J 60 n0 97 (subC [1, 1, 1, 0, 1, 0, 0] (codeOf f97)) f h (thenK nx0 (contX pl97 prog J 60 n0 97 ct97 [1, 1, 1, 0, 1, 0] (codeOf f97) [] (RetQ prog [.tmp 6, .tmp 7, .tmp 8] n0 K))) =
(aLenStr (f.r 2) fun v1 =>
 aBin prog .lss 3 (f.r 13) v1 fun v2 =>
 cnd v2
((∃ B, aLoad true 6 (f.r 3) h fun v3 =>
 RdOk (some B) (ptrBlk (f.r 3)) ∧ (aLoad true 2 (f.r 12) h fun v4 =>
 RdOk (some B) (ptrBlk (f.r 12)) ∧ (aIdx 1 (f.r 1) (f.r 13) fun v5 =>
 aLoad false 1 v5 h fun v6 =>
 RdOk (some B) (ptrBlk v5) ∧ (aIdxStr (f.r 2) (f.r 13) fun v7 =>
 aBin prog .eql 5 v7 (Value.int .u8 119) fun v8 =>
(Good prog J 133 [v3, v4, v6, v8] h fun v9 h10 =>
 aExt v9 0 fun v11 =>
 aExt v9 1 fun v12 =>
 aExt v9 2 fun v13 =>
 aAlloc [(vint 0), (vint 0)] h10 fun v14 h15 =>
 SameB (some B) h h15 ∧ (aStore 2 v14 v11 h15 fun h16 =>
 Hold (W prog J 60 n0 97 (subC [1, 1, 1, 0, 1, 0, 0, 1, 0, 0, 1] (codeOf f97)) (RG.p (RG.p (RG.p (RG.p (RG.p (RG.p (RG.p (RG.p (RG.p (RG.p (RG.p (RG.p (RG.p (RG.p (RG.p (RG.p (RG.p (RG.p (RG.p (RG.p (RG.p (RG.p f 20 (f.r 13)) 21 (f.r 2)) 22 v1) 23 v2) 27 v3) 28 v4) 29 (f.r 1)) 30 (f.r 13)) 31 v5) 32 v6) 33 (f.r 2)) 34 (f.r 13)) 35 v7) 36 v8) 37 v9) 26 v9) 38 v11) 39 v12) 40 v13) 14 v14) 15 v12) 16 v13) h16 (contX pl97 prog J 60 n0 97 ct97 [1, 1, 1, 0, 1, 0, 0, 1, 0, 0, 1] (codeOf f97) [nx0] (RetQ prog [.tmp 6, .tmp 7, .tmp 8] n0 K))))) ∧ (aAlloc [(vint 0), (vint 0)] h fun v17 h18 =>
 SameB (some B) h h18 ∧ (Good prog J 133 [v3, v4, v6, v8] h18 fun v19 h20 =>
 aExt v19 0 fun v21 =>
 aExt v19 1 fun v22 =>
 aExt v19 2 fun v23 =>
 aStore 2 v17 v21 h20 fun h24 =>
 Hold (W prog J 60 n0 97 (subC [1, 1, 1, 0, 1, 0, 0, 1, 0, 0, 1] (codeOf f97)) (RG.p (RG.p (RG.p (RG.p (RG.p (RG.p (RG.p (RG.p (RG.p (RG.p (RG.p (RG.p (RG.p (RG.p (RG.p (RG.p (RG.p (RG.p (RG.p (RG.p (RG.p (RG.p f 20 (f.r 13)) 21 (f.r 2)) 22 v1) 23 v2) 27 v3) 28 v4) 29 (f.r 1)) 30 (f.r 13)) 31 v5) 32 v6) 33 (f.r 2)) 34 (f.r 13)) 35 v7) 36 v8) 14 v17) 37 v19) 26 v19) 38 v21) 39 v22) 40 v23) 15 v22) 16 v23) h24 (contX pl97 prog J 60 n0 97 ct97 [1, 1, 1, 0, 1, 0, 0, 1, 0, 0, 1] (codeOf f97) [nx0] (RetQ prog [.tmp 6, .tmp 7, .tmp 8] n0 K))))))))))
(retL n0 K f.ds [(f.r 9), (f.r 10), (f.r 11)] h)) := sub_eq pok97 ct97 (by kernel_rfl)
theorem l97_1 (hJ : Closed prog main J) {S : Type} (μ : S → Nat) (I : S → RG → List AObj → Prop) (hI : ∀ s f h, I s f h → heapOk h → n0 ≤ h.length → W prog J 60 n0 97 (subC [1, 1, 1, 0, 1, 0, 0] (codeOf f97)) f h (thenK (Nx n0 μ I s) (contX pl97 prog J 60 n0 97 ct97 [1, 1, 1, 0, 1, 0] (codeOf f97) [] (RetQ prog [.tmp 6, .tmp 7, .tmp 8] n0 K))))
 {s : S} {f : RG} (hi : Gets n0 I s f h) : Sem J 60 n0 97 (subC [1, 1, 1, 0, 1, 0] (codeOf f97)) f h (contX pl97 prog J 60 n0 97 ct97 [1, 1, 1, 0, 1, 0] (codeOf f97) [] (RetQ prog [.tmp 6, .tmp 7, .tmp 8] n0 K)) :=
 loop_rule hJ mixed (b := subC [1, 1, 1, 0, 1, 0, 0] (codeOf f97)) (by kernel_rfl) μ I hI hi
theorem s97_2 {f : RG} {nx0 : RG → List AObj → Prop} : W prog J 60 n0 97 (subC [1, 1, 1, 0, 1, 0, 0, 1, 0, 0, 1] (codeOf f97)) f h (contX pl97 prog J 60 n0 97 ct97 [1, 1, 1, 0, 1, 0, 0, 1, 0, 0, 1] (codeOf f97) [nx0] (RetQ prog [.tmp 6, .tmp 7, .tmp 8] n0 K)) =
(aLoad true 2 (f.r 14) h fun v1 =>
 aStore 2 (f.r 12) v1 h fun h2 =>
 aOff (f.r 12) 0 fun v3 =>
 aLoad false 1 v3 h2 fun v4 =>
(((1 * 1 : Nat) ≤ 16777216 ∧ (1 : Nat) ≤ 16777216 ∧ List.length [(vint 0)] = 1) ∧ aFill (zrep [(vint 0)] 1) [(0, 1, v4)] fun c5 =>
 aNewS 1 c5 h2 fun v6 h7 =>
((List.length [(vint 0)] = 1 ∧ 0 < (1 : Nat) ∧ 0 < (8 : Nat) ∧ (8 : Nat) ≤ 1024) ∧ aApp 1 (f.r 9) v6 h7 fun v8 h9 =>
 cnd (f.r 15)
((((1 * 1 : Nat) ≤ 16777216 ∧ (1 : Nat) ≤ 16777216 ∧ List.length [(vint 0)] = 1) ∧ aFill (zrep [(vint 0)] 1) [(0, 1, (f.r 13))] fun c10 =>
 aNewS 1 c10 h9 fun v11 h12 =>
((List.length [(vint 0)] = 1 ∧ 0 < (1 : Nat) ∧ 0 < (8 : Nat) ∧ (8 : Nat) ≤ 1024) ∧ aApp 1 (f.r 10) v11 h12 fun v13 h14 =>
 Hold (W prog J 60 n0 97 (subC [1, 1, 1, 0, 1, 0, 0, 1, 0, 0, 1, 1, 1, 1] (codeOf f97)) (RG.p (RG.p (RG.p (RG.p (RG.p (RG.p (RG.p (RG.p (RG.p (RG.p (RG.p (RG.p (RG.p f 41 v1) 42 (f.r 9)) 43 v3) 44 v4) 45 v6) 46 v8) 9 v8) 47 (f.r 15)) 48 (f.r 10)) 49 (f.r 13)) 50 v11) 51 v13) 10 v13) h14 (contX pl97 prog J 60 n0 97 ct97 [1, 1, 1, 0, 1, 0, 0, 1, 0, 0, 1, 1, 1, 1] (codeOf f97) [nx0] (RetQ prog [.tmp 6, .tmp 7, .tmp 8] n0 K))))))
(Hold (W prog J 60 n0 97 (subC [1, 1, 1, 0, 1, 0, 0, 1, 0, 0, 1, 1, 1, 1] (codeOf f97)) (RG.p (RG.p (RG.p (RG.p (RG.p (RG.p (RG.p (RG.p f 41 v1) 42 (f.r 9)) 43 v3) 44 v4) 45 v6) 46 v8) 9 v8) 47 (f.r 15)) h9 (contX pl97 prog J 60 n0 97 ct97 [1, 1, 1, 0, 1, 0, 0, 1, 0, 0, 1, 1, 1, 1] (codeOf f97) [nx0] (RetQ prog [.tmp 6, .tmp 7, .tmp 8] n0 K))))))) := sub_eq pok97 ct97 (by kernel_rfl)
theorem s97_3 {f : RG} {nx0 : RG → List AObj → Prop} : W prog J 60 n0 97 (subC [1, 1, 1, 0, 1, 0, 0, 1, 0, 0, 1, 1, 1, 1] (codeOf f97)) f h (contX pl97 prog J 60 n0 97 ct97 [1, 1, 1, 0, 1, 0, 0, 1, 0, 0, 1, 1, 1, 1] (codeOf f97) [nx0] (RetQ prog [.tmp 6, .tmp 7, .tmp 8] n0 K)) =
(cnd (f.r 16)
((((1 * 1 : Nat) ≤ 16777216 ∧ (1 : Nat) ≤ 16777216 ∧ List.length [(vint 0)] = 1) ∧ aFill (zrep [(vint 0)] 1) [(0, 1, (f.r 13))] fun c1 =>
 aNewS 1 c1 h fun v2 h3 =>
((List.length [(vint 0)] = 1 ∧ 0 < (1 : Nat) ∧ 0 < (8 : Nat) ∧ (8 : Nat) ≤ 1024) ∧ aApp 1 (f.r 11) v2 h3 fun v4 h5 =>
 aBin prog .add 3 (f.r 13) (vint 1) fun v6 =>
 nx0 (RG.p (RG.p (RG.p (RG.p (RG.p (RG.p (RG.p (RG.p (RG.p f 52 (f.r 16)) 53 (f.r 11)) 54 (f.r 13)) 55 v2) 56 v4) 11 v4) 24 (f.r 13)) 25 v6) 13 v6) h5)))
(aBin prog .add 3 (f.r 13) (vint 1) fun v7 =>
 nx0 (RG.p (RG.p (RG.p (RG.p f 52 (f.r 16)) 24 (f.r 13)) 25 v7) 13 v7) h)) := sub_eq pok97 ct97 (by kernel_rfl)
end
end Go.Proofs.Ythnccaajpdnndaa
namespace Go.Proofs.Ythnccaajpdnndaa
open Go.Conc Go.Proofs.Try
set_option maxRecDepth 100000
def strsB : Nat → List (List UInt8)
 | 0 => [[]]
 | n + 1 => (strsB n).map (100 :: ·) ++ (strsB n).map (119 :: ·)
def fallX (s : SkyR) : Spl → List UInt8 → Bool
 | _, [] => true
 | x, c :: u => nextOk s x c && fallX s (nextX x c) u
theorem growB_strs {s : SkyR} : ∀ {n : Nat} {w : List UInt8} {x : Spl}, growB s n w x = ((strsB n).filter (fallX s x)).map (w ++ ·)
 | 0, w, x => by
  have e : List.filter (fallX s x) [[]] = [[]] := by
   rw [List.filter_cons, if_pos (show fallX s x [] = true by unfold fallX; rfl)]
   rfl
  show [w] = (List.filter (fallX s x) [[]]).map (w ++ ·)
  rw [e]
  simp
 | n + 1, w, x => by
  have part : ∀ c : UInt8, (if nextOk s x c = true then growB s n (w ++ [c]) (nextX x c) else []) = (((strsB n).map (c :: ·)).filter (fallX s x)).map (w ++ ·) := by
   intro c
   rw [List.filter_map]
   by_cases h : nextOk s x c = true
   ·rw [if_pos h, growB_strs]
    have : (fallX s x ∘ fun x => c :: x) = fallX s (nextX x c) := by
     funext u
     show (nextOk s x c && fallX s (nextX x c) u) = _
     rw [h, Bool.true_and]
    rw [this, List.map_map]
    congr 1
    funext u
    simp
   ·rw [if_neg h]
    have h' : nextOk s x c = false := by simpa using h
    have : (fallX s x ∘ fun x => c :: x) = fun _ => false := by
     funext u
     show (nextOk s x c && fallX s (nextX x c) u) = _
     rw [h', Bool.false_and]
    rw [this]
    simp
  unfold growB strsB
  rw [part, part, List.filter_append, List.map_append]
theorem rainsB_strs {s : SkyR} : rainsB s = (strsB s.days.toNat).filter (fallX s (0, 0)) := by
 unfold rainsB
 rw [growB_strs]
 simp
theorem strsB_len : ∀ {n : Nat}, ∀ u ∈ strsB n, u.length = n ∧ ∀ c ∈ u, c = 100 ∨ c = 119
 | 0, u, hu => by
  rw [List.mem_singleton.1 hu]
  exact ⟨rfl, by simp⟩
 | n + 1, u, hu => by
  unfold strsB at hu
  rcases List.mem_append.1 hu with hu | hu <;> obtain ⟨v, hv, rfl⟩ := List.mem_map.1 hu <;> obtain ⟨h1, h2⟩ := strsB_len v hv
  ·exact ⟨by rw [List.length_cons, h1], fun c hc => by
   rcases List.mem_cons.1 hc with h | h
   ·exact .inl h
   ·exact h2 c h⟩
  ·exact ⟨by rw [List.length_cons, h1], fun c hc => by
   rcases List.mem_cons.1 hc with h | h
   ·exact .inr h
   ·exact h2 c h⟩
theorem strsB_few : ∀ {n : Nat}, (strsB n).length = 2 ^ n
 | 0 => rfl
 | n + 1 => by
  unfold strsB
  rw [List.length_append, List.length_map, List.length_map, strsB_few, Nat.pow_succ]
  omega
def splN (w : List UInt8) : Nat → Spl
 | 0 => (0, 0)
 | k + 1 => nextX (splN w k) (w.getD k 0)
theorem splN_row {w : List UInt8} : ∀ k, 0 ≤ (splN w k).2 ∧ (splN w k).2 ≤ k
 | 0 => ⟨Int.le_refl _, Int.le_refl _⟩
 | k + 1 => by
  have := splN_row (w := w) k
  unfold splN nextX
  split
  ·exact ⟨by dsimp only; omega, by dsimp only; omega⟩
  ·exact ⟨by dsimp only; omega, by dsimp only; omega⟩
theorem splN_letter {w : List UInt8} {k : Nat} : (splN w (k + 1)).1 = w.getD k 0 := by
 unfold splN nextX
 split <;> rfl
theorem fallX_drop {s : SkyR} {w : List UInt8} : ∀ {n k : Nat}, k + n = w.length → (fallX s (splN w k) (w.drop k) = true ↔ ∀ i, k ≤ i → i < w.length → nextOk s (splN w i) (w.getD i 0) = true)
 | 0, k, h => by
  rw [List.drop_of_length_le (by omega)]
  exact ⟨fun _ i h1 h2 => absurd h2 (by omega), fun _ => rfl⟩
 | n + 1, k, h => by
  have hk : k < w.length := by omega
  rw [List.drop_eq_getElem_cons hk]
  have hg : w[k] = w.getD k 0 := by
   rw [List.getD_eq_getElem?_getD, List.getElem?_eq_getElem hk]
   rfl
  rw [hg]
  show (nextOk s (splN w k) (w.getD k 0) && fallX s (nextX (splN w k) (w.getD k 0)) (w.drop (k + 1))) = true ↔ _
  have hs : nextX (splN w k) (w.getD k 0) = splN w (k + 1) := rfl
  rw [hs, Bool.and_eq_true, fallX_drop (n := n) (by omega)]
  constructor
  ·rintro ⟨h1, h2⟩ i hi1 hi2
   by_cases e : i = k
   ·rw [e]
    exact h1
   ·exact h2 i (by omega) hi2
  ·intro hh
   exact ⟨hh k (Nat.le_refl _) hk, fun i h1 h2 => hh i (by omega) h2⟩
theorem fallX_all {s : SkyR} {w : List UInt8} : fallX s (0, 0) w = true ↔ ∀ i, i < w.length → nextOk s (splN w i) (w.getD i 0) = true := by
 have := fallX_drop (s := s) (w := w) (n := w.length) (k := 0) (by omega)
 rw [List.drop_zero] at this
 exact this.trans ⟨fun h i hi => h i (Nat.zero_le _) hi, fun h i _ hi => h i hi⟩
theorem fallX_no {s : SkyR} {w : List UInt8} {i : Nat} (hi : i < w.length) (h : nextOk s (splN w i) (w.getD i 0) = false) : fallX s (0, 0) w = false := by
 cases e : fallX s (0, 0) w with
 | false => rfl
 | true =>
  have := fallX_all.1 e i hi
  rw [h] at this
  cases this
theorem next_row {s : SkyR} (g : skyOk s) {w : List UInt8} {i : Nat} : nextOk s (splN w i) (w.getD i 0) = decide (¬ (splN w (i + 1)).2 > (if w.getD i 0 = 119 then s.flood else s.drought)) := by
 obtain ⟨g1, g2, g3⟩ := g
 have e : splN w (i + 1) = nextX (splN w i) (w.getD i 0) := rfl
 rw [e]
 unfold nextOk nextX
 by_cases h : (splN w i).1 ≠ w.getD i 0
 ·rw [if_pos h, if_pos h]
  refine (decide_eq_true ?_).symm
  dsimp only
  split <;> omega
 ·rw [if_neg h, if_neg h]
  refine decide_eq_decide.2 ?_
  dsimp only
  split <;> omega
section
variable {main : Bool} {J : JT} {h H : List AObj} {K : Value → List AObj → Prop} {KV : Value → Prop} {HL : List AObj → Prop} {n0 : Nat}
theorem good82 (hJ : Closed prog main J) {n lo hi : Int} (hK : K (.bool (decide (lo ≤ n ∧ n ≤ hi))) h) : Good prog J 82 [vint n, vint lo, vint hi] h K := by
 refine g82 hJ fun ok => ?_
 rw [e82]
 refine geqI (cndI (fun h1 => leqI (retL_same (by simp [unk]) ?_)) fun h1 => retL_same (by simp [unk]) ?_)
 ·simpa [pack, h1] using hK
 ·simpa [pack, h1] using hK
theorem good37 (hJ : Closed prog main J) {p : Pas} (hK : K (vint (pasE p)) h) : Good prog J 37 [.agg ⟨p.cells⟩] h K := by
 refine g37 hJ fun ok => ?_
 rw [e37]
 refine qBox (l := p.cells) rfl fun H1 p1 e1 S1 c1 l1 => ?_
 have fin : ∀ e : Int, pasE p = e → retL h.length K [] [vint e] H1 := fun e he => by
  subst he
  exact retX ok (Nat.le_refl _) S1 (by simp) (by simp [unk]) (by simp [pack, VOk]) hK
 have no : ∀ {q : Prop}, (pasOk p → q) → ¬ q → retL h.length K [] [vint 1] H1 := fun a b => fin 1 (by unfold pasE; rw [if_neg fun x => b (a x)])
 refine offI (ldI (v := vint p.bears) c1 rfl rfl (good82 hJ (notI (cndN (fun h1 => hold.2 ?_) fun h1 => ?_))))
 ·rw [s37_1]
  exact cnd_true.2 (no (fun x => x.1) h1)
 refine offI (ldI (v := vint p.grass) c1 rfl rfl (offI (ldI (v := vint p.bears) c1 rfl rfl (good82 hJ (notI (cndN (fun h2 => hold.2 ?_) fun h2 => ?_))))))
 ·rw [s37_1]
  exact cnd_true.2 (no (fun x => x.2.1) h2)
 refine offI (ldI (v := vint p.dry) c1 rfl rfl (good82 hJ (notI (cndN (fun h3 => hold.2 ?_) fun h3 => ?_))))
 ·rw [s37_1]
  exact cnd_true.2 (no (fun x => x.2.2.1) h3)
 refine offI (ldI (v := vint p.wet) c1 rfl rfl (offI (ldI (v := vint p.dry) c1 rfl rfl (good82 hJ (notI (cndN (fun h4 => hold.2 ?_) fun h4 => ?_))))))
 ·rw [s37_1]
  exact cnd_true.2 (no (fun x => x.2.2.2.1) h4)
 refine offI (ldI (v := vint p.stubble) c1 rfl rfl (offI (ldI (v := vint p.bears) c1 rfl rfl (good82 hJ (notI (cndN (fun h5 => hold.2 ?_) fun h5 => ?_))))))
 ·rw [s37_1]
  exact cnd_true.2 (no (fun x => x.2.2.2.2.1) h5)
 refine offI (ldI (v := vint p.sleep) c1 rfl rfl (good82 hJ (notI (hold.2 ?_))))
 rw [s37_1]
 refine cndN (fun h6 => no (fun x => x.2.2.2.2.2) h6) fun h6 => fin 0 ?_
 unfold pasE
 rw [if_pos ⟨h1, h2, h3, h4, h5, h6⟩]
theorem good81 (hJ : Closed prog main J) {s : SkyR} (hK : K (vint (skyE s)) h) : Good prog J 81 [.agg ⟨s.cells⟩] h K := by
 refine g81 hJ fun ok => ?_
 rw [e81]
 refine qBox (l := s.cells) rfl fun H1 p1 e1 S1 c1 l1 => ?_
 have fin : ∀ e : Int, skyE s = e → retL h.length K [] [vint e] H1 := fun e he => by
  subst he
  exact retX ok (Nat.le_refl _) S1 (by simp) (by simp [unk]) (by simp [pack, VOk]) hK
 have no : ∀ {q : Prop}, (skyOk s → q) → ¬ q → retL h.length K [] [vint 1] H1 := fun a b => fin 1 (by unfold skyE; rw [if_neg fun x => b (a x)])
 refine offI (ldI (v := vint s.days) c1 rfl rfl (good82 hJ (notI (cndN (fun h1 => hold.2 ?_) fun h1 => ?_))))
 ·rw [s81_1]
  exact cnd_true.2 (no (fun x => x.1) h1)
 refine offI (ldI (v := vint s.drought) c1 rfl rfl (offI (ldI (v := vint s.days) c1 rfl rfl (good82 hJ (notI (cndN (fun h2 => hold.2 ?_) fun h2 => ?_))))))
 ·rw [s81_1]
  exact cnd_true.2 (no (fun x => x.2.1) h2)
 refine offI (ldI (v := vint s.flood) c1 rfl rfl (offI (ldI (v := vint s.days) c1 rfl rfl (good82 hJ (notI (hold.2 ?_))))))
 rw [s81_1]
 refine cndN (fun h3 => no (fun x => x.2.2) h3) fun h3 => fin 0 ?_
 unfold skyE
 rw [if_pos ⟨h1, h2, h3⟩]
def stC (x : Std) : List Value := [vint x.1, vint x.2]
theorem good133 (hJ : Closed prog main J) {p : Pas} {x : Std} {n : Int} {w : Bool} (f : pasOk p) (o : StdOk p x) (hn : 0 ≤ n ∧ n ≤ 1000000)
  (hK : ∀ H', SameX [] H H' → K (.tuple ⟨[.agg ⟨stC (dayR p x n w)⟩, .bool (shortR p x n), .bool (hungR x n)]⟩) H') : Good prog J 133 [.agg ⟨p.cells⟩, .agg ⟨stC x⟩, vint n, .bool w] H K := by
 refine g133 hJ fun ok => ?_
 rw [e133]
 have og := o.g
 have oa := o.a
 have hb := leftR_bd o hn.1
 obtain ⟨f1, f2, f3, f4, f5, f6⟩ := f
 refine qBox (l := p.cells) rfl fun H1 p1 e1 S1 c1 l1 => qBox (l := stC x) rfl fun H2 p2 e2 S2 c2 l2 => qAl fun H3 p3 e3 S3 c3 l3 => ?_
 have c13 := S3.get (S2.get c1 (by simp)) (by simp)
 have c23 := S3.get c2 (by simp)
 have T3 := (S1.trans S2).trans S3
 refine offI (ldI (v := vint x.1) c23 rfl rfl (lssI (offI (ldI (v := vint x.1) c23 rfl rfl (subI (by omega) (maxI ?_))))))
 have el : max 0 (x.1 - n) = leftR x n := by unfold leftR; omega
 have eh : decide (x.1 < n) = hungR x n := by unfold hungR; exact decide_eq_decide.2 (by omega)
 rw [el, eh]
 have post : ∀ {F : RG}, F.ds = [] → F.r 3 = .bool w → F.r 4 = ptr p1 0 → F.r 5 = ptr p2 0 → F.r 8 = ptr p3 0 → F.r 11 = .bool (hungR x n) → F.r 12 = vint (leftR x n) → F.r 30 = .bool (shortR p x n) →
   W prog J 58 H.length 133 (subC [1, 1, 1, 0, 1] (codeOf f133)) F H3 (contX pl133 prog J 58 H.length 133 ct133 [1, 1, 1, 0, 1] (codeOf f133) [] (RetQ prog [.cell 8 167, .tmp 9, .tmp 10] H.length K)) := by
  intro F ds r3 r4 r5 r8 r11 r12 r30
  rw [s133_1, r3, r4, r5, r8, r11, r12, r30]
  have fin : ∀ {y : Std} {H4 : List AObj} {F' : RG}, dayR p x n w = y → SameX [p3] H3 H4 → H4[p3]? = some (.cells (stC y) true 0) → F'.ds = [] → F'.r 8 = ptr p3 0 → F'.r 9 = .bool (shortR p x n) → F'.r 10 = .bool (hungR x n) → RetQ prog [.cell 8 167, .tmp 9, .tmp 10] H.length K .ret F' H4 := fun hy S4 c4 q0 q8 q9 q10 => by
   subst hy
   refine retQs q0 (resW_cell (gg := true) (s := 2) (by kernel_rfl) ?_)
   rw [q8]
   refine load_part (c := stC (dayR p x n w)) c4 (by simp [stC]) rfl rfl (resW_tmp (by rw [q9]; simp [unk]) (resW_tmp (by rw [q10]; simp [unk]) (resW_nil ?_)))
   rw [q9, q10]
   exact hK _ (T3.thru S4 (by simp; omega))
  refine cndB (fun hs => ?_) fun hs => ?_
  ·refine offI (ldI (v := vint p.sleep) c13 rfl rfl (fillO (l := [vint (leftR x n)]) rfl rfl rfl (by decide) (fillO (l := [vint p.sleep]) rfl rfl rfl (by rw [wrAt_length]; decide) (fillI ?_))))
   refine qStA (c := stC (leftR x n, p.sleep)) c3 rfl rfl rfl fun H4 S4 c4 l4 => fin (y := (leftR x n, p.sleep)) ?_ S4 c4 ds r8 (by rw [hs]; rfl) rfl
   unfold dayR
   rw [if_pos hs]
  ·have hs' : ¬ shortR p x n = true := by rw [hs]; decide
   refine offI (ldI (v := vint x.2) c23 rfl rfl (gtrI (cndI (fun h0 => ?_) fun h0 => ?_)))
   ·refine offI (ldI (v := vint x.2) c23 rfl rfl (subI (by omega) (fillO (l := [vint (leftR x n)]) rfl rfl rfl (by decide) (fillO (l := [vint (x.2 - 1)]) rfl rfl rfl (by rw [wrAt_length]; decide) (fillI ?_)))))
    refine qStA (c := stC (leftR x n, x.2 - 1)) c3 rfl rfl rfl fun H4 S4 c4 l4 => fin (y := (leftR x n, x.2 - 1)) ?_ S4 c4 ds r8 (by rw [hs]; rfl) rfl
    unfold dayR
    rw [if_neg hs', if_pos h0]
   ·have hx2 : x.2 = 0 := by omega
    refine offI (ldI (v := vint p.dry) c13 rfl rfl (cndB (fun hw => ?_) fun hw => ?_))
    ·refine offI (ldI (v := vint p.wet) c13 rfl rfl (offI (ldI (v := vint p.bears) c13 rfl rfl (addI (by omega) (minI (fillO (l := [vint (min p.bears (leftR x n + p.wet))]) rfl rfl rfl (by decide) (fillO (l := [vint 0]) rfl rfl rfl (by rw [wrAt_length]; decide) (fillI ?_))))))))
     refine qStA (c := stC (min p.bears (leftR x n + p.wet), 0)) c3 rfl rfl rfl fun H4 S4 c4 l4 => fin (y := (min p.bears (leftR x n + p.wet), 0)) ?_ S4 c4 ds r8 (by rw [hs]; rfl) rfl
     unfold dayR
     rw [if_neg hs', if_neg h0, if_pos hw, hx2]
    ·refine offI (ldI (v := vint p.bears) c13 rfl rfl (addI (by omega) (minI (fillO (l := [vint (min p.bears (leftR x n + p.dry))]) rfl rfl rfl (by decide) (fillO (l := [vint 0]) rfl rfl rfl (by rw [wrAt_length]; decide) (fillI ?_))))))
     refine qStA (c := stC (min p.bears (leftR x n + p.dry), 0)) c3 rfl rfl rfl fun H4 S4 c4 l4 => fin (y := (min p.bears (leftR x n + p.dry), 0)) ?_ S4 c4 ds r8 (by rw [hs]; rfl) rfl
     unfold dayR
     rw [if_neg hs', if_neg h0, if_neg (by rw [hw]; decide), hx2]
 refine gtrI (cndI (fun h0 => ?_) fun h0 => hold.2 ?_)
 ·refine offI (ldI (v := vint p.stubble) c13 rfl rfl (lssI (hold.2 ?_)))
  refine post rfl rfl rfl rfl rfl rfl rfl ?_
  show Value.bool _ = Value.bool _
  unfold shortR
  rw [decide_eq_true h0]
  rfl
 ·refine post rfl rfl rfl rfl rfl rfl rfl ?_
  show Value.bool _ = Value.bool _
  unfold shortR
  rw [decide_eq_false h0]
  rfl
theorem good129 (hJ : Closed prog main J) {s : SkyR} {w : List UInt8} (g : skyOk s) (hl : (w.length : Int) = s.days) (hw : ∀ c ∈ w, c = 100 ∨ c = 119) (hK : ∀ H', SameX [] H H' → K (.bool (fallX s (0, 0) w)) H') : Good prog J 129 [.agg ⟨s.cells⟩, strV w] H K := by
 refine g129 hJ fun ok => ?_
 rw [e129]
 obtain ⟨g1, g2, g3⟩ := id g
 refine qBox (l := s.cells) rfl fun H1 p1 e1 S1 c1 l1 => lenStrI (offI (ldI (v := vint s.days) c1 rfl rfl (neqI (cndI (fun hne => absurd hl hne) fun _ => ?_))))
 refine l129_1 hJ (fun i : Nat => w.length - i) (fun i F H' => SameX [] H1 H' ∧ i ≤ w.length ∧ (∀ j, j < i → nextOk s (splN w j) (w.getD j 0) = true) ∧ F.ds = [] ∧ F.r 1 = strV w ∧ F.r 2 = ptr p1 0 ∧ F.r 5 = vint (splN w i).2 ∧ F.r 6 = vint (i : Nat)) ?_ (s := 0)
  (.inl ⟨SameX.refl, by omega, fun j hj => absurd hj (Nat.not_lt_zero _), rfl, rfl, rfl, rfl, rfl⟩)
 rintro i F H' ⟨S, hi, hno, ds, r1, r2, r5, r6⟩ okc hnc
 rw [s129_1, r1, r6, ds]
 refine lenStrI (lssI (cndI (fun hlt => ?_) fun hge => ?_))
 rotate_left
 ·have : i = w.length := by omega
  subst this
  have := hK H' (S1.trans S)
  rw [fallX_all.2 hno] at this
  exact retL_same (by simp [unk]) this
 have hil : i < w.length := by omega
 have gi : w[i]? = some (w.getD i 0) := by rw [List.getD_eq_getElem?_getD, List.getElem?_eq_getElem hil]; rfl
 have hrow := splN_row (w := w) (i + 1)
 have hrow0 := splN_row (w := w) i
 have hlet := hw _ (List.mem_of_getElem? gi)
 have hnext := next_row g (w := w) (i := i)
 have cp := S.get c1 (by simp)
 -- behind the counting
 have post3 : ∀ {F' : RG}, F'.ds = [] → F'.r 1 = strV w → F'.r 2 = ptr p1 0 → F'.r 5 = vint (splN w (i + 1)).2 → F'.r 6 = vint (i : Nat) →
   W prog J 54 H.length 129 (subC [1, 1, 1, 0, 1, 0, 0, 1, 0, 0, 1] (codeOf f129)) F' H' (contX pl129 prog J 54 H.length 129 ct129 [1, 1, 1, 0, 1, 0, 0, 1, 0, 0, 1] (codeOf f129) [Nx H.length (fun i : Nat => w.length - i) (fun i F H' => SameX [] H1 H' ∧ i ≤ w.length ∧ (∀ j, j < i → nextOk s (splN w j) (w.getD j 0) = true) ∧ F.ds = [] ∧ F.r 1 = strV w ∧ F.r 2 = ptr p1 0 ∧ F.r 5 = vint (splN w i).2 ∧ F.r 6 = vint (i : Nat)) i] (RetQ prog [.tmp 4] H.length K)) := by
  intro F' ds r1 r2 r5 r6
  rw [s129_3, r1, r2, r5, r6]
  have e100 : (Value.int .u8 100) = .int .u8 (100 : UInt8).toNat := rfl
  have bad : ∀ {F2 : RG}, nextOk s (splN w i) (w.getD i 0) = false → F2.ds = [] → F2.r 53 = .bool true →
    W prog J 54 H.length 129 (subC [1, 1, 1, 0, 1, 0, 0, 1, 0, 0, 1, 1] (codeOf f129)) F2 H' (contX pl129 prog J 54 H.length 129 ct129 [1, 1, 1, 0, 1, 0, 0, 1, 0, 0, 1, 1] (codeOf f129) [Nx H.length (fun i : Nat => w.length - i) (fun i F H' => SameX [] H1 H' ∧ i ≤ w.length ∧ (∀ j, j < i → nextOk s (splN w j) (w.getD j 0) = true) ∧ F.ds = [] ∧ F.r 1 = strV w ∧ F.r 2 = ptr p1 0 ∧ F.r 5 = vint (splN w i).2 ∧ F.r 6 = vint (i : Nat)) i] (RetQ prog [.tmp 4] H.length K)) := by
   intro F2 hb d2 q53
   rw [s129_4, q53, d2]
   have := hK H' (S1.trans S)
   rw [fallX_no hil hb] at this
   exact cnd_true.2 (retL_same (by simp [unk]) this)
  have fine : ∀ {F2 : RG}, nextOk s (splN w i) (w.getD i 0) = true → F2.ds = [] → F2.r 1 = strV w → F2.r 2 = ptr p1 0 → F2.r 5 = vint (splN w (i + 1)).2 → F2.r 6 = vint (i : Nat) → F2.r 53 = .bool false →
    W prog J 54 H.length 129 (subC [1, 1, 1, 0, 1, 0, 0, 1, 0, 0, 1, 1] (codeOf f129)) F2 H' (contX pl129 prog J 54 H.length 129 ct129 [1, 1, 1, 0, 1, 0, 0, 1, 0, 0, 1, 1] (codeOf f129) [Nx H.length (fun i : Nat => w.length - i) (fun i F H' => SameX [] H1 H' ∧ i ≤ w.length ∧ (∀ j, j < i → nextOk s (splN w j) (w.getD j 0) = true) ∧ F.ds = [] ∧ F.r 1 = strV w ∧ F.r 2 = ptr p1 0 ∧ F.r 5 = vint (splN w i).2 ∧ F.r 6 = vint (i : Nat)) i] (RetQ prog [.tmp 4] H.length K)) := by
   intro F2 hb d2 q1 q2 q5 q6 q53
   rw [s129_4, q53, q6]
   refine cnd_false.2 (addI (by omega) ⟨i + 1, by dsimp only; omega, .inl ⟨S, by omega, fun j hj => ?_, d2, q1, q2, q5, by show vint _ = vint _; congr 1⟩⟩)
   by_cases e : j = i
   ·rw [e]
    exact hb
   ·exact hno j (by omega)
  refine byteI gi ?_
  rw [e100]
  refine eqlU (cndI (fun hd => ?_) fun hd => ?_)
  ·have hno9 : ¬ w.getD i 0 = 119 := by rw [hd]; decide
   rw [if_neg hno9] at hnext
   refine offI (ldI (v := vint s.drought) cp rfl rfl (gtrI (cndI (fun hgt => hold.2 (bad ?_ ds rfl)) fun hle => byteI gi (eqlW ?_))))
   ·rw [hnext]
    exact decide_eq_false (not_not_intro hgt)
   ·have : wetB (w.getD i 0) = false := decide_eq_false hno9
    rw [this]
    refine cnd_false.2 (hold.2 (fine ?_ ds r1 r2 r5 r6 rfl))
    rw [hnext]
    exact decide_eq_true hle
  ·have h9 : w.getD i 0 = 119 := hlet.resolve_left hd
   rw [if_pos h9] at hnext
   refine byteI gi (eqlW ?_)
   have : wetB (w.getD i 0) = true := decide_eq_true h9
   rw [this]
   refine cnd_true.2 (offI (ldI (v := vint s.flood) cp rfl rfl (gtrI (hold.2 ?_))))
   by_cases hgt : (splN w (i + 1)).2 > s.flood
   ·rw [decide_eq_true hgt]
    refine bad ?_ ds rfl
    rw [hnext]
    exact decide_eq_false (not_not_intro hgt)
   ·rw [decide_eq_false hgt]
    refine fine ?_ ds r1 r2 r5 r6 rfl
    rw [hnext]
    exact decide_eq_true hgt
 have post2 : ∀ {F' : RG} {z : Bool}, z = decide ((splN w i).1 = w.getD i 0 ∧ 0 < i) → F'.ds = [] → F'.r 1 = strV w → F'.r 2 = ptr p1 0 → F'.r 5 = vint (splN w i).2 → F'.r 6 = vint (i : Nat) → F'.r 29 = .bool z →
   W prog J 54 H.length 129 (subC [1, 1, 1, 0, 1, 0, 0, 1, 0, 0, 0, 1] (codeOf f129)) F' H' (contX pl129 prog J 54 H.length 129 ct129 [1, 1, 1, 0, 1, 0, 0, 1, 0, 0, 0, 1] (codeOf f129) [Nx H.length (fun i : Nat => w.length - i) (fun i F H' => SameX [] H1 H' ∧ i ≤ w.length ∧ (∀ j, j < i → nextOk s (splN w j) (w.getD j 0) = true) ∧ F.ds = [] ∧ F.r 1 = strV w ∧ F.r 2 = ptr p1 0 ∧ F.r 5 = vint (splN w i).2 ∧ F.r 6 = vint (i : Nat)) i] (RetQ prog [.tmp 4] H.length K)) := by
  intro F' z hz ds r1 r2 r5 r6 r29
  rw [s129_2, r29, r5]
  have e : splN w (i + 1) = nextX (splN w i) (w.getD i 0) := rfl
  cases z with
  | true =>
   have hc := of_decide_eq_true hz.symm
   refine cnd_true.2 (addI (by omega) (hold.2 (post3 ds r1 r2 ?_ r6)))
   rw [e]
   unfold nextX
   rw [if_neg (not_not_intro hc.1)]
   rfl
  | false =>
   have hc := of_decide_eq_false hz.symm
   refine cnd_false.2 (hold.2 (post3 ds r1 r2 ?_ r6))
   rw [e]
   unfold nextX
   by_cases hne : (splN w i).1 ≠ w.getD i 0
   ·rw [if_pos hne]
    rfl
   ·have hi0 : i = 0 := by
     rcases Nat.eq_zero_or_pos i with x | x
     ·exact x
     ·exact absurd ⟨Classical.not_not.1 hne, x⟩ hc
    have : (0 : UInt8) = w.getD i 0 := by
     have := Classical.not_not.1 hne
     rw [hi0] at this ⊢
     exact this
    rcases hlet with x | x <;> rw [x] at this <;> cases this
 refine gtrI (cndI (fun hpos => ?_) fun hz => hold.2 ?_)
 ·have hip : 0 < i := by omega
  obtain ⟨k, rfl⟩ : ∃ k, i = k + 1 := ⟨i - 1, by omega⟩
  have gk : w[k]? = some (w.getD k 0) := by rw [List.getD_eq_getElem?_getD, List.getElem?_eq_getElem (by omega)]; rfl
  refine byteI gi (subI (by omega) ?_)
  rw [show (((k + 1 : Nat) : Int) - 1) = ((k : Nat) : Int) by omega]
  refine byteI gk (eqlU (hold.2 (post2 ?_ ds r1 r2 r5 r6 rfl)))
  refine decide_eq_decide.2 ?_
  rw [splN_letter]
  exact ⟨fun e => ⟨e.symm, by omega⟩, fun e => e.1.symm⟩
 ·refine post2 (z := false) ?_ ds r1 r2 r5 r6 rfl
  exact (decide_eq_false fun e => hz (by omega)).symm
end
end Go.Proofs.Ythnccaajpdnndaa
