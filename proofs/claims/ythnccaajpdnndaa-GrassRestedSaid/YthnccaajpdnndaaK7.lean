/- GrassRested answers true at every input, and its argument reads behind the call as it read before. No conditions. -/
import Derived.Test.YthnccaajpdnndaaK3
import Derived.Test.YthnccaajpdnndaaK2
import Derived.Test.YthnccaajpdnndaaK6
import Derived.Test.YthnccaajpdnndaaK5
namespace Go.Proofs.Ythnccaajpdnndaa
open Go.Conc Go.Proofs.Try
set_option maxRecDepth 100000
set_option maxHeartbeats 4000000
set_option linter.unusedVariables false
section
variable {main : Bool} {J : JT} {n0 : Nat} {h : List AObj} {K : Value → List AObj → Prop}
theorem at5 : prog.funcs[5]? = some f5 := by kernel_rfl
theorem body5 : f5.body = some (codeOf f5) := by kernel_rfl
def pl5 : Plans := [(3, false, .take 0 (.take 1 (.take 3 (.take 4 (.alt 2 true (.last 5 true (.last 6 false (.take 7 (.take 8 (.take 9 (.take 10 (.take 11 (.fin)))))))) (.last 5 true (.last 2 true (.last 6 false (.take 7 (.take 8 (.take 9 (.take 10 (.take 11 (.fin)))))))))))))),
  (10, true, .take 0 (.take 1 (.take 2 (.take 3 (.take 4 (.take 5 (.take 6 (.take 7 (.take 8 (.take 9 (.take 10 (.take 11 (.take 12 (.take 13 (.take 14 (.fin))))))))))))))))]
def ct5 : Cuts := .bin (.go) (.bin (.go) (.bin (.go) (.bin (.go) (.cut (.bin (.bin (.go) (.cut (.go))) (.bin (.go) (.bin (.bin (.go) (.un (.un (.bin (.go) (.bin (.un (.bin (.bin (.go) (.cut (.go))) (.go))) (.go)))))) (.go))))))))
theorem pok5 : plansOk prog pl5 (codeOf f5) = true := by kernel_rfl
theorem e5 {a0 : Value} : W prog J 61 h.length 5 (codeOf f5) (RG.mk (regs [a0]) []) h (RetQ prog [.tmp 2] h.length K) =
(Good prog J 22 [a0] h fun v1 h2 =>
 Good prog J 24 [v1] h2 fun v3 h4 =>
 Good prog J 23 [v1, (vint 1), (vint 8)] h4 fun v5 h6 =>
 aAlloc [(vint 0), (vint 0), (vint 0), (vint 0), (vint 0), (vint 0)] h6 fun v7 h8 =>
 aStore 6 v7 v3 h8 fun h9 =>
(∃ B, aLoad true 6 v7 h9 fun v10 =>
 RdOk (some B) (ptrBlk v7) ∧ ((((List.length [(vint 0)] = 1 ∧ (8 : Nat) ≤ 1024) ∧ aMkS [(vint 0)] v5 v5 h9 fun v11 h12 =>
 SameB (some B) h9 h12 ∧ (Good prog J 31 [v1, v5] h12 fun v13 h14 =>
 SameB (some B) h9 h14 ∧ (Good prog J 32 [v10, v11, v13] h14 fun v15 h16 =>
 aExt v15 0 fun v17 =>
 aExt v15 1 fun v18 =>
 Hold (W prog J 61 h.length 5 (subC [1, 1, 1, 1] (codeOf f5)) (RG.p (RG.p (RG.p (RG.p (RG.p (RG.p (RG.p (RG.p (RG.p (RG.p (RG.p (RG.p (RG.p (RG.p (RG.p (RG.p (RG.p (RG.p (RG.p (RG.p (RG.p (RG.p (RG.mk (regs [a0]) []) 2 (Value.bool false)) 10 a0) 11 v1) 3 v1) 12 v1) 13 v3) 14 v1) 15 v5) 4 v7) 5 v5) 17 v10) 18 v5) 20 v1) 21 v5) 19 v11) 22 v13) 23 v15) 16 v15) 24 v17) 25 v18) 6 v17) 7 v18) h16 (contX pl5 prog J 61 h.length 5 ct5 [1, 1, 1, 1] (codeOf f5) [] (RetQ prog [.tmp 2] h.length K))))))) ∧ (Good prog J 31 [v1, v5] h9 fun v19 h20 =>
 SameB (some B) h9 h20 ∧ (((List.length [(vint 0)] = 1 ∧ (8 : Nat) ≤ 1024) ∧ aMkS [(vint 0)] v5 v5 h20 fun v21 h22 =>
 SameB (some B) h9 h22 ∧ (Good prog J 32 [v10, v21, v19] h22 fun v23 h24 =>
 aExt v23 0 fun v25 =>
 aExt v23 1 fun v26 =>
 Hold (W prog J 61 h.length 5 (subC [1, 1, 1, 1] (codeOf f5)) (RG.p (RG.p (RG.p (RG.p (RG.p (RG.p (RG.p (RG.p (RG.p (RG.p (RG.p (RG.p (RG.p (RG.p (RG.p (RG.p (RG.p (RG.p (RG.p (RG.p (RG.p (RG.p (RG.mk (regs [a0]) []) 2 (Value.bool false)) 10 a0) 11 v1) 3 v1) 12 v1) 13 v3) 14 v1) 15 v5) 4 v7) 5 v5) 17 v10) 18 v5) 20 v1) 21 v5) 22 v19) 19 v21) 23 v23) 16 v23) 24 v25) 25 v26) 6 v25) 7 v26) h24 (contX pl5 prog J 61 h.length 5 ct5 [1, 1, 1, 1] (codeOf f5) [] (RetQ prog [.tmp 2] h.length K)))))))))) := top_eq pok5 ct5 (by kernel_rfl)
theorem g5 (hJ : Closed prog main J) {a0 : Value} (hs : heapOk h → W prog J 61 h.length 5 (codeOf f5) (RG.mk (regs [a0]) []) h (RetQ prog [.tmp 2] h.length K)) : Good prog J 5 [a0] h K :=
  good_of_W hJ mixed at5 body5 (by kernel_rfl) (Nat.le_of_ble_eq_true rfl) hs
theorem s5_1 {f : RG} : W prog J 61 n0 5 (subC [1, 1, 1, 1] (codeOf f5)) f h (contX pl5 prog J 61 n0 5 ct5 [1, 1, 1, 1] (codeOf f5) [] (RetQ prog [.tmp 2] n0 K)) =
(aBin prog .neq 37 (f.r 7) (vint 0) fun v1 =>
 cnd v1
(Hold (W prog J 61 n0 5 (subC [1, 1, 1, 1, 0, 1] (codeOf f5)) (RG.p (RG.p (RG.p (RG.p (RG.p (RG.p (RG.p (RG.p (RG.p f 26 (f.r 7)) 27 v1) 28 v1) 28 (Value.bool true)) 29 undef) 30 undef) 31 undef) 32 undef) 33 (Value.bool true)) h (contX pl5 prog J 61 n0 5 ct5 [1, 1, 1, 1, 0, 1] (codeOf f5) [] (RetQ prog [.tmp 2] n0 K))))
(aLenS (f.r 6) fun v2 =>
 aBin prog .neq 3 v2 (f.r 5) fun v3 =>
 Hold (W prog J 61 n0 5 (subC [1, 1, 1, 1, 0, 1] (codeOf f5)) (RG.p (RG.p (RG.p (RG.p (RG.p (RG.p (RG.p (RG.p (RG.p f 26 (f.r 7)) 27 v1) 28 v1) 28 (Value.bool false)) 29 (f.r 6)) 30 v2) 31 (f.r 5)) 32 v3) 33 v3) h (contX pl5 prog J 61 n0 5 ct5 [1, 1, 1, 1, 0, 1] (codeOf f5) [] (RetQ prog [.tmp 2] n0 K))))) := sub_eq pok5 ct5 (by kernel_rfl)
theorem s5_2 {f : RG} : W prog J 61 n0 5 (subC [1, 1, 1, 1, 0, 1] (codeOf f5)) f h (contX pl5 prog J 61 n0 5 ct5 [1, 1, 1, 1, 0, 1] (codeOf f5) [] (RetQ prog [.tmp 2] n0 K)) =
(cnd (f.r 33)
(retL n0 K f.ds [(Value.bool false)] h)
(aOff (f.r 4) 0 fun v1 =>
 aLoad false 1 v1 h fun v2 =>
 Sem J 61 n0 5 (subC [1, 1, 1, 1, 1, 1, 0, 1, 0] (codeOf f5)) (RG.p (RG.p (RG.p (RG.p f 34 v1) 35 v2) 8 v2) 9 (vint 0)) h (contX pl5 prog J 61 n0 5 ct5 [1, 1, 1, 1, 1, 1, 0, 1, 0] (codeOf f5) [] (RetQ prog [.tmp 2] n0 K)))) := sub_eq pok5 ct5 (by kernel_rfl)
theorem s5_3 {f : RG} {nx0 : RG → List AObj → Prop} : W prog J 61 n0 5 (subC [1, 1, 1, 1, 1, 1, 0, 1, 0, 0] (codeOf f5)) f h (thenK nx0 (contX pl5 prog J 61 n0 5 ct5 [1, 1, 1, 1, 1, 1, 0, 1, 0] (codeOf f5) [] (RetQ prog [.tmp 2] n0 K))) =
(aBin prog .lss 3 (f.r 9) (f.r 5) fun v1 =>
 cnd v1
(aIdx 1 (f.r 6) (f.r 9) fun v2 =>
 aLoad false 1 v2 h fun v3 =>
 aBin prog .lss 3 v3 (f.r 8) fun v4 =>
 cnd v4
(Hold (W prog J 61 n0 5 (subC [1, 1, 1, 1, 1, 1, 0, 1, 0, 0, 1, 0, 0, 0, 1] (codeOf f5)) (RG.p (RG.p (RG.p (RG.p (RG.p (RG.p (RG.p (RG.p (RG.p (RG.p (RG.p (RG.p (RG.p (RG.p (RG.p (RG.p (RG.p (RG.p (RG.p f 36 (f.r 9)) 37 (f.r 5)) 38 v1) 41 (f.r 6)) 42 (f.r 9)) 43 v2) 44 v3) 45 (f.r 8)) 46 v4) 47 v4) 47 (Value.bool true)) 48 undef) 49 undef) 50 undef) 51 undef) 52 undef) 53 undef) 54 undef) 55 (Value.bool true)) h (contX pl5 prog J 61 n0 5 ct5 [1, 1, 1, 1, 1, 1, 0, 1, 0, 0, 1, 0, 0, 0, 1] (codeOf f5) [nx0] (RetQ prog [.tmp 2] n0 K))))
(aIdx 1 (f.r 6) (f.r 9) fun v5 =>
 aLoad false 1 v5 h fun v6 =>
 aOff (f.r 4) 1 fun v7 =>
 aLoad false 1 v7 h fun v8 =>
 aBin prog .gtr 3 v6 v8 fun v9 =>
 Hold (W prog J 61 n0 5 (subC [1, 1, 1, 1, 1, 1, 0, 1, 0, 0, 1, 0, 0, 0, 1] (codeOf f5)) (RG.p (RG.p (RG.p (RG.p (RG.p (RG.p (RG.p (RG.p (RG.p (RG.p (RG.p (RG.p (RG.p (RG.p (RG.p (RG.p (RG.p (RG.p (RG.p f 36 (f.r 9)) 37 (f.r 5)) 38 v1) 41 (f.r 6)) 42 (f.r 9)) 43 v2) 44 v3) 45 (f.r 8)) 46 v4) 47 v4) 47 (Value.bool false)) 48 (f.r 6)) 49 (f.r 9)) 50 v5) 51 v6) 52 v7) 53 v8) 54 v9) 55 v9) h (contX pl5 prog J 61 n0 5 ct5 [1, 1, 1, 1, 1, 1, 0, 1, 0, 0, 1, 0, 0, 0, 1] (codeOf f5) [nx0] (RetQ prog [.tmp 2] n0 K)))))
(Good prog J 21 [] h fun v10 h11 =>
 retL n0 K f.ds [v10] h11)) := sub_eq pok5 ct5 (by kernel_rfl)
theorem l5_3 (hJ : Closed prog main J) {S : Type} (μ : S → Nat) (I : S → RG → List AObj → Prop) (hI : ∀ s f h, I s f h → heapOk h → n0 ≤ h.length → W prog J 61 n0 5 (subC [1, 1, 1, 1, 1, 1, 0, 1, 0, 0] (codeOf f5)) f h (thenK (Nx n0 μ I s) (contX pl5 prog J 61 n0 5 ct5 [1, 1, 1, 1, 1, 1, 0, 1, 0] (codeOf f5) [] (RetQ prog [.tmp 2] n0 K))))
  {s : S} {f : RG} (hi : Gets n0 I s f h) : Sem J 61 n0 5 (subC [1, 1, 1, 1, 1, 1, 0, 1, 0] (codeOf f5)) f h (contX pl5 prog J 61 n0 5 ct5 [1, 1, 1, 1, 1, 1, 0, 1, 0] (codeOf f5) [] (RetQ prog [.tmp 2] n0 K)) :=
  loop_rule hJ mixed (b := subC [1, 1, 1, 1, 1, 1, 0, 1, 0, 0] (codeOf f5)) (by kernel_rfl) μ I hI hi
theorem s5_4 {f : RG} {nx0 : RG → List AObj → Prop} : W prog J 61 n0 5 (subC [1, 1, 1, 1, 1, 1, 0, 1, 0, 0, 1, 0, 0, 0, 1] (codeOf f5)) f h (contX pl5 prog J 61 n0 5 ct5 [1, 1, 1, 1, 1, 1, 0, 1, 0, 0, 1, 0, 0, 0, 1] (codeOf f5) [nx0] (RetQ prog [.tmp 2] n0 K)) =
(cnd (f.r 55)
(retL n0 K f.ds [(Value.bool false)] h)
(aIdx 1 (f.r 6) (f.r 9) fun v1 =>
 aLoad false 1 v1 h fun v2 =>
 aBin prog .add 3 (f.r 9) (vint 1) fun v3 =>
 nx0 (RG.p (RG.p (RG.p (RG.p (RG.p (RG.p (RG.p (RG.p f 56 (f.r 6)) 57 (f.r 9)) 58 v1) 59 v2) 8 v2) 39 (f.r 9)) 40 v3) 9 v3) h)) := sub_eq pok5 ct5 (by kernel_rfl)
end
end Go.Proofs.Ythnccaajpdnndaa
namespace Go.Proofs.Ythnccaajpdnndaa
open Go.Conc Go.Proofs.Try
set_option maxRecDepth 100000
structure FineG (q p : Pas) : Prop where
  grass : p.grass ≤ q.grass
  bears : q.bears = p.bears
  dry : p.dry ≤ q.dry
  wet : p.wet ≤ q.wet
  stubble : q.stubble ≤ p.stubble
  sleep : q.sleep ≤ p.sleep
theorem FineG.refl {p : Pas} : FineG p p := ⟨Int.le_refl _, rfl, Int.le_refl _, Int.le_refl _, Int.le_refl _, Int.le_refl _⟩
def wetter (v w : List UInt8) : Prop := ∀ i, wetB (w.getD i 0) = true → wetB (v.getD i 0) = true
theorem wetter.refl {w : List UInt8} : wetter w w := fun _ h => h
theorem rest_up {p : Pas} {hs : List Int} {w : List UInt8} (f : pasOk p) (h0 : ∀ i, hs.getD i 0 = 0) (hh : headsOk hs) (k : Nat) : (stdR p hs w k).1 ≤ (stdR p hs w (k + 1)).1 := by
  have o := stdR_ok (rain := w) f hh k
  show _ ≤ (dayR p (stdR p hs w k) (hs.getD k 0) (wetB (w.getD k 0))).1
  rw [h0]
  have := o.g
  have e : leftR (stdR p hs w k) 0 = (stdR p hs w k).1 := by unfold leftR; omega
  obtain ⟨f1, f2, f3, f4, f5, f6⟩ := f
  unfold dayR shortR
  rw [e, if_neg (by simp)]
  split
  · exact Int.le_refl _
  · dsimp only
    split <;> omega
end Go.Proofs.Ythnccaajpdnndaa
namespace Go.Proofs.Ythnccaajpdnndaa
open Go.Conc Go.Proofs.Try
set_option maxRecDepth 100000
set_option maxHeartbeats 4000000
set_option linter.unusedVariables false
section
variable {main : Bool} {J : JT} {n0 : Nat} {h : List AObj} {K : Value → List AObj → Prop}
theorem at31 : prog.funcs[31]? = some f31 := by kernel_rfl
theorem body31 : f31.body = some (codeOf f31) := by kernel_rfl
def pl31 : Plans := []
def ct31 : Cuts := .go
theorem pok31 : plansOk prog pl31 (codeOf f31) = true := by kernel_rfl
theorem e31 {a0 a1 : Value} : W prog J 19 h.length 31 (codeOf f31) (RG.mk (regs [a0, a1]) []) h (RetQ prog [.tmp 4] h.length K) =
(Sem J 19 h.length 31 (subC [1, 1, 0, 1, 0] (codeOf f31)) (RG.p (RG.p (RG.p (RG.mk (regs [a0, a1]) []) 4 (Value.string { data := #[] })) 5 (Value.string { data := #[] })) 6 (vint 0)) h (contX pl31 prog J 19 h.length 31 ct31 [1, 1, 0, 1, 0] (codeOf f31) [] (RetQ prog [.tmp 4] h.length K))) := top_eq pok31 ct31 (by kernel_rfl)
theorem g31 (hJ : Closed prog main J) {a0 a1 : Value} (hs : heapOk h → W prog J 19 h.length 31 (codeOf f31) (RG.mk (regs [a0, a1]) []) h (RetQ prog [.tmp 4] h.length K)) : Good prog J 31 [a0, a1] h K :=
  good_of_W hJ mixed at31 body31 (by kernel_rfl) (Nat.le_of_ble_eq_true rfl) hs
theorem s31_1 {f : RG} {nx0 : RG → List AObj → Prop} : W prog J 19 n0 31 (subC [1, 1, 0, 1, 0, 0] (codeOf f31)) f h (thenK nx0 (contX pl31 prog J 19 n0 31 ct31 [1, 1, 0, 1, 0] (codeOf f31) [] (RetQ prog [.tmp 4] n0 K))) =
(aBin prog .lss 3 (f.r 6) (f.r 1) fun v1 =>
 cnd v1
(Good prog J 42 [(f.r 0), (vint 1), (vint 2)] h fun v2 h3 =>
 cnd v2
(aBin prog .add 9 (f.r 5) (Value.string { data := #[100] }) fun v4 =>
 aBin prog .add 3 (f.r 6) (vint 1) fun v5 =>
 nx0 (RG.p (RG.p (RG.p (RG.p (RG.p (RG.p (RG.p (RG.p (RG.p (RG.p (RG.p f 7 (f.r 6)) 8 (f.r 1)) 9 v1) 12 (f.r 0)) 13 v2) 14 (f.r 5)) 15 v4) 5 v4) 10 (f.r 6)) 11 v5) 6 v5) h3)
(aBin prog .add 9 (f.r 5) (Value.string { data := #[119] }) fun v6 =>
 aBin prog .add 3 (f.r 6) (vint 1) fun v7 =>
 nx0 (RG.p (RG.p (RG.p (RG.p (RG.p (RG.p (RG.p (RG.p (RG.p (RG.p (RG.p f 7 (f.r 6)) 8 (f.r 1)) 9 v1) 12 (f.r 0)) 13 v2) 16 (f.r 5)) 17 v6) 5 v6) 10 (f.r 6)) 11 v7) 6 v7) h3))
(retL n0 K f.ds [(f.r 5)] h)) := sub_eq pok31 ct31 (by kernel_rfl)
theorem l31_1 (hJ : Closed prog main J) {S : Type} (μ : S → Nat) (I : S → RG → List AObj → Prop) (hI : ∀ s f h, I s f h → heapOk h → n0 ≤ h.length → W prog J 19 n0 31 (subC [1, 1, 0, 1, 0, 0] (codeOf f31)) f h (thenK (Nx n0 μ I s) (contX pl31 prog J 19 n0 31 ct31 [1, 1, 0, 1, 0] (codeOf f31) [] (RetQ prog [.tmp 4] n0 K))))
  {s : S} {f : RG} (hi : Gets n0 I s f h) : Sem J 19 n0 31 (subC [1, 1, 0, 1, 0] (codeOf f31)) f h (contX pl31 prog J 19 n0 31 ct31 [1, 1, 0, 1, 0] (codeOf f31) [] (RetQ prog [.tmp 4] n0 K)) :=
  loop_rule hJ mixed (b := subC [1, 1, 0, 1, 0, 0] (codeOf f31)) (by kernel_rfl) μ I hI hi
theorem at42 : prog.funcs[42]? = some f42 := by kernel_rfl
theorem body42 : f42.body = some (codeOf f42) := by kernel_rfl
def pl42 : Plans := []
def ct42 : Cuts := .go
theorem pok42 : plansOk prog pl42 (codeOf f42) = true := by kernel_rfl
theorem e42 {a0 a1 a2 : Value} : W prog J 13 h.length 42 (codeOf f42) (RG.mk (regs [a0, a1, a2]) []) h (RetQ prog [.tmp 6] h.length K) =
(aBin prog .sub 3 a2 (vint 1) fun v1 =>
 Good prog J 26 [a0, v1] h fun v2 h3 =>
 aBin prog .lss 3 v2 a1 fun v4 =>
 retL h.length K [] [v4] h3) := top_eq pok42 ct42 (by kernel_rfl)
theorem g42 (hJ : Closed prog main J) {a0 a1 a2 : Value} (hs : heapOk h → W prog J 13 h.length 42 (codeOf f42) (RG.mk (regs [a0, a1, a2]) []) h (RetQ prog [.tmp 6] h.length K)) : Good prog J 42 [a0, a1, a2] h K :=
  good_of_W hJ mixed at42 body42 (by kernel_rfl) (Nat.le_of_ble_eq_true rfl) hs
end
end Go.Proofs.Ythnccaajpdnndaa
namespace Go.Proofs.Ythnccaajpdnndaa
open Go.Conc Go.Proofs.Try
set_option maxRecDepth 100000
section
variable {main : Bool} {J : JT} {h H : List AObj} {K : Value → List AObj → Prop} {KV : Value → Prop} {HL : List AObj → Prop} {n0 : Nat} {ns : List Int} {k : Nat}
theorem strAddR {c : UInt8} {u : List UInt8} {t : TypeId} (hu : u.length ≤ 1000000) (hk : KV (strV (u ++ [c]))) : aBin prog .add t (strV u) (Value.string { data := #[c] }) KV := by
  have hrm : (2000000 : Nat) < room := by decide
  show (ByteArray.mk ⟨u⟩).size + (ByteArray.mk #[c]).size ≤ room ∧ KV (.string (ByteArray.mk ⟨u⟩ ++ ByteArray.mk #[c]))
  have e1 : (ByteArray.mk #[c]).size = 1 := rfl
  have e2 : (ByteArray.mk ⟨u⟩).size = u.length := rfl
  have e3 : ByteArray.mk ⟨u⟩ ++ ByteArray.mk #[c] = ByteArray.mk ⟨u ++ [c]⟩ := by
    apply ByteArray.ext
    rw [ByteArray.data_append]
    apply Array.ext'
    rw [Array.toList_append]
  rw [e1, e2, e3]
  exact ⟨by omega, hk⟩
theorem good42 (hJ : Closed prog main J) (a : HX h H ns k) (hk : k < 900000) {x y : Int} (hy : -1000000 ≤ y ∧ y ≤ 1000000)
    (hK : ∀ b H', SameX [h.length] H H' → H'.length = H.length → HX h H' ns (k + 1) → K (.bool b) H') : Good prog J 42 [ptr h.length 0, vint x, vint y] H K := by
  refine g42 hJ fun ok => ?_
  rw [e42]
  refine subI (by omega) (upX hJ a (by omega) (by omega) fun u H1 u1 u2 S1 l1 a1 => lssI (retL_same (by simp [unk]) (hK _ H1 S1 l1 a1)))
theorem good31 (hJ : Closed prog main J) (a : HX h H ns k) (hk : k < 400000) {D : Nat} (hD : D ≤ 8)
    (hK : ∀ (w : List UInt8) H', w.length = D → (∀ c ∈ w, c = 100 ∨ c = 119) → SameX [h.length] H H' → HX h H' ns (k + 8) → K (strV w) H') : Good prog J 31 [ptr h.length 0, vint (D : Nat)] H K := by
  refine g31 hJ fun ok => ?_
  rw [e31]
  have hlt := hxLt a
  refine l31_1 hJ (fun i : Nat => D - i) (fun i F H' => i ≤ D ∧ (∃ w, w.length = i ∧ (∀ c ∈ w, c = 100 ∨ c = 119) ∧ F.r 5 = strV w) ∧ SameX [h.length] H H' ∧ HX h H' ns (k + i) ∧ F.ds = [] ∧ F.r 0 = ptr h.length 0 ∧ F.r 1 = vint (D : Nat) ∧ F.r 6 = vint (i : Nat)) ?_ (s := 0)
    (.inl ⟨Nat.zero_le _, ⟨[], rfl, by simp, rfl⟩, SameX.refl, a, rfl, rfl, rfl, rfl⟩)
  rintro i F H' ⟨hi, ⟨w, hw, hc, r5⟩, S, b, ds, r0, r1, r6⟩ okc hnc
  rw [s31_1, r0, r1, r5, r6, ds]
  refine lssI (cndI (fun hl => ?_) fun hge => ?_)
  · have more : ∀ {c : UInt8}, (c = 100 ∨ c = 119) → ∀ d ∈ w ++ [c], d = 100 ∨ d = 119 := fun {c} h d hd => by
      rcases List.mem_append.1 hd with e | e
      · exact hc d e
      · rw [List.mem_singleton.1 e]
        exact h
    refine good42 hJ b (by omega) (by omega) fun z H2 S2 l2 b2 => cndB (fun _ => ?_) fun _ => ?_
    · exact strAddR (by omega) (addI (by omega) ⟨i + 1, by dsimp only; omega, .inl ⟨by omega, ⟨w ++ [100], by simp [hw], more (.inl rfl), rfl⟩, S.trans S2, b2, ds, r0, r1, by show vint _ = vint _; congr 1⟩⟩)
    · exact strAddR (by omega) (addI (by omega) ⟨i + 1, by dsimp only; omega, .inl ⟨by omega, ⟨w ++ [119], by simp [hw], more (.inr rfl), rfl⟩, S.trans S2, b2, ds, r0, r1, by show vint _ = vint _; congr 1⟩⟩)
  · have : i = D := by omega
    subst this
    exact retL_same (by simp [unk, strV]) (hK w H' hw hc S (b.mono (by omega)))
end
theorem ask_ok {p : Pas} {heads : List Int} {w : List UInt8} (f : pasOk p) (hw : 1 ≤ w.length ∧ w.length ≤ 8) (hl : heads.length = w.length) (hh : headsOk heads) (ho : wordOk w) : askE p heads w = 0 := by
  have e1 : cntE (w.length : Nat) 1 8 = 0 := by
    unfold cntE
    rw [if_neg (by omega), if_neg (by omega)]
  have e2 : fst2 (pasE p) (cntE (w.length : Nat) 1 8) = 0 := by
    unfold pasE
    rw [if_pos f, e1]
    rfl
  have e3 : hunE heads (w.length : Nat) = 0 := by
    unfold hunE
    have e4 : cntE (heads.length : Nat) (w.length : Nat) (w.length : Nat) = 0 := by
      unfold cntE
      rw [if_neg (by omega), if_neg (by omega)]
    have hq : ∀ n ∈ heads, 0 ≤ n ∧ n ≤ 40 := hh
    rw [if_neg (not_not_intro e4), if_pos hq]
  unfold askE
  rw [if_neg (not_not_intro e2), if_neg (not_not_intro e3), if_pos ho]
theorem endsZ_get {p : Pas} {hs : List Int} {w : List UInt8} {k i : Nat} (h : i < k) : (endsZ p hs w k)[i]? = some (stdR p hs w (i + 1)).1 := by
  unfold endsZ
  rw [List.getElem?_map, List.getElem?_range h]
  rfl
section
variable {main : Bool} {J : JT} {H : List AObj} {K : Value → List AObj → Prop}
theorem mkZ {d : Nat} (hd : d ≤ 8) (hk : ∀ H' p, SameX [] H H' → H'[p]? = some (.cells ((List.replicate d (0 : Int)).map vint) true 0) → p = H.length → K (.slice (some ⟨p, 0, none⟩) d d) H') : (List.length [(vint 0)] = 1 ∧ (8 : Nat) ≤ 1024) ∧ aMkS [(vint 0)] (vint (d : Nat)) (vint (d : Nat)) H K := by
  have hrm : (2000 : Nat) < room := by decide
  have zl : ∀ k, zrep [vint 0] k = (List.replicate k (0 : Int)).map vint := by
    intro k
    induction k with
    | zero => rfl
    | succ k ih =>
      show [vint 0] ++ zrep [vint 0] k = _
      rw [ih, List.replicate_succ]
      rfl
  refine ⟨by decide, by omega, Int.le_refl _, by omega, ?_⟩
  have := hk (H ++ [AObj.cells (zrep [vint 0] d) true 0]) H.length SameX.refl.app (by rw [zl]; simp) rfl
  simpa using this
end
section
variable {W0 : World} {Post : Value → World → Prop} {h : List AObj} {K : Value → List AObj → Prop}
set_option maxHeartbeats 1000000 in
theorem walk5 {nv : Value} {ns : List Int} (sn : Sli h nv 1 ns.length (ns.map vint)) (hln : ns.length < 4611686018427387904) (hK : ∀ H', K (.bool true) H') :
    W prog (J2 prog W0 Post) 61 h.length 5 (codeOf f5) (RG.mk (regs [nv]) []) h (RetQ prog [.tmp 2] h.length K) := by
  have hJ := J2.closed prog W0 Post
  rw [e5]
  refine newX hJ sn hln fun H1 a1 => good24 hJ a1 (by omega) fun p H2 fp _ S2 a2 => amX hJ a2 (by omega) (by omega) (by omega) fun dy H3 d0 d1 S3 l3' a3 => ?_
  obtain ⟨d, rfl⟩ := Int.eq_ofNat_of_zero_le (by omega : 0 ≤ dy)
  have l3 := hxLt a3
  refine qAl fun H4 p4 e4 S4 c4 l4 => qStA (c := p.cells) c4 rfl rfl rfl fun H5 S5 c5 l5 => ?_
  have T35 : SameX [] H3 H5 := S4.thru S5 (by simp; omega)
  have a5 := HX.same a3 T35 (by simp)
  have b4 := lt_of_get c5
  have hz : ∀ i, (List.replicate d (0 : Int)).getD i 0 = 0 := fun i => by
    rw [List.getD_eq_getElem?_getD, List.getElem?_replicate]
    split <;> rfl
  have hh : headsOk (List.replicate d (0 : Int)) := fun x hx => by
    rw [List.eq_of_mem_replicate hx]
    decide
  have tail : ∀ {F : RG} {H' : List AObj} {w : List UInt8} {v : Value}, SameX [h.length] H5 H' → w.length = d → Sli H' v 1 (endsZ p (List.replicate d 0) w d).length ((endsZ p (List.replicate d 0) w d).map vint) → F.ds = [] → F.r 4 = ptr p4 0 → F.r 5 = vint (d : Nat) → F.r 6 = v → F.r 7 = vint 0 →
      W prog (J2 prog W0 Post) 61 h.length 5 (subC [1, 1, 1, 1] (codeOf f5)) F H' (contX pl5 prog (J2 prog W0 Post) 61 h.length 5 ct5 [1, 1, 1, 1] (codeOf f5) [] (RetQ prog [.tmp 2] h.length K)) := by
    intro F H' w v S hw sv ds r4 r5 r6 r7
    have cp := S.get c5 (by simp; omega)
    rw [s5_1, r5, r6, r7]
    refine neqI (cndI (fun h => absurd rfl h) fun _ => lenI sv (neqI (hold.2 ?_)))
    rw [s5_2]
    refine cndI (fun h => absurd (by rw [endsZ_len]) h) fun _ => ?_
    show aOff (F.r 4) 0 _
    rw [r4]
    refine offI (ldI (v := vint p.grass) cp rfl rfl ?_)
    refine l5_3 hJ (fun i : Nat => d - i) (fun i F H2 => i ≤ d ∧ H2 = H' ∧ F.ds = [] ∧ F.r 4 = ptr p4 0 ∧ F.r 5 = vint (d : Nat) ∧ F.r 6 = v ∧ F.r 8 = vint (stdR p (List.replicate d 0) w i).1 ∧ F.r 9 = vint (i : Nat)) ?_ (s := 0)
      (.inl ⟨Nat.zero_le _, rfl, ds, r4, r5, r6, rfl, rfl⟩)
    clear ds r4 r5 r6 r7
    rintro i F H2 ⟨hi, rfl, ds, r4, r5, r6, r8, r9⟩ okc hnc
    rw [s5_3, r4, r5, r6, r8, r9, ds]
    refine lssI (cndI (fun hl => ?_) fun _ => good21 fun H13 _ => retL_same (by simp [unk]) (hK H13))
    have hg := endsZ_get (p := p) (hs := List.replicate d 0) (w := w) (k := d) (i := i) (by omega)
    have up := rest_up (w := w) fp hz hh i
    have up2 := (stdR_ok (rain := w) fp hh (i + 1)).g
    refine sliN sv hg fun q => lssI (cndI (fun h => absurd h (by omega)) fun _ => sliN sv hg fun q => offI (ldI (v := vint p.bears) cp rfl rfl (gtrI (hold.2 ?_))))
    rw [s5_4]
    refine cndI (fun h => absurd h (by omega)) fun _ => ?_
    show aIdx 1 (F.r 6) (F.r 9) _
    rw [r6, r9]
    refine sliN sv hg fun q => ?_
    show aBin prog .add 3 (F.r 9) (vint 1) _
    rw [r9]
    exact addI (by omega) ⟨i + 1, by dsimp only; omega, .inl ⟨by omega, rfl, ds, r4, r5, r6, rfl, by show vint _ = vint _; congr 1⟩⟩
  have wz : ∀ {w : List UInt8}, w.length = d → (∀ c ∈ w, c = 100 ∨ c = 119) → askE p (List.replicate d 0) w = 0 := fun {w} hw hc => ask_ok fp (by omega) (by rw [List.length_replicate, hw]) hh hc
  have sl : ∀ {H' : List AObj} {q : Nat}, H'[q]? = some (.cells ((List.replicate d (0 : Int)).map vint) true 0) → Sli H' (.slice (some ⟨q, 0, none⟩) d d) 1 (List.replicate d (0 : Int)).length ((List.replicate d (0 : Int)).map vint) := fun {H' q} hq => by
    rw [List.length_replicate]
    exact sli_new (wr := true) (sz := 0) hq (by simp) (kn_ints _)
  have ez : ∀ {H' : List AObj} {w : List UInt8} {v : Value}, w.length = d → Sli H' v 1 w.length ((endsZ p (List.replicate d 0) w w.length).map vint) → Sli H' v 1 (endsZ p (List.replicate d 0) w d).length ((endsZ p (List.replicate d 0) w d).map vint) := fun {H' w v} hw sv => by
    rw [hw] at sv
    rw [endsZ_len]
    exact sv
  refine ⟨[p4], load_part (c := p.cells) c5 (by simp [Pas.cells]) rfl rfl ⟨by simp [RdOk, ptrBlk], ?_, ?_⟩⟩
  · refine mkZ (by omega) fun H6 q S6 c6 e6 => ⟨sbOne S6 b4 (by simp), good31 hJ (HX.same a5 S6 (by simp)) (by omega) (by omega) fun w H7 hw hc S7 a7 => ⟨sbOne (S6.weak0.trans S7) b4 (by simp; omega), ?_⟩⟩
    refine good32 hJ (heads := List.replicate d 0) (w := w) (sl (S7.get c6 (by simp; omega))) (by simp; omega) (by omega) (fun h => absurd (wz hw hc) h) fun _ H8 v S8 sv => ext0 (ext1 (hold.2 (tail ((S6.weak0.trans S7).trans S8.weak0) hw (ez hw sv) rfl rfl rfl rfl rfl)))
  · refine good31 hJ a5 (by omega) (by omega) fun w H6 hw hc S6 a6 => ⟨sbOne S6 b4 (by simp; omega), mkZ (by omega) fun H7 q S7 c7 e7 => ⟨sbOne (S6.trans S7.weak0) b4 (by simp; omega), ?_⟩⟩
    refine good32 hJ (heads := List.replicate d 0) (w := w) (sl c7) (by simp; omega) (by omega) (fun h => absurd (wz hw hc) h) fun _ H8 v S8 sv => ext0 (ext1 (hold.2 (tail ((S6.trans S7.weak0).trans S8.weak0) hw (ez hw sv) rfl rfl rfl rfl rfl)))
end
end Go.Proofs.Ythnccaajpdnndaa
namespace Go.Proofs.Ythnccaajpdnndaa
open Go.Conc Go.ChangeShapes Go.WideShapes Go.ChangeAt Go.RowKit Go.Proofs.Try
set_option maxRecDepth 100000
theorem lifted5 (os : Os) (started : os.Started) (H : Type) (enc : TypeId × Value → H) :
    ReturnsInLeavingWide {} checked os 5 .any (Rows.grassRestedSpec.pre6 enc prog f5 Rows.grassRestedRow.domain false) (Rows.grassRestedSpec.post enc prog f5 false true false false) := by
  refine returnsInLeavingWide_of_change_sized (C := checked) own started at5
    (ChangeSpec.witness6 (enc := enc) (C := checked) false ⟨#[], #[.slice none 0 0], []⟩ 8 (by kernel_rfl) (by kernel_rfl) (by kernel_rfl) (by kernel_rfl)) ?_
  intro W base args ds gs before hval0 hW _ hsz0 _
  have hsz : (DataW.weightsEach prog (f5.params.toList ++ Rows.grassRestedSpec.plain.varTypes prog) (ds ++ gs)).all (· ≤ reachBytes) = true := hsz0
  clear hsz0
  have hval : ∀ (j : Nat) t v, f5.params[j]? = some t → args[j]? = some v → Value.okWide prog W .any base t v := hval0
  have hW' := hW
  obtain ⟨p, q, hA0, hV, rfl, _, _⟩ := hW
  have hA : DataW.TrodAll enc prog W 0 (fun _ => true) true f5.params.toList args.toList ds p := hA0
  have hps : f5.params = #[25] := by kernel_rfl
  rw [hps] at hA hval hsz
  obtain ⟨v0, d0, rfl, rfl, h0⟩ := trodAll_one hA
  obtain ⟨rfl, rfl⟩ := trodVars_none hV
  have u3 : prog.underlying 3 = some (.int .i64) := by kernel_rfl
  have u27 : prog.underlying 25 = some (.slice 3) := by kernel_rfl
  have u4 : prog.underlying 4 = some .bool := by kernel_rfl
  have c3 : prog.cellsOf 3 = 1 := by kernel_rfl
  have b3 : prog.bytesOf 3 = 8 := by kernel_rfl
  have hlt : ∀ x ∈ p, x.block < W.heap.size := fun x hx => by simpa using hW'.lt x (by simpa using hx)
  have hargs : ∀ (W' : World), Below W.heap.size W W' → DataW.TrodAll enc prog W' 0 (fun b => decide (b < W.heap.size)) true [25] [v0] [d0] p := fun W' hn =>
    trodAll_mk1 (Below.trod laidOut (by kernel_rfl) (of_decide_eq_true (by kernel_rfl)) h0 hn hlt)
  obtain ⟨ns, sn, ok2, hbig⟩ := arg_ints u27 u3 c3 (hval 0 25 v0 rfl rfl) h0
  have hln : ns.length < 4611686018427387904 := by
    rcases hbig with rfl | ⟨es, sp, rfl, hle⟩
    · simp
    · have := sized_slice hsz (j := 0) (t := 25) (e := 3) rfl rfl u27
      rw [b3] at this
      simp only [reachBytes] at this
      omega
  obtain ⟨M, last, o, w', t', r1, r2, r3, r4⟩ := law_run2 (g := 5) (fn := f5) at5 body5 (by kernel_rfl) W [v0] (Nat.le_of_ble_eq_true (by kernel_rfl : Nat.ble 1 f5.ntmps = true))
    (by
      intro v hv
      simp only [List.mem_cons, List.not_mem_nil, or_false] at hv
      subst hv
      exact ok2)
    (fun Post => walk5 (K := fun v _ => v = .bool true) sn hln fun _ => rfl)
  refine ⟨M, last, o, w', t', r1, r2, r3, r4.mono fun v hF => ?_⟩
  obtain ⟨rfl, hbelow⟩ := hF
  refine ⟨_, _, _, [], _, [], hW', ?_, hargs _ hbelow, by rfl, hbelow.frame _, fun h => by cases h⟩
  exact trodAll_mk1 (shut_bool u4 true)
theorem grassRested_holds : Rows.GrassRestedSaid :=
  OpenClaim.holds_of_wide_leaving 5 f5 rfl rfl rfl rfl rfl rfl rfl ⟨rfl, rfl, rfl, rfl, rfl⟩ rfl rfl rfl rfl rfl (by kernel_rfl) at5 (by kernel_rfl)
    (of_decide_eq_true (by kernel_rfl)) (by unfold Func.isWrapper; first | (rw [if_pos (by decide +kernel)]; kernel_rfl) | (rw [if_neg (by decide +kernel)]; exact ⟨rfl, rfl⟩))
    (fun os started H enc _ => lifted5 os started H enc)
#print axioms grassRested_holds
end Go.Proofs.Ythnccaajpdnndaa
